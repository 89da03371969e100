/-
  Code: what the checked run does,the machine does.
-/
import Derived.Test.YtnponmgkfkdkaaaGreatDoorM2
import Derived.Orders
import Derived.Calls
import Derived.Laws.Externs
set_option linter.unusedSectionVars false
set_option linter.unusedSimpArgs false
set_option linter.unusedVariables false
namespace Go.Proofs.Xx
open Go
section
variable {P:Program}
def GK [Glob] (P:Program) (X:Extern) (run:zF):Prop:=∀ sz ops t h t' h',WF P X run sz ops t h=some (t',h')→∀ B e w tm,Rel B e h w→TR e sz t tm→∀ tv:Nat,
 ∃ e' w' tm',Rel B e' h' w'∧Turn e h w e' h' w'∧TR e' sz t' tm'∧∀ (fn:FuncId) (ro:Option Nat) (k:List Item) (ds:List Deferred) (cs:List Frame),
  Steps P (lone (fr fn ro tm (.inRegion ops (Region.schedule (P.follows .mixedOrders) ops tv) :: k) ds) cs w) (lone (fr fn ro tm' (.inRegion ops [] :: k) ds) cs w')
theorem Rel.drawn [Glob] {B:Bs} {e:Emb} {h:AH} {w:World} (r:Rel B e h w):Rel B e h { w with drawn:=w.drawn+1 } :=
 ⟨r.dom,r.wf,r.rng,fun b L o q1 q2=>(r.obj b L o q1 q2).world rfl,r.inj,r.own,r.base,r.keep,r.glob⟩
theorem Turn.drawn (e:Emb) (h:AH) (w:World):Turn e h w e h { w with drawn:=w.drawn+1 } :=
 ⟨e.le_refl,zA3 _,zA3 _,fun _ _ q _=>q,fun b L q n=>(by rw [n] at q;cases q),zA3 _,fun _ _ _=>rfl,fun _ _ _=>rfl,rfl,rfl,rfl⟩
theorem Rel.pushed [Glob] {B:Bs} {e:Emb} {h:AH} {w w':World} {o:Obj} (r:Rel B e h w) (p:Pushed w w' o):Rel B e h w' :=
 ⟨r.dom,r.wf,fun b L q=>by rw [p.size];have:=r.rng b L q;omega,fun b L ob q1 q2=>(r.obj b L ob q1 q2).world (p.old _ (r.rng b L q1)),r.inj,r.own,by rw [p.size];have:=r.base;omega,fun k hk=>(p.old k (by have:=r.base;omega)).trans (r.keep k hk),r.glob⟩
theorem Turn.pushed {w w':World} {o:Obj} (e:Emb) (h:AH) (p:Pushed w w' o):Turn e h w e h w' :=
 ⟨e.le_refl,zA3 _,zA3 _,fun _ _ q _=>q,fun b L q n=>(by rw [n] at q;cases q),by rw [p.size];omega,fun k hk _=>p.old k hk,fun _ _ _=>rfl,p.os,p.tape,p.output⟩
theorem Yi {m m1 m2:Machine} (h:Steps P m m2) (h1:step P m = .next m1) (hne:m≠m2):Steps P m1 m2:=by
 obtain ⟨n,hn⟩:=h;cases n with
 | zero=>simp [runN] at hn;exact absurd hn hne
 | succ n=>simp only [runN,h1] at hn;exact ⟨n,hn⟩
theorem VD {f1 f2:Frame} {cs:List Frame} {w1 w2:World} (h:f1.todo≠f2.todo):lone f1 cs w1≠lone f2 cs w2:=by
 intro q;have:=congrArg (fun m:Machine=>(m.gs[0]?).map fun g=>g.frame.todo) q;simp [lone] at this
 exact h this
theorem PT [Glob] {X:Extern} {run:zF} (hX:Yf P X) (hN:∀ (f:FuncId) (fn:Func),P.funcs[f]? = some fn→fn.body.isSome=true→(fn.name == "runtime.NumGoroutine")=false)
 (hD:GK P X run) (hR:Vg P run):Vg P (zC P X run):=by
 have hC:=Zc hX hN hR;have hY:=Yz hR;intro inR sz c t h x t' h' he B e w tm fn ro r T hro;unfold zC at he;split at he
 ·
  cases he
  exact ⟨e,w,tm,[],r,Turn.refl _ _ _,T,Marks.nil _ _ _,fun _=>rfl,fun ds k cs=>.one qeW⟩
 ·cases he
  exact ⟨e,w,tm,[],r,Turn.refl _ _ _,T,Marks.nil _ _ _,fun _=>rfl,fun ds k cs=>.one qdp⟩
 ·
  rename_i a b
  split at he
  ·rename_i t1 h1 h2
   obtain ⟨e1,w1,tm1,d1,r1,u1,T1,m1,z1,a1⟩:=hR _ _ _ _ _ _ _ _ h2 B e w tm fn ro r T hro;obtain ⟨e2,w2,tm2,d2,r2,u2,T2,m2,z2,a2⟩:=hR _ _ _ _ _ _ _ _ he B e1 w1 tm1 fn ro r1 T1 hro;refine ⟨e2,w2,tm2,d2 ++ d1,r2,u1.trans u2 r.dom,T2,m1.append u2 m2 u1.size,fun q=>by rw [z1 q,z2 q];rfl,fun ds k cs=>?_⟩;have s1:Steps P (lone (fr fn ro tm (.code (.seq a b) :: k) ds) cs w) (lone (fr fn ro tm1 (.code b :: k) (d1 ++ ds)) cs w1):=.head qav (a1 ds (.code b :: k) cs);have s2:=a2 (d1 ++ ds) k cs;rw [zF2];cases x with
   | norm=>exact Steps.trans s1 s2
   | exit id=>obtain ⟨k',p1,p2⟩:=s2;exact ⟨k',p1,Steps.trans s1 p2⟩
   | ret=>obtain ⟨k',p2⟩:=s2;exact ⟨k',Steps.trans s1 p2⟩
  ·rename_i hne
   obtain ⟨e1,w1,tm1,d1,r1,u1,T1,m1,z1,a1⟩:=hR _ _ _ _ _ _ _ _ he B e w tm fn ro r T hro;refine ⟨e1,w1,tm1,d1,r1,u1,T1,m1,z1,fun ds k cs=>?_⟩;have s1:=a1 ds (.code b :: k) cs;cases x with
   | norm=>exact absurd he (by rw [he] at hne;exact fun _=>hne _ _ rfl)
   | exit id=>obtain ⟨k',p1,p2⟩:=s1;exact ⟨k',by rw [p1];rfl,.head qav p2⟩
   | ret=>obtain ⟨k',p2⟩:=s1;exact ⟨k',.head qav p2⟩
 ·
  rename_i c a b
  split at he
  ·rename_i hc
   have hcv:J7 tm c = .bool true:=by have:=qC T hc;generalize J7 tm c=q at this;cases this;rfl
   obtain ⟨e1,w1,tm1,d1,r1,u1,T1,m1,z1,a1⟩:=hR _ _ _ _ _ _ _ _ he B e w tm fn ro r T hro;refine ⟨e1,w1,tm1,d1,r1,u1,T1,m1,z1,fun ds k cs=>?_⟩;have s1:=a1 ds k cs;have s0:=qbs (P:=P) (fn:=fn) (ro:=ro) (k:=k) (ds:=ds) (cs:=cs) (w:=w) (x:=a) (y:=b) hcv;cases x with
   | norm=>exact .head s0 s1
   | exit id=>obtain ⟨k',p1,p2⟩:=s1;exact ⟨k',p1,.head s0 p2⟩
   | ret=>obtain ⟨k',p2⟩:=s1;exact ⟨k',.head s0 p2⟩
  ·rename_i hc
   have hcv:J7 tm c = .bool false:=by have:=qC T hc;generalize J7 tm c=q at this;cases this;rfl
   obtain ⟨e1,w1,tm1,d1,r1,u1,T1,m1,z1,a1⟩:=hR _ _ _ _ _ _ _ _ he B e w tm fn ro r T hro;refine ⟨e1,w1,tm1,d1,r1,u1,T1,m1,z1,fun ds k cs=>?_⟩;have s1:=a1 ds k cs;have s0:=qbs (P:=P) (fn:=fn) (ro:=ro) (k:=k) (ds:=ds) (cs:=cs) (w:=w) (x:=a) (y:=b) hcv;cases x with
   | norm=>exact .head s0 s1
   | exit id=>obtain ⟨k',p1,p2⟩:=s1;exact ⟨k',p1,.head s0 p2⟩
   | ret=>obtain ⟨k',p2⟩:=s1;exact ⟨k',.head s0 p2⟩
  ·cases he
 ·
  rename_i id body
  split at he
  ·rename_i id' t1 h1 h2
   obtain ⟨e1,w1,tm1,d1,r1,u1,T1,m1,z1,a1⟩:=hR _ _ _ _ _ _ _ _ h2 B e w tm fn ro r T hro;split at he
   ·rename_i hid
    have hid:=zA6 hid;subst hid;cases he
    refine ⟨e1,w1,tm1,d1,r1,u1,T1,m1,z1,fun ds k cs=>?_⟩;obtain ⟨k',p1,p2⟩:=a1 ds (.inBlock id' :: k) cs;exact .head YN (Steps.trans p2 (.one (qeY (by rw [p1];simp [exitTo]))))
   ·rename_i hid
    cases he
    have hid:¬ id=id':=fun q=>by subst q;simp at hid
    refine ⟨e1,w1,tm1,d1,r1,u1,T1,m1,z1,fun ds k cs=>?_⟩;obtain ⟨k',p1,p2⟩:=a1 ds (.inBlock id :: k) cs;refine ⟨k',by rw [p1];simp [exitTo,hid],.head YN p2⟩
  ·rename_i hne
   obtain ⟨e1,w1,tm1,d1,r1,u1,T1,m1,z1,a1⟩:=hR _ _ _ _ _ _ _ _ he B e w tm fn ro r T hro;refine ⟨e1,w1,tm1,d1,r1,u1,T1,m1,z1,fun ds k cs=>?_⟩;have s1:=a1 ds (.inBlock id :: k) cs;cases x with
   | norm=>exact .head YN (Steps.trans s1 (.one qay))
   | exit id'=>exact absurd he (by rw [he] at hne;exact fun _=>hne _ _ _ rfl)
   | ret=>obtain ⟨k',p2⟩:=s1;exact ⟨k',.head YN p2⟩
 ·
  rename_i body
  split at he
  ·rename_i t1 h1 h2
   obtain ⟨e1,w1,tm1,d1,r1,u1,T1,m1,z1,a1⟩:=hR _ _ _ _ _ _ _ _ h2 B e w tm fn ro r T hro;obtain ⟨e2,w2,tm2,d2,r2,u2,T2,m2,z2,a2⟩:=hR _ _ _ _ _ _ _ _ he B e1 w1 tm1 fn ro r1 T1 hro;refine ⟨e2,w2,tm2,d2 ++ d1,r2,u1.trans u2 r.dom,T2,m1.append u2 m2 u1.size,fun q=>by rw [z1 q,z2 q];rfl,fun ds k cs=>?_⟩;have s1:Steps P (lone (fr fn ro tm (.code (.loop body) :: k) ds) cs w) (lone (fr fn ro tm1 (.code body :: .inLoop body :: k) (d1 ++ ds)) cs w1) :=
    .head XI (Steps.trans (a1 ds (.inLoop body :: k) cs) (.one qb8))
   have s2:=a2 (d1 ++ ds) k cs;rw [zF2];cases x with
   | norm=>exact Steps.trans s1 (Yi s2 XI (VD (fun q=>by have:=congrArg List.length q;simp [fr] at this)))
   | exit id=>obtain ⟨k',p1,p2⟩:=s2;exact ⟨k',p1,Steps.trans s1 (Yi p2 XI (VD (fun q=>by simp [fr] at q)))⟩
   | ret=>obtain ⟨k',p2⟩:=s2;exact ⟨k',Steps.trans s1 (Yi p2 XI (VD (fun q=>by simp [fr] at q)))⟩
  ·rename_i hne
   obtain ⟨e1,w1,tm1,d1,r1,u1,T1,m1,z1,a1⟩:=hR _ _ _ _ _ _ _ _ he B e w tm fn ro r T hro;refine ⟨e1,w1,tm1,d1,r1,u1,T1,m1,z1,fun ds k cs=>?_⟩;have s1:=a1 ds (.inLoop body :: k) cs;cases x with
   | norm=>exact absurd he (by rw [he] at hne;exact fun _=>hne _ _ rfl)
   | exit id=>obtain ⟨k',p1,p2⟩:=s1;exact ⟨k',by rw [p1];rfl,.head XI p2⟩
   | ret=>obtain ⟨k',p2⟩:=s1;exact ⟨k',.head XI p2⟩
 ·
  rename_i body
  obtain ⟨e1,w1,tm1,d1,r1,u1,T1,m1,z1,a1⟩:=hR _ _ _ _ _ _ _ _ he B e w tm fn ro r T hro;refine ⟨e1,w1,tm1,d1,r1,u1,T1,m1,z1,fun ds k cs=>?_⟩;have s1:=a1 ds (.inScope body :: k) cs;cases x with
  | norm=>exact .head xw (Steps.trans s1 (.one qax))
  | exit id=>obtain ⟨k',p1,p2⟩:=s1;exact ⟨k',by rw [p1];rfl,.head xw p2⟩
  | ret=>obtain ⟨k',p2⟩:=s1;exact ⟨k',.head xw p2⟩
 ·
  cases he
  exact ⟨e,w,tm,[],r,Turn.refl _ _ _,T,Marks.nil _ _ _,fun _=>rfl,fun ds k cs=>⟨k,rfl,.refl _ _⟩⟩
 ·
  cases he
  exact ⟨e,w,tm,[],r,Turn.refl _ _ _,T,Marks.nil _ _ _,fun _=>rfl,fun ds k cs=>⟨k,.refl _ _⟩⟩
 ·
  rename_i id ops
  split at he
  ·rename_i t1 h1 h2
   cases he
   have h3:Xk P X run sz ops (ops.toList.drop 0) t h=some (t',h'):=h2;obtain ⟨e1,w1,tm1,r1,u1,T1,a1⟩:=qaQ hC hY ops.size 0 t h _ _ e w tm (by omega) h3 r T;refine ⟨e1,w1,tm1,[],r1,u1,T1,Marks.nil _ _ _,fun _=>rfl,fun ds k cs=>?_⟩;have:=a1 fn ro k ds cs;rw [← List.range_eq_range'] at this;exact .head qb7 (Steps.trans this (.one X6))
  ·cases he
 ·
  rename_i id ops
  split at he
  ·rename_i t1 h1 h2
   cases he
   obtain ⟨e1,w1,tm1,r1,u1,T1,a1⟩:=hD _ _ _ _ _ _ h2 B e _ tm r.drawn T (w.tape w.drawn (.order fn id));refine ⟨e1,w1,tm1,[],r1,(Turn.drawn e h w).trans u1 r.dom,T1,Marks.nil _ _ _,fun _=>rfl,fun ds k cs=>?_⟩;exact .head xx (Steps.trans (a1 fn ro k ds cs) (.one X6))
  ·cases he
 ·
  rename_i f ps asg bo
  split at he
  rotate_left
  ·cases he
  rename_i g first captured hf
  have hro:=hro rfl;subst hro;obtain ⟨first',captured',hfv,hf1,hf2⟩:=(qC T hf).PN;split at he
  rotate_left
  ·cases he
  rename_i v1 h1 hcall
  split at he
  rotate_left
  ·cases he
  rename_i st pend sz1 t1 ps1 as1 bo1 hg1
  have pA:=zU w (.deferred (some []));have rA:=r.pushed pA;have uA:=Turn.pushed e h pA;have pB:=zU { w with heap:=w.heap.push (.deferred (some [])) } (.loop { state:=.ready,pending:=none,fn:=fn,tmps:=tm,params:=ps,assign:=asg,body:=bo,defers:=w.heap.size });have hTm:=T.mono (rA.QL ⟨w.heap.size+1,0,0⟩);have hsz:({ w with heap:=w.heap.push (.deferred (some [])) }:World).heap.size=w.heap.size+1:=by simp
  obtain ⟨rB,uB⟩:=rA.add (s:=0) (o:=.loop .ready none sz t ps.toList asg bo) pB (by
   rw [hsz];refine ⟨fn,tm,w.heap.size,?_,hTm⟩;have:=pB.new;rw [hsz] at this;rw [this])
  rw [hsz] at rB uB;have mB:Marks w.heap.size (e.put h.next ⟨w.heap.size+1,0,0⟩) _ [mark w.heap.size]:=⟨[w.heap.size],rfl,by simp,fun q hq=>by
   simp only [zB5] at hq;subst hq;refine ⟨zA3 _,(pB.old _ (by rw [hsz];omega)).trans pA.new,fun b L hb=>?_⟩;by_cases hbn:b=h.next
   ·subst hbn;rw [Emb.qL] at hb;cases hb;simp
   ·rw [Emb.qZ _ _ hbn] at hb;have:=r.rng b L hb;omega⟩
  have hargs:VRs (e.put h.next ⟨w.heap.size+1,0,0⟩) (first.toList ++ (.func (.yield h.next) #[] #[] :: captured.toList)) (first'.toList ++ (.func (.yield (w.heap.size+1)) #[] #[] :: captured'.toList)) :=
   (hf1.mono uB.le).append (.cons _ _ _ _ (.yield h.next ⟨w.heap.size+1,0,0⟩ (Emb.qL _ _ _)) (hf2.mono uB.le))
  obtain ⟨e2,v2,w2,r2,u2,-,c2⟩:=hC _ _ _ _ _ hcall B _ _ _ rB hargs;have hL2:=u2.le h.next _ (Emb.qL e h.next ⟨w.heap.size+1,0,0⟩)
  obtain ⟨fn2,tm2,D2,hb2,T2⟩:=r2.obj h.next _ _ hL2 hg1
  obtain ⟨s3,wr3⟩:=Zq (P:=P) (o:=.loop { state:=.exhausted,pending:=pend,fn:=fn2,tmps:=tm2,params:=ps1.toArray,assign:=as1,body:=bo1,defers:=D2 }) hb2 (by intro _ _ _ q;cases q);obtain ⟨r3,u3⟩:=r2.put hL2 hg1 rfl wr3 (o':=.loop .exhausted pend sz1 t1 ps1 as1 bo1) ⟨fn2,tm2,D2,wr3.here,T2⟩ (fun _=>rfl);have m3:=(mB.turn u2).turn u3;have uAll:Turn e h w e2 _ _:=((uA.trans uB r.dom).trans u2 r.dom).trans u3 r.dom;have hent:(Instr.enterLoop fn tm ps asg bo none).run P w = .ok (w.heap.size+1,[mark w.heap.size]) { w with heap:=(w.heap.push (.deferred (some []))).push (.loop { state:=.ready,pending:=none,fn:=fn,tmps:=tm,params:=ps,assign:=asg,body:=bo,defers:=w.heap.size }) }:=by
   simp only [Instr.enterLoop,zA5,run_newObj,zB1,zA1,Array.size_push];rfl
  have hargs2:(first'.toList ++ (Value.func (.yield (w.heap.size+1)) #[] #[] :: captured'.toList)).toArray=first' ++ #[.func (.yield (w.heap.size+1)) #[] #[]] ++ captured':=by apply Array.ext';simp
  rw [hargs2] at c2;have start:∀ ds k cs,Steps P (lone (fr fn none tm (.code (.rangeFunc f ps asg bo) :: k) ds) cs w) (lone (fr fn none tm (.endRangeFunc (w.heap.size+1) :: k) (mark w.heap.size :: ds)) cs w2):=by
   intro ds k cs;rcases c2 with c2|⟨c2,c3⟩
   ·exact .one (Yj hent hfv c2)
   ·exact .head (gQ hent hfv c2) (c3 (fr fn none tm (.inRangeFunc (w.heap.size+1) :: k) (mark w.heap.size :: ds)) cs)
  have hend:st≠.busy→(Instr.endLoop (w.heap.size+1)).run P w2 = .ok pend { w2 with heap:=w2.heap.setIfInBounds (w.heap.size+1) (.loop { state:=.exhausted,pending:=pend,fn:=fn2,tmps:=tm2,params:=ps1.toArray,assign:=as1,body:=bo1,defers:=D2 }) }:=by
   intro hst;have hb:(st == LoopState.busy)=false:=by cases st<;>first|rfl|exact absurd rfl hst
   simp only [Instr.endLoop,zA5,run_getLoop hb2,zA1,hb,zD9,if_false,s3,zB1]
  split at he
  ·cases he
  rename_i hst
  have hst:st≠.busy:=fun q=>hst q;have T3:=T.mono uAll.le;split at he
  ·cases he
   refine ⟨e2,_,tm,[mark w.heap.size],r3,uAll,T3,m3,(fun q=>by cases q),fun ds k cs=>?_⟩;exact Steps.trans (start ds k cs) (.one (Xe (hend hst)))
  ·rename_i id
   cases he
   refine ⟨e2,_,tm,[mark w.heap.size],r3,uAll,T3,m3,(fun q=>by cases q),fun ds k cs=>⟨k,rfl,?_⟩⟩;exact Steps.trans (start ds k cs) (.one (Xe (hend hst)))
  ·cases he
   refine ⟨e2,_,tm,[mark w.heap.size],r3,uAll,T3,m3,(fun q=>by cases q),fun ds k cs=>⟨k,?_⟩⟩;exact Steps.trans (start ds k cs) (.one (Xe (hend hst)))
  ·cases he
 ·cases he
theorem KZ [Glob] {X:Extern} (hX:Yf P X) (hN:∀ (f:FuncId) (fn:Func),P.funcs[f]? = some fn→fn.body.isSome=true→(fn.name == "runtime.NumGoroutine")=false)
 (hD:∀ run,Vg P run→GK P X run):∀ n,Vg P (exec P X n)
 | 0=>fun _ _ _ _ _ _ _ _ he=>by cases he
 | n+1=>PT hX hN (hD _ (KZ hX hN hD n)) (KZ hX hN hD n)
end
end Go.Proofs.Xx
namespace Go.Proofs.Xx
open Go
def Valid (ops:Array Oper) (p:List Nat):Prop:=∀ a j b,p=a ++ j :: b→j ∉ a∧∃ o,ops[j]? = some o∧∀ e∈o.after,Region.binds .any e=true→e.on∈a
theorem Valid.nil (ops:Array Oper):Valid ops []:=fun a j b h=>by cases a<;>cases h
theorem Valid.snoc {ops:Array Oper} {p:List Nat} (v:Valid ops p) {j:Nat} {o:Oper} (hj:j ∉ p) (ho:ops[j]? = some o) (he:∀ e∈o.after,Region.binds .any e=true→e.on∈p):Valid ops (p ++ [j]):=by
 intro a i b h;rcases List.eq_nil_or_concat b with hb|⟨b',x,hb⟩
 ·subst hb;have:=List.append_inj' h rfl;obtain ⟨h1,h2⟩:=this;cases h2
  subst h1;exact ⟨hj,o,ho,he⟩
 ·subst hb;have h':p ++ [j]=(a ++ i :: b') ++ [x]:=by rw [h];simp
  have:=List.append_inj' h' rfl;exact v a i b' this.1
theorem Valid.left {ops:Array Oper} {p q:List Nat} (v:Valid ops (p ++ q)):Valid ops p:=fun a j b h=>v a j (b ++ q) (by rw [h];simp)
theorem Valid.nodup {ops:Array Oper}:∀ (n:Nat) (p:List Nat),p.length=n→Valid ops p→p.Nodup:=by
 intro n;induction n with
 | zero=>intro p h _;have:=zE9.1 h;subst this;exact .nil
 | succ n ih =>
  intro p h v;rcases List.eq_nil_or_concat p with hp|⟨q,x,hp⟩
  ·subst hp;exact .nil
  ·rw [List.concat_eq_append] at hp;subst hp;have h1:=ih q (by simp at h;exact h) v.left;have h2:=(v q x [] rfl).1;rw [zG4];refine ⟨h1,by simp,fun y hy z hz q=>?_⟩;simp at hz;subst hz;subst q;exact h2 hy
theorem Valid.lt {ops:Array Oper} {p:List Nat} (v:Valid ops p) {j:Nat} (h:j∈p):j<ops.size:=by
 obtain ⟨a,b,rfl⟩:=List.append_of_mem h;obtain ⟨-,o,ho,-⟩:=v a j b rfl;exact (zB9.1 ho).1
theorem Yb (ms:List Nat):∀ (es:List Edge) (m k:Nat),(es.foldl (yH ms) m).testBit k=true→m.testBit k=true∨∃ e∈es,Region.binds .any e=true∧(k=e.on∨prec ms k e.on=true)
 | [],m,k,h=>.inl h
 | e :: r,m,k,h=>by
  rw [List.foldl_cons] at h;rcases Yb ms r _ k h with h|⟨e',h1,h2⟩
  ·unfold yH at h;split at h
   ·rename_i hb
    rw [Nat.testBit_or,Nat.testBit_or,zG8,zG8] at h;rcases h with h|h|h
    ·exact .inl h
    ·refine .inr ⟨e,by simp,hb,.inl ?_⟩;rw [Nat.one_shiftLeft,Nat.testBit_two_pow] at h;simpa using (show e.on=k by simpa using h).symm
    ·refine .inr ⟨e,by simp,hb,.inr ?_⟩;unfold prec;cases hm:ms[e.on]? with
     | none=>rw [hm] at h;simp at h
     | some m'=>rw [hm] at h;simpa using h
   ·exact .inl h
  ·exact .inr ⟨e',by simp [h1],h2⟩
theorem Ky:∀ (os:List Oper) (ms:List Nat),(masks os ms).length=ms.length+os.length
 | [],ms=>by simp [masks]
 | o :: r,ms=>by simp only [masks,Ky r,zB2,zC4,List.length_nil];omega
theorem VB:∀ (os:List Oper) (ms:List Nat) (i:Nat),i<ms.length→(masks os ms)[i]? = ms[i]?
 | [],ms,i,h=>rfl
 | o :: r,ms,i,h=>by
  simp only [masks];rw [VB r _ i (by simp;omega),zH7 h]
theorem wX:∀ (os:List Oper) (ms:List Nat) (i:Nat) (o:Oper),os[i]? = some o→∃ ms',ms'.length=ms.length+i∧(∀ k,k<ms'.length→ms'[k]? = (masks os ms)[k]?)∧(masks os ms)[ms.length+i]? = some (qaW ms' o)
 | [],ms,i,o,h=>by simp at h
 | o :: r,ms,i,o',h=>by
  cases i with
  | zero =>
   simp at h;subst h;refine ⟨ms,rfl,fun k hk=>(VB (o :: r) ms k hk).symm,?_⟩;simp only [masks];rw [VB r _ _ (by simp)];simp
  | succ i =>
   simp at h;obtain ⟨ms',h1,h2,h3⟩:=wX r (ms ++ [qaW ms o]) i o' h;refine ⟨ms',by rw [h1];simp;omega,fun k hk=>by simp only [masks];exact h2 k hk,?_⟩;simp only [masks];rw [← h3];congr 1
   simp;omega
theorem QC {ops:Array Oper}:∀ (j:Nat) (p a b:List Nat) (k:Nat),Valid ops p→p=a ++ j :: b→prec (masks ops.toList []) k j=true→k∈a:=by
 intro j;induction j using Nat.strongRecOn with
 | _ j ih =>
  intro p a b k v hp h;obtain ⟨-,o,ho,he⟩:=v a j b hp;have ho':ops.toList[j]? = some o:=by rw [zC1];exact ho
  obtain ⟨ms',h1,h2,h3⟩:=wX ops.toList [] j o ho';simp only [List.length_nil,zG1] at h1 h3;unfold prec at h;rw [h3] at h;simp only at h;rcases Yb ms' _ 0 k h with h|⟨e,q1,q2,q3⟩
  ·simp at h
  ·have hea:=he e (by simpa using q1) q2;rcases q3 with q3|q3
   ·rw [q3];exact hea
   ·unfold prec at q3;cases hm:ms'[e.on]? with
    | none=>rw [hm] at q3;cases q3
    | some m' =>
     have hlt:e.on<j:=by
      have:=(zD6.1 hm).1;omega
     obtain ⟨a1,a2,ha⟩:=List.append_of_mem hea;have hk:=ih e.on hlt p a1 (a2 ++ j :: b) k v (by rw [hp,ha];simp) (by
      unfold prec;rw [← h2 e.on (by omega),hm];rw [hm] at q3;exact q3)
     rw [ha];simp [hk]
theorem Yk:∀ {p q:List Nat},p.Pairwise (· < ·)→q.Pairwise (· < ·)→(∀ x,x∈p↔x∈q)→p=q
 | [],[],_,_,_=>rfl
 | [],y :: q,_,_,h=>by have:=(h y).2 (by simp);simp at this
 | x :: p,[],_,_,h=>by have:=(h x).1 (by simp);simp at this
 | x :: p,y :: q,hp,hq,h=>by
  rw [zH5] at hp hq;have hxy:x=y:=by
   have h1:=(h x).1 (by simp);have h2:=(h y).2 (by simp);rw [zE8] at h1 h2;rcases h1 with h1|h1
   ·exact h1
   ·rcases h2 with h2|h2
    ·exact h2.symm
    ·have:=hq.1 x h1;have:=hp.1 y h2;omega
  subst hxy;congr 1
  refine Yk hp.2 hq.2 fun z=>⟨fun hz=>?_,fun hz=>?_⟩
  ·have:=(h z).1 (by simp [hz]);rw [zE8] at this;rcases this with q|q
   ·subst q;have:=hp.1 z hz;omega
   ·exact q
  ·have:=(h z).2 (by simp [hz]);rw [zE8] at this;rcases this with q|q
   ·subst q;have:=hq.1 z hz;omega
   ·exact q
theorem V7:∀ {ms q:List Nat},ms.Pairwise (· < ·)→q.Pairwise (· < ·)→(∀ x∈q,x∈ms)→(∀ x∈q,∀ y∈ms,y<x→y∈q)→q=ms.take q.length
 | ms,[],_,_,_,_=>by simp
 | [],y :: q,_,_,h,_=>by have:=h y (by simp);simp at this
 | x :: ms,y :: q,hm,hq,h,hd=>by
  rw [zH5] at hm hq;have hxy:x=y:=by
   have h1:=h y (by simp);rw [zE8] at h1;rcases h1 with h1|h1
   ·exact h1.symm
   ·have h2:=hm.1 y h1;have h3:=hd y (by simp) x (by simp) h2;rw [zE8] at h3;rcases h3 with h3|h3
    ·exact h3
    ·have:=hq.1 x h3;omega
  subst hxy;rw [zC4,List.take_succ_cons];congr 1
  refine V7 hm.2 hq.2 (fun z hz=>?_) fun z hz y hy hlt=>?_
  ·have:=h z (by simp [hz]);rw [zE8] at this;rcases this with q|q
   ·subst q;have:=hq.1 z hz;omega
   ·exact q
  ·have:=hd z (by simp [hz]) y (by simp [hy]) hlt;rw [zE8] at this;rcases this with q|q
   ·subst q;have:=hm.1 y hy;omega
   ·exact q
theorem Zu (n:Nat) (C:Nat→Bool):((List.range n).filter C).Pairwise (· < ·):=List.Pairwise.filter _ List.pairwise_lt_range
def Chain (ops:Array Oper) (C:Nat→Bool):Prop:=∀ k i,k<i→i<ops.size→C k=true→C i=true→prec (masks ops.toList []) k i=true
theorem Chain.sorted {ops:Array Oper} {C:Nat→Bool} (c:Chain ops C) {p:List Nat} (v:Valid ops p):(p.filter C).Pairwise (· < ·):=by
 have hn:=Valid.nodup _ p rfl v;rw [List.pairwise_filter];rw [List.pairwise_iff_forall_sublist];intro x y hs hx hy;have hxm:x∈p:=hs.subset (by simp);have hym:y∈p:=hs.subset (by simp);have hne:x≠y:=by
  have:=hn.sublist hs;simp at this;exact this
 rcases zA7 x y with h|h
 ·exact h
 ·exfalso
  have hlt:y<x:=by omega
  have hp:=c y x hlt (v.lt hxm) hy hx;obtain ⟨a,b,hab⟩:=List.append_of_mem hxm;have hya:=QC x p a b y v hab hp;rw [hab] at hs hn;have h2:[y].Sublist b:=by
   have hxa:x ∉ a:=(v a x b hab).1;have:=hs;rw [List.sublist_append_iff] at this;obtain ⟨l1,l2,e1,e2,e3⟩:=this;cases l1 with
   | nil =>
    simp at e1;subst e1;cases e3 with
    | cons _ h=>exact (List.sublist_cons_self x [y]).trans h |>.trans (List.Sublist.refl _)
    | cons_cons _ h=>exact h
   | cons z l1 =>
    simp at e1;exact absurd (e2.subset (by simp [e1.1])) hxa
  have hyb:y∈b:=h2.subset (by simp);rw [zG4] at hn;exact hn.2.2 y hya y (by simp [hyb]) rfl
theorem Chain.qbb {ops:Array Oper} {C:Nat→Bool} {p a b:List Nat} {j:Nat} (v:Valid ops p) (hp:p=a ++ j :: b) (c:Chain ops C)
 (h1:∀ k,k<j→C k=true→prec (masks ops.toList []) k j=true) (h2:∀ k,j<k→k<ops.size→C k=true→prec (masks ops.toList []) j k=true):a.filter C=(List.range j).filter C:=by
 subst hp;refine Yk (c.sorted v.left) (Zu _ _) fun x=>?_;simp only [zE0,zE3];constructor
 ·rintro ⟨hx,hc⟩;refine ⟨?_,hc⟩;have hne:j ∉ a:=(v a j b rfl).1;rcases zE7 x j with q|q|q
  ·exact q
  ·subst q;exact absurd hx hne
  ·exfalso
   have hp:=h2 x q (v.lt (by simp [hx])) hc;obtain ⟨a1,a2,ha⟩:=List.append_of_mem hx;have:=QC x _ a1 (a2 ++ j :: b) j v (by rw [ha];simp) hp;exact hne (by rw [ha];simp [this])
 ·rintro ⟨hx,hc⟩;exact ⟨QC j _ a b x v rfl (h1 x hx hc),hc⟩
theorem Chain.take {ops:Array Oper} {C:Nat→Bool} {p:List Nat} (v:Valid ops p) (c:Chain ops C):p.filter C=((List.range ops.size).filter C).take (p.filter C).length:=by
 refine V7 (Zu _ _) (c.sorted v) (fun x hx=>?_) fun x hx y hy hlt=>?_
 ·rw [zE0] at hx ⊢;exact ⟨zE3.2 (v.lt hx.1),hx.2⟩
 ·rw [zE0] at hx hy ⊢;refine ⟨?_,hy.2⟩;have hp:=c y x hlt (v.lt hx.1) hy.2 hx.2;obtain ⟨a1,a2,ha⟩:=List.append_of_mem hx.1;have:=QC x p a1 a2 y v ha hp;rw [ha];simp [this]
theorem x9:∀ (n:Nat) (p:List Nat),p.Nodup→(∀ x∈p,x<n)→p.length≤n
 | 0,[],_,_=>zA3 _
 | 0,x :: _,_,h=>by have:=h x (by simp);omega
 | n+1,p,hn,h=>by
  have h1:=x9 n (p.erase n) (hn.erase n) fun x hx=>by
   rw [hn.mem_erase_iff] at hx;have:=h x hx.2;omega
  by_cases hm:n∈p
  ·rw [List.length_erase_of_mem hm] at h1;omega
  ·rw [List.erase_of_not_mem hm] at h1;omega
theorem qaS {n:Nat} {p:List Nat} (hn:p.Nodup) (h:∀ x∈p,x<n) (hl:p.length=n) {x:Nat} (hx:x<n):x∈p:=by
 by_cases hm:x∈p
 ·exact hm
 ·have:=x9 n (x :: p) (List.nodup_cons.2 ⟨hm,hn⟩) fun y hy=>by
   rw [zE8] at hy;rcases hy with rfl|hy
   ·exact hx
   ·exact h y hy
  simp at this;omega
theorem Chain.full {ops:Array Oper} {C:Nat→Bool} {p:List Nat} (v:Valid ops p) (c:Chain ops C) (hl:p.length=ops.size):p.filter C=(List.range ops.size).filter C:=by
 refine Yk (c.sorted v) (Zu _ _) fun x=>?_;simp only [zE0,zE3];constructor
 ·rintro ⟨hx,hc⟩;exact ⟨v.lt hx,hc⟩
 ·rintro ⟨hx,hc⟩;refine ⟨?_,hc⟩;have hn:=Valid.nodup _ p rfl v;exact qaS hn (fun y hy=>v.lt hy) hl hx
end Go.Proofs.Xx
namespace Go.Proofs.Xx
open Go
section
variable {t u:Tr Value}
theorem qJ {o:Operand} (h:∀ x∈tmpsOf o,t.get x=u.get x):ja t o=ja u o:=by
 cases o with
 | tmp k=>exact h k (by simp [tmpsOf])
 | _=>rfl
theorem ZY:∀ {os:List Operand},(∀ x∈Jz os,t.get x=u.get x)→jA t os=jA u os
 | [],_=>rfl
 | o :: r,h=>by
  simp only [jA];rw [qJ (t:=t) (u:=u) (o:=o) fun x hx=>h x (by simp [Jz,hx]),ZY (os:=r) fun x hx=>h x (by simp [Jz,hx])]
theorem Q7:∀ {os:List (Nat×Operand)},(∀ x∈Je os,t.get x=u.get x)→jC t os=jC u os
 | [],_=>rfl
 | (i,o) :: r,h=>by
  simp only [jC];rw [qJ (t:=t) (u:=u) (o:=o) fun x hx=>h x (by simp [Je,hx]),Q7 (os:=r) fun x hx=>h x (by simp [Je,hx])]
theorem Xu {o:Option Operand} (h:∀ x∈YK o,t.get x=u.get x):jd t o=jd u o:=by
 cases o with
 | none=>rfl
 | some o=>simp only [jd];rw [qJ (t:=t) (u:=u) (o:=o) fun x hx=>h x (by simpa [YK] using hx)]
theorem kU {P:Program} {h:AH} {op:Op} (hc:∀ x∈Yg op,t.get x=u.get x):zX P t h op=zX P u h op:=by
 cases op<;>simp only [zX,Yg] at hc ⊢
 case move x=>rw [qJ hc]
 case assign x=>rw [qJ hc]
 case nilCheck x=>rw [qJ hc]
 case load ty x=>rw [qJ hc]
 case unOp a b x=>rw [qJ hc]
 case convert a b x=>rw [qJ hc]
 case fieldAddr a x b=>rw [qJ hc]
 case field a x b=>rw [qJ hc]
 case extract x b=>rw [qJ hc]
 case box a x=>rw [qJ hc]
 case pick c a b =>
  rw [qJ (o:=c) fun x hx=>hc x (by simp [hx]),qJ (o:=a) fun x hx=>hc x (by simp [hx]),qJ (o:=b) fun x hx=>hc x (by simp [hx])]
 case build ty ps=>rw [Q7 hc]
 case buildSlice ty n ps=>rw [Q7 hc]
 case store ty a x=>rw [qJ (o:=a) fun y hx=>hc y (by simp [hx]),qJ (o:=x) fun y hx=>hc y (by simp [hx])]
 case binOp op ty a x _=>rw [qJ (o:=a) fun y hx=>hc y (by simp [hx]),qJ (o:=x) fun y hx=>hc y (by simp [hx])]
 case indexAddr ty a x=>rw [qJ (o:=a) fun y hx=>hc y (by simp [hx]),qJ (o:=x) fun y hx=>hc y (by simp [hx])]
 case index ty a x=>rw [qJ (o:=a) fun y hx=>hc y (by simp [hx]),qJ (o:=x) fun y hx=>hc y (by simp [hx])]
 case makeSlice ty a x=>rw [qJ (o:=a) fun y hx=>hc y (by simp [hx]),qJ (o:=x) fun y hx=>hc y (by simp [hx])]
 case lookup ty m k ok=>rw [qJ (o:=m) fun y hx=>hc y (by simp [hx]),qJ (o:=k) fun y hx=>hc y (by simp [hx])]
 case mapEntry ty m k=>rw [qJ (o:=m) fun y hx=>hc y (by simp [hx]),qJ (o:=k) fun y hx=>hc y (by simp [hx])]
 case mapUpdate ty m k x=>rw [qJ (o:=m) fun y hx=>hc y (by simp [hx]),qJ (o:=k) fun y hx=>hc y (by simp [hx]),qJ (o:=x) fun y hx=>hc y (by simp [hx])]
 case insert ty m k x=>rw [qJ (o:=m) fun y hx=>hc y (by simp [hx]),qJ (o:=k) fun y hx=>hc y (by simp [hx]),qJ (o:=x) fun y hx=>hc y (by simp [hx])]
 case entryStore ty m k x=>rw [qJ (o:=m) fun y hx=>hc y (by simp [hx]),qJ (o:=k) fun y hx=>hc y (by simp [hx]),qJ (o:=x) fun y hx=>hc y (by simp [hx])]
 case makeFunc fn a b =>
  cases fn<;>simp only
  rw [ZY (os:=a.toList) fun y hx=>hc y (by simp [hx]),ZY (os:=b.toList) fun y hx=>hc y (by simp [hx])]
 case slice ty x a b c =>
  rw [qJ (o:=x) fun y hx=>hc y (by simp [hx]),Xu (o:=a) fun y hx=>hc y (by simp [hx]),Xu (o:=b) fun y hx=>hc y (by simp [hx]),Xu (o:=c) fun y hx=>hc y (by simp [hx])]
 case call c =>
  obtain ⟨callee,args,argTypes⟩:=c;simp only at hc ⊢;rw [ZY (os:=args.toList) fun y hx=>hc y (by simp [hx])];cases callee with
  | value f=>simp only at hc ⊢;rw [qJ (o:=f) fun y hx=>hc y (by simp [hx])]
  | _=>rfl
theorem qcx {P:Program} {X:Extern} {run:zF} {h:AH} {op:Op} (hc:∀ x∈Yg op,t.get x=u.get x):vz P X run t h op=vz P X run u h op:=by
 unfold vz;rw [kU hc]
theorem Gt {P:Program} {op:Op} (hc:∀ x∈Yg op,t.get x=u.get x):jW P t op=jW P u op:=by
 cases op<;>simp only [jW,Yg] at hc ⊢
 case box a x=>rw [qJ hc]
 case buildSlice ty n ps=>rw [Q7 hc]
theorem KP {ops:Array Oper} {o:Oper} (hc:∀ x∈qaZ ops o,t.get x=u.get x):qo ops t o.guard=qo ops u o.guard:=by
 unfold qaZ at hc;unfold qo;cases hg:o.guard with
 | none=>rfl
 | some g =>
  obtain ⟨j,want⟩:=g;rw [hg] at hc;simp only at hc ⊢;cases ho:ops[j]? with
  | none=>rfl
  | some o' =>
   rw [ho] at hc;simp only at hc ⊢;cases hd:o'.dst with
   | none=>rfl
   | some d =>
    simp only;rw [hc d (by simp [qfv,hd])]
end
theorem zt {o:Option Value} {h:AH} {n:J4} (hn:qM o h=some n):∃ v,n = .val v h:=by
 unfold qM at hn;split at hn
 ·cases hn;exact ⟨_,rfl⟩
 ·cases hn
theorem Zd {P:Program} {t:Tr Value} {h:AH} {op:Op} {n:J4} (hm:Wn op=false) (ha:zX P t h op=some n):∃ v,n = .val v h:=by
 cases op<;>simp only [Wn] at hm<;>simp only [zX] at ha
 case move x=>exact zt ha
 case assign x=>exact zt ha
 case pick c a b =>
  split at ha
  ·exact zt ha
  ·exact zt ha
  ·cases ha
 case build ty ps =>
  split at ha
  ·exact zt ha
  ·cases ha
 case load ty x =>
  split at ha
  ·exact zt ha
  ·cases ha
 case nilCheck x =>
  split at ha
  ·cases ha;exact ⟨_,rfl⟩
  ·cases ha
 case binOp op ty x y _ =>
  split at ha
  ·exact zt ha
  ·cases ha
 case unOp op ty x =>
  split at ha
  ·exact zt ha
  ·cases ha
 case convert s d x =>
  split at ha
  ·split at ha
   ·cases ha;exact ⟨_,rfl⟩
   ·split at ha
    ·cases ha;exact ⟨_,rfl⟩
    ·exact zt ha
  ·cases ha
 case makeFunc fn a b =>
  cases fn<;>simp only at ha
  case func f =>
   split at ha
   ·cases ha;exact ⟨_,rfl⟩
   ·cases ha
  all_goals cases ha
 case slice ty x a b c =>
  cases c with
  | some c=>simp at hm
  | none =>
   split at ha
   ·rename_i h4
    cases h4
    exact zt ha
   ·cases ha
 case fieldAddr a x b =>
  split at ha
  ·exact zt ha
  ·cases ha
 case field a x b =>
  split at ha
  ·exact zt ha
  ·cases ha
 case indexAddr a x b =>
  split at ha
  ·exact zt ha
  ·cases ha
 case index a x b =>
  split at ha
  ·exact zt ha
  ·cases ha
 case extract x b =>
  split at ha
  ·exact zt ha
  ·cases ha
 case lookup ty m k ok =>
  split at ha
  ·exact zt ha
  ·cases ha
 case call c =>
  obtain ⟨callee,args,argTypes⟩:=c;simp only at hm ha;split at ha
  ·cases callee with
   | builtin b =>
    simp only at hm ha;unfold jk at ha;split at ha<;>first|exact zt ha|(simp at hm;done)|(cases ha;done)
   | value f=>simp at hm
   | invoke a b=>simp at hm
  ·cases ha
 all_goals first|(cases ha;done)|(simp at hm;done)
theorem qdO {P:Program} {X:Extern} {run:zF} {t:Tr Value} {h h':AH} {op:Op} {v:Value} (hm:Wn op=false) (ha:vz P X run t h op=some (v,h')):h'=h:=by
 unfold vz at ha;split at ha
 ·rename_i v0 h0 hn
  cases ha
  obtain ⟨u,hu⟩:=Zd hm hn;cases hu;rfl
 ·rename_i h0 hn
  obtain ⟨u,hu⟩:=Zd hm hn;cases hu
 ·rename_i g args hn
  obtain ⟨u,hu⟩:=Zd hm hn;cases hu
 ·rename_i g args hn
  obtain ⟨u,hu⟩:=Zd hm hn;cases hu
 ·cases ha
theorem Xl {o:Option Value} {h k:AH} {v:Value} {h1:AH} (e:qM o h=some (.val v h1)):qM o k=some (.val v k):=by
 unfold qM at e ⊢;split at e
 ·cases e;rfl
 ·cases e
theorem qeI {P:Program} {t:Tr Value} {h h1 k:AH} {op:Op} {v:Value} (hm:Wn op=false) (hr:qgK op=false) (ha:zX P t h op=some (.val v h1)):zX P t k op=some (.val v k):=by
 cases op<;>simp only [zX,Wn,qgK] at ha hm hr ⊢
 case call c =>
  obtain ⟨callee,args,argTypes⟩:=c;simp only at hm ha ⊢;cases e:jA t args.toList with
  | none=>rw [e] at ha;cases ha
  | some vs =>
   rw [e] at ha;cases callee with
   | builtin b =>
    (try simp only at hm)
    (try simp only at ha)
    (try simp only)
    unfold jk at ha ⊢;split at ha<;>first|exact Xl ha|(simp at hm;done)|(cases ha;done)
   | value f=>simp at hm
   | invoke a b=>simp at hm
 case makeFunc fn a b =>
  cases fn<;>simp only at ha ⊢
  case func f =>
   split at ha
   ·cases ha;rfl
   ·cases ha
  all_goals cases ha
 all_goals first
  | exact Xl ha
  | (split at ha<;>first|exact Xl ha|(cases ha;rfl)|(cases ha;done))
  | (cases ha;done)
  | (simp at hm;done)
  | (simp at hr;done)
theorem xG {a b:Value} (h:wM a b=true):a=b:=by
 unfold wM at h;split at h
 ·rw [beq_iff_eq] at h;rw [h]
 ·rw [zA8,decide_eq_true_iff,decide_eq_true_iff] at h;rw [h.1,h.2]
 ·rename_i x y
  have h':x.data.toList=y.data.toList:=by simpa [zK] using h
  have:x=y:=by
   cases x;cases y
   simp only at h';rw [show (_:Array UInt8)=_ from Array.ext' h']
  rw [this]
 ·rfl
 ·rw [zA8] at h;rw [zA6 h.1,zA6 h.2]
 ·rw [zA8] at h;rw [zA6 h.1,zA6 h.2]
 ·rw [zA8,zA8,zA8] at h;rw [zA6 h.1,zA6 h.2.1,zA6 h.2.2.1,zA6 h.2.2.2]
 ·rfl
 ·rfl
 ·rfl
 ·cases h
theorem Ji {f:Value→Value→Bool} (hf:∀ a b,f a b=true→a=b):∀ {c d:List Value},V8 f c d=true→c=d
 | [],[],_=>rfl
 | [],_ :: _,h=>by cases h
 | _ :: _,[],h=>by cases h
 | a :: r,b :: s,h=>by
  simp only [V8,zA8] at h;rw [hf a b h.1,Ji hf h.2]
theorem YR {a b:Value} (h:xE a b=true):a=b:=by
 unfold xE at h;split at h
 ·rw [zA8,zA8] at h;rw [zA6 h.1,Array.ext' (Ji (fun _ _=>xG) h.2.1),Array.ext' (Ji (fun _ _=>xG) h.2.2)]
 ·exact xG h
theorem qdz {a b:Value} (h:wL a b=true):a=b:=by
 unfold wL at h;split at h
 ·rw [Array.ext' (Ji (fun _ _=>YR) h)]
 ·rw [Array.ext' (Ji (fun _ _=>YR) h)]
 ·exact YR h
section
variable {P:Program}
theorem Gs {f:Emb} {w:World} {sz:Nat} {t:Tr Value} {tm:Array Value} (T:TR f sz t tm) {o:Oper} {k:Option Nat} {c:List Value} {e:TypeId} (ha:jW P t o.op=some (k,c,e)) :
 ∃ d' w',VRs f c d'∧Pushed w w' (.cells d'.toArray e)∧(execOp (J7 tm) o).run P w = .ok (.value (Qk k w.heap.size)) w':=by
 obtain ⟨dst,op,type,pos,after,guard⟩:=o;simp only at ha;unfold execOp;simp only;cases op<;>simp only [jW] at ha<;>dsimp only
 case alloc e' =>
  split at ha
  ·rename_i z hz
   split at ha
   ·rename_i hpl
    cases ha
    refine ⟨z.cells.toList,_,(VR.plain f z hpl).cells,zU w (.cells z.cells.toList.toArray e),?_⟩;simp only [Instr.alloc,newVar,newRow,zA5,wO hz,run_newObj,zA1,Array.toArray_toList];rfl
   ·cases ha
  ·cases ha
 case box e' x =>
  split at ha
  ·rename_i v hv
   cases ha
   refine ⟨(J7 tm x).cells.toList,_,(qC T hv).cells,zU w (.cells (J7 tm x).cells.toList.toArray e),?_⟩;simp only [Instr.box,newVar,newRow,zA5,run_newObj,zA1,Array.toArray_toList];rfl
  ·cases ha
 case buildSlice ty n ps =>
  split at ha
  rotate_left
  ·cases ha
  rename_i vs e' hvs he
  have hu:=QH he;split at ha
  rotate_left
  ·cases ha
  rename_i z hz
  obtain ⟨i,zv,hi,hzv,hzl,hsz,hz0,hpl⟩:=jw hz;split at ha
  rotate_left
  ·cases ha
  rename_i hle
  have hle:=zB6 hle;split at ha
  rotate_left
  ·cases ha
  rename_i c' hc
  cases ha
  have hzr:VRs f z z:=by rw [← hzl];exact (VR.plain f zv hpl).cells
  obtain ⟨d',q1,q2⟩:=Zb hc (hzr.zg n) (Q5 T hvs);refine ⟨d',_,q2,zU w (.cells d'.toArray e),?_⟩;have hsr:(sizeOf e).run P w = .ok z.length w:=by simp [sizeOf,typeInfo,hi,hsz]
  have hzrun:(zeroValue e).run P w = .ok zv w:=by simp [zeroValue,typeInfo,hi,hzv]
  have hparts:(ps.map fun (p:Nat×Operand)=>(p.1,J7 tm p.2))=((ps.toList.map fun (i,x)=>(i,J7 tm x)).toArray):=by
   apply Array.ext';simp
  rw [hparts];simp only [Instr.buildSlice,zA5,run_underlying hu,zA1,hsr,if_neg (show ¬ (n*z.length > 2 ^ 24) by omega)];by_cases hl0:n*z.length=0
  ·have:n=0:=by
    rcases Nat.mul_eq_zero.1 hl0 with h|h
    ·exact h
    ·exact absurd h hz0
   subst this;have q1':Instr.fill (fun i=>some (i*z.length,z.length)) #[] (ps.toList.map fun (i,x)=>(i,J7 tm x))=some d'.toArray:=q1;simp only [Nat.zero_mul,if_true,zB1,zA1];simp only [hr0,Array.map_empty,zF6,q1',newRow,zA5,run_newObj,zA1,zB1];rfl
  ·rw [if_neg hl0];simp only [zA5,hzrun,zA1,zB1];have hzz:(Array.range (n*z.length)).map (fun i=>zv.cells[i % zv.cells.size]!)=(zg z n).toArray:=QT hzl hz0 n;rw [hzz];simp only [zF6,q1,newRow,zA5,run_newObj,zA1,zB1];rfl
 all_goals cases ha
theorem ObjR.fresh0 {f:Emb} {w:World} {b:Nat} {c d':List Value} {e:TypeId} (h:w.heap[b]? = some (.cells d'.toArray e)) (hv:VRs f c d'):ObjR f ⟨b,0,0⟩ w (.cells c e none false):=by
 refine ⟨d'.toArray,(0,0),h,?_,fun i v hi=>?_,fun _=>⟨rfl,fun _=>⟨rfl,?_⟩⟩,(fun k hk=>by cases hk),(fun _ i hi=>by simp at hi)⟩
 ·have:=hv.length;simp;omega
 ·obtain ⟨v',h1,h2⟩:=hv.get i v hi;exact ⟨v',by simpa using h1,h2⟩
 ·have:=hv.length;simp;omega
theorem Rel.qeE [Glob] {B:Bs} {f:Emb} {h:AH} {w w':World} (r:Rel B f h w) {ob:Obj} (hp:Pushed w w' ob) {b:Nat} {o:Qp} (hb:b<h.next) (hf:f b=none) (hg:h.get b=some o)
 (ho:ObjR (f.put b ⟨w.heap.size,0,0⟩) ⟨w.heap.size,0,0⟩ w' o):Rel B (f.put b ⟨w.heap.size,0,0⟩) h w'∧f.le (f.put b ⟨w.heap.size,0,0⟩):=by
 have hle:f.le (f.put b ⟨w.heap.size,0,0⟩):=by
  intro k M e;rw [Emb.qZ];exact e
  intro q;subst q;rw [hf] at e;cases e
 refine ⟨⟨fun k M e=>?_,r.wf,fun k M e=>?_,fun k M p e1 e2=>?_,fun k M p k' M' p' e1 e2 e3 e4 e5 e6 e7=>?_,fun k M p e1 e2 e3=>?_,by rw [hp.size];have:=r.base;omega,fun k hk=>(hp.old k (by have:=r.base;omega)).trans (r.keep k hk),r.glob⟩,hle⟩
 ·by_cases hk:k=b
  ·subst hk;exact hb
  ·rw [Emb.qZ _ _ hk] at e;exact r.dom k M e
 ·rw [hp.size];by_cases hk:k=b
  ·subst hk;rw [Emb.qL] at e;cases e;exact zG0 _
  ·rw [Emb.qZ _ _ hk] at e;exact Nat.lt_succ_of_lt (r.rng k M e)
 ·by_cases hk:k=b
  ·subst hk;rw [Emb.qL] at e1;cases e1;rw [hg] at e2;cases e2;exact ho
  ·rw [Emb.qZ _ _ hk] at e1;exact ((r.obj k M p e1 e2).world (hp.old _ (r.rng k M e1))).mono hle
 ·by_cases hk:k=b
  ·by_cases hk':k'=b
   ·omega
   ·subst hk;rw [Emb.qL] at e1;cases e1
    rw [Emb.qZ _ _ hk'] at e3;have:=r.rng k' M' e3;simp only at e5;omega
  ·rw [Emb.qZ _ _ hk] at e1;by_cases hk':k'=b
   ·subst hk';rw [Emb.qL] at e3;cases e3
    have:=r.rng k M e1;simp only at e5;omega
   ·rw [Emb.qZ _ _ hk'] at e3;exact r.inj k M p k' M' p' e1 e2 e3 e4 e5 e6 e7
 ·by_cases hk:k=b
  ·subst hk;rw [Emb.qL] at e1;cases e1;exact r.base
  ·rw [Emb.qZ _ _ hk] at e1;exact r.own k M p e1 e2 e3
end
end Go.Proofs.Xx
namespace Go.Proofs.Xx
open Go
def G5 (l:List zJ) (t':Tr Value) (k:Nat):Tr Value:=match l[k]? with|some s=>s.t|none=>t'
section
variable {P:Program} {X:Extern} {run:zF} {sz:Nat} {ops:Array Oper} {ids:List (Nat×Nat)}
def yZ (P:Program) (X:Extern) (run:zF) (sz:Nat) (ops:Array Oper) (ids:List (Nat×Nat)) (o:Oper) (i:Nat) (s:zJ) (t1:Tr Value) (h1:AH):Prop :=
 qo ops s.t o.guard=some s.go∧J6 sz s.t o.dst s.v=some t1∧(s.go=true→stepD P X run ids false i o.op s.t s.h=some (s.v,h1))∧(s.go=false→s.v = .tuple #[]∧h1=s.h)
theorem XL:∀ (os:List Oper) (i:Nat) (t:Tr Value) (h:AH) (l:List zJ) (t':Tr Value) (h':AH),Jj P X run sz ops ids false i os t h=some (l,t',h') →
 G5 l t' 0=t∧hpAt l h' 0=h∧l.length=os.length∧∀ k o,os[k]? = some o→∃ s,l[k]? = some s∧yZ P X run sz ops ids o (i+k) s (G5 l t' (k+1)) (hpAt l h' (k+1))
 | [],i,t,h,l,t',h',hr=>by
  cases hr
  exact ⟨rfl,rfl,rfl,fun k o ho=>by simp at ho⟩
 | o :: r,i,t,h,l,t',h',hr=>by
  have key:∀ (b:Bool) (v:Value) (t1:Tr Value) (h1:AH),Xz ⟨t,h,b,v⟩ (Jj P X run sz ops ids false (i+1) r t1 h1)=some (l,t',h')→qo ops t o.guard=some b→J6 sz t o.dst v=some t1 →
   (b=true→stepD P X run ids false i o.op t h=some (v,h1))→(b=false→v = .tuple #[]∧h1=h) →
   G5 l t' 0=t∧hpAt l h' 0=h∧l.length=(o :: r).length∧∀ k o',(o :: r)[k]? = some o'→∃ s,l[k]? = some s∧yZ P X run sz ops ids o' (i+k) s (G5 l t' (k+1)) (hpAt l h' (k+1)):=by
   intro b v t1 h1 hc q1 q2 q3 q4;cases hd:Jj P X run sz ops ids false (i+1) r t1 h1 with
   | none=>rw [hd] at hc;cases hc
   | some q =>
    obtain ⟨l1,t2,h2⟩:=q;rw [hd] at hc;simp only [Xz,Option.some.injEq,Prod.mk.injEq] at hc;obtain ⟨rfl,rfl,rfl⟩:=hc;obtain ⟨p1,p2,p3,p4⟩:=XL r (i+1) t1 h1 l1 t2 h2 hd;refine ⟨rfl,rfl,by simp [p3],fun k o' ho=>?_⟩;cases k with
    | zero =>
     simp at ho;subst ho;refine ⟨⟨t,h,b,v⟩,rfl,q1,?_,fun hb=>?_,fun hb=>?_⟩
     ·rw [q2];have:G5 (⟨t,h,b,v⟩ :: l1) t2 (0+1)=G5 l1 t2 0:=by simp [G5]
      rw [this,p1]
     ·have:hpAt (⟨t,h,b,v⟩ :: l1) h2 (0+1)=hpAt l1 h2 0:=by simp [hpAt]
      rw [this,p2];exact q3 hb
     ·have:hpAt (⟨t,h,b,v⟩ :: l1) h2 (0+1)=hpAt l1 h2 0:=by simp [hpAt]
      rw [this,p2];exact q4 hb
    | succ k =>
     simp at ho;obtain ⟨s,s1,s2⟩:=p4 k o' ho;refine ⟨s,by simpa using s1,?_⟩;have e1:G5 (⟨t,h,b,v⟩ :: l1) t2 (k+1+1)=G5 l1 t2 (k+1):=by simp [G5]
     have e2:hpAt (⟨t,h,b,v⟩ :: l1) h2 (k+1+1)=hpAt l1 h2 (k+1):=by simp [hpAt]
     rw [e1,e2,show i+(k+1)=i+1+k by omega];exact s2
  simp only [Jj] at hr;split at hr
  ·rename_i hg
   split at hr
   ·rename_i v h1 hs
    split at hr
    ·rename_i t1 hp
     exact key true v t1 h1 hr hg hp (fun _=>hs) (fun q=>by cases q)
    ·cases hr
   ·cases hr
  ·rename_i hg
   split at hr
   ·rename_i t1 hp
    exact key false _ t1 h hr hg hp (fun q=>by cases q) (fun _=>⟨rfl,rfl⟩)
   ·cases hr
  ·cases hr
def wr (ops:Array Oper) (l:List zJ) (t:Tr Value) (i:Nat):Tr Value :=
 match ops[i]?,l[i]? with
 | some o,some s=>match o.dst with
  | some d=>t.set d s.v
  | none=>t
 | _,_=>t
def wrs (ops:Array Oper) (x i:Nat):Bool:=match ops[i]? with|some o=>(match o.dst with|some d=>Nat.beq d x|none=>false)|none=>false
theorem qc7 {o:Oper} {i:Nat} {l:List zJ} {s:zJ} {t u t1:Tr Value} (ho:ops[i]? = some o) (hs:l[i]? = some s) (h:J6 sz t o.dst s.v=some t1):J6 sz u o.dst s.v=some (wr ops l u i):=by
 unfold J6 at h ⊢;unfold wr;rw [ho,hs];simp only;cases hd:o.dst with
 | none=>rfl
 | some d =>
  rw [hd] at h;simp only at h ⊢;split at h
  ·rfl
  ·cases h
theorem qgk {l:List zJ} {x i:Nat} {t u:Tr Value} (h:t.get x=u.get x):(wr ops l t i).get x=(wr ops l u i).get x:=by
 unfold wr;cases ops[i]? with
 | none=>exact h
 | some o=>cases l[i]? with
  | none=>exact h
  | some s=>cases hd:o.dst with
   | none=>simpa [hd] using h
   | some d=>simp only [hd,Tr.QM,h]
theorem qc8 {l:List zJ} {x i:Nat} {t:Tr Value} (h:wrs ops x i=false):(wr ops l t i).get x=t.get x:=by
 unfold wr;unfold wrs at h;cases ho:ops[i]? with
 | none=>rfl
 | some o=>cases l[i]? with
  | none=>rfl
  | some s=>cases hd:o.dst with
   | none=>simp [hd]
   | some d =>
    rw [ho] at h;simp only [hd] at h ⊢;rw [Tr.QM,if_neg];intro q;subst q;simp at h
theorem Jp {l:List zJ} {x:Nat}:∀ (p:List Nat) (t u:Tr Value),t.get x=u.get x→(p.foldl (wr ops l) t).get x=((p.filter (wrs ops x)).foldl (wr ops l) u).get x
 | [],t,u,h=>h
 | i :: p,t,u,h=>by
  rw [zD8];cases hw:wrs ops x i with
  | true =>
   simp only [if_true,List.foldl_cons];exact Jp p _ _ (qgk h)
  | false =>
   simp only [zD9,if_false,List.foldl_cons];exact Jp p _ _ ((qc8 hw).trans h)
theorem Turn.qeE {f f1:Emb} {h h1:AH} {w w1 w2:World} {ob:Obj} (u:Turn f h w f1 h1 w1) (hp:Pushed w1 w2 ob) {b:Nat} (hb:h.next≤b) (hf:f1 b=none):Turn f h w (f1.put b ⟨w1.heap.size,0,0⟩) h1 w2:=by
 refine ⟨fun k L e=>?_,u.next,u.low,fun k L e hk=>?_,fun k L e n=>?_,by rw [hp.size];have:=u.size;omega,fun k hk hq=>?_,u.same,hp.os.trans u.os,hp.tape.trans u.tape,hp.output.trans u.output⟩
 ·have:=u.le k L e;rw [Emb.qZ];exact this
  intro q;subst q;rw [hf] at this;cases this
 ·rw [Emb.qZ _ _ (by omega)] at e;exact u.old k L e hk
 ·by_cases hkb:k=b
  ·subst hkb;rw [Emb.qL] at e;cases e
   exact .inl u.size
  ·rw [Emb.qZ _ _ hkb] at e;exact u.fresh k L e n
 ·exact (hp.old k (by have:=u.size;omega)).trans (u.keep k hk hq)
structure Canon (P:Program) (X:Extern) (run:zF) (sz:Nat) (ops:Array Oper) (ids:List (Nat×Nat)) (fl:List Nat) (l:List zJ) (t0 t':Tr Value) (h h0 h':AH):Prop where
 plan:Ym ops (masks ops.toList []) fl=true
 startT:G5 l t' 0=t0
 startH:hpAt l h' 0=h0
 len:l.length=ops.size
 step:∀ k o,ops[k]? = some o→∃ s,l[k]? = some s∧yZ P X run sz ops ids o k s (G5 l t' (k+1)) (hpAt l h' (k+1))
 checked:qeM P ops ids (masks ops.toList []) fl ((List.range ops.size).filter (qH ops fl)) (h0 :: ((List.range ops.size).filter (qH ops fl)).map fun i=>hpAt l h' (i+1)) l
 ids1:∀ i,VG fl i=true→∃ b,Ql ids i=some b
 ids2:∀ i b,Ql ids i=some b→VG fl i=true∧h.next≤b∧b<h0.next
 ids3:∀ i j b,Ql ids i=some b→Ql ids j=some b→i=j
theorem WP {x i:Nat} (hw:wrs ops x i=true):∃ o,ops[i]? = some o∧o.dst=some x:=by
 unfold wrs at hw;cases ho:ops[i]? with
 | none=>rw [ho] at hw;cases hw
 | some o =>
  rw [ho] at hw;simp only at hw;cases hd:o.dst with
  | none=>rw [hd] at hw;cases hw
  | some d=>rw [hd] at hw;exact ⟨o,rfl,by rw [hd,zA6 hw]⟩
theorem yz {l:List Nat} {k:Nat}:VG l k=true↔k∈l:=by
 unfold VG;rw [List.any_eq_true];constructor
 ·rintro ⟨x,h1,h2⟩;rw [zA6 h2];exact h1
 ·intro h;exact ⟨k,h,by simp⟩
theorem Vj {o:Oper} {x:Nat} {ns:List Tmp} (hd:o.dst=some x) (hx:x∈ns):kW o ns=true:=by
 unfold kW;rw [hd];exact yz.2 hx
theorem yw {l:List zJ} {h':AH} {j:Nat} {s:zJ} (hs:l[j]? = some s):hpAt l h' j=s.h:=by simp [hpAt,hs]
section
variable {fl:List Nat} {l:List zJ} {t0 t':Tr Value} {h h0 h':AH} (c:Canon P X run sz ops ids fl l t0 t' h h0 h')
include c
theorem Canon.prec {k i:Nat} (hk:k<i) (hi:i<ops.size) (hc:clash ops fl k i=true):Xx.prec (masks ops.toList []) k i=true:=by
 have:=c.plan;unfold Ym at this;rw [zC8] at this;have h1:=this i (zE3.2 hi);rw [zA8,zC8] at h1;have h2:=h1.2 k (zE3.2 hk);rw [hc] at h2;simpa using h2
theorem Canon.edge {i:Nat} {o:Oper} (ho:ops[i]? = some o) {e:Edge} (he:e∈o.after) (hb:Region.binds .any e=true):e.on<i:=by
 have:=c.plan;unfold Ym at this;rw [zC8] at this;have h1:=this i (zE3.2 (zB9.1 ho).1);rw [zA8] at h1;have h2:=h1.1;unfold qbJ at h2;rw [ho] at h2;simp only [zC8] at h2;have h3:=h2 e (by simpa using he);rw [hb] at h3;simpa using h3
theorem Canon.qev (x:Nat):Chain ops (wrs ops x):=by
 intro k i hk hi h1 h2;obtain ⟨a,ha,hda⟩:=WP h1;obtain ⟨b,hb,hdb⟩:=WP h2;refine c.prec hk hi ?_;unfold clash;rw [ha,hb];simp only;rw [Vj hda (by simp [ZV,qfv,hdb])];rfl
theorem Canon.VL:Chain ops (qH ops fl):=by
 intro k i hk hi h1 h2;refine c.prec hk hi ?_;have hkk:k<ops.size:=by omega
 unfold clash;rw [zE2 hkk,zE2 hi];simp [h1,h2]
theorem Canon.agree {a:List Nat} {j:Nat} {o:Oper} (v:Valid ops (a ++ [j])) (ho:ops[j]? = some o) {x:Nat} (hx:x∈ZV ops o):a.filter (wrs ops x)=(List.range j).filter (wrs ops x):=by
 have hj:j<ops.size:=(zB9.1 ho).1;refine Chain.qbb v rfl (c.qev x) (fun k hk hw=>?_) fun k hk hn hw=>?_
 ·obtain ⟨a',ha,hda⟩:=WP hw;refine c.prec hk hj ?_;unfold clash;rw [ha,ho];simp only;rw [Vj hda hx];rfl
 ·obtain ⟨a',ha,hda⟩:=WP hw;refine c.prec hk hn ?_;unfold clash;rw [ha,ho];simp only;rw [Vj hda hx];simp
theorem Canon.qat:∀ j,j≤ops.size→(List.range j).foldl (wr ops l) t0=G5 l t' j
 | 0,_=>c.startT.symm
 | j+1,hj=>by
  have ho:ops[j]? = some ops[j]:=zE2 (by omega);obtain ⟨s,hs,q1,q2,q3⟩:=c.step j _ ho;rw [List.range_succ,List.foldl_append,Canon.qat j (by omega)];simp only [List.foldl_cons,List.foldl_nil];have hst:G5 l t' j=s.t:=by simp [G5,hs]
  have:=qc7 (u:=s.t) ho hs q2;rw [hst];rw [q2] at this;exact (Option.some.inj this).symm
theorem Canon.get {a:List Nat} {j:Nat} {o:Oper} (v:Valid ops (a ++ [j])) (ho:ops[j]? = some o) {s:zJ} (hs:l[j]? = some s) {x:Nat} (hx:x∈ZV ops o):(a.foldl (wr ops l) t0).get x=s.t.get x:=by
 have hj:j<ops.size:=(zB9.1 ho).1;have h1:=Jp (ops:=ops) (l:=l) (x:=x) a t0 t0 rfl;have h2:=Jp (ops:=ops) (l:=l) (x:=x) (List.range j) t0 t0 rfl;rw [h1,c.agree v ho hx,← h2,c.qat j (by omega)];simp [G5,hs]
def kk (l:List zJ) (h0 h':AH) (q:List Nat):AH:=match q.getLast? with|none=>h0|some j=>hpAt l h' (j+1)
theorem Canon.still {j:Nat} {o:Oper} (ho:ops[j]? = some o) {s:zJ} (hs:l[j]? = some s) (hc:qH ops fl j=false):hpAt l h' (j+1)=s.h:=by
 obtain ⟨s',hs',q1,q2,q3,q4⟩:=c.step j o ho;rw [hs] at hs';cases hs'
 cases hgo:s.go with
 | false=>exact (q4 hgo).2
 | true =>
  have:=q3 hgo;unfold stepD at this;split at this
  ·split at this
   ·simp only [Option.some.injEq,Prod.mk.injEq] at this;exact this.2.symm
   ·cases this
  ·rename_i hid
   refine qdO ?_ this;unfold qH at hc;rw [zH1] at hc;rcases hc with hc|hc
   ·unfold XP at hc;rw [ho] at hc;exact hc
   ·simp at hc;obtain ⟨b,hb⟩:=c.ids1 j hc;rw [hid] at hb;cases hb
theorem Canon.KH:∀ j,j≤ops.size→kk l h0 h' ((List.range j).filter (qH ops fl))=hpAt l h' j
 | 0,_=>by simp [kk,c.startH]
 | j+1,hj=>by
  have ho:ops[j]? = some ops[j]:=zE2 (by omega);obtain ⟨s,hs,-⟩:=c.step j _ ho;rw [List.range_succ,zD1];cases hc:qH ops fl j with
  | true=>simp [hc,kk]
  | false =>
   simp only [zD8,hc,zD9,if_false,List.filter_nil,zD7];rw [Canon.KH j (by omega),c.still ho hs hc,yw hs]
theorem Canon.qim {a:List Nat} {j:Nat} (v:Valid ops (a ++ [j])) {s:zJ} (hs:l[j]? = some s) (hj:j<ops.size) (hc:qH ops fl j=true):kk l h0 h' (a.filter (qH ops fl))=s.h:=by
 have:a.filter (qH ops fl)=(List.range j).filter (qH ops fl):=by
  refine Chain.qbb v rfl c.VL (fun k hk hw=>c.VL k j hk hj hw hc) fun k hk hn hw=>c.VL j k hk hn hc hw
 rw [this,c.KH j (by omega),yw hs]
theorem Canon.qjp {a:List Nat} {j:Nat} (v:Valid ops (a ++ [j])) {s:zJ} (hs:l[j]? = some s) (hj:j<ops.size) (hf:KY (masks ops.toList []) ((List.range ops.size).filter (qH ops fl)) j=true):kk l h0 h' (a.filter (qH ops fl))=s.h:=by
 unfold KY at hf;rw [zC8] at hf;have hmem:∀ k,k<ops.size→qH ops fl k=true→k∈(List.range ops.size).filter (qH ops fl):=fun k h1 h2=>zE0.2 ⟨zE3.2 h1,h2⟩;have:a.filter (qH ops fl)=(List.range j).filter (qH ops fl):=by
  refine Chain.qbb v rfl c.VL (fun k hk hw=>?_) fun k hk hn hw=>?_
  ·have:=hf k (hmem k (by omega) hw);rw [show Nat.blt k j=true by rw [Nat.blt_eq];exact hk] at this;exact this
  ·have:=hf k (hmem k hn hw);rw [show Nat.blt k j=false by rw [Bool.eq_false_iff];intro q;rw [Nat.blt_eq] at q;omega,show Nat.beq k j=false by rw [Bool.eq_false_iff];intro q;have:=zA6 q;omega] at this;simpa using this
 rw [this,c.KH j (by omega),yw hs]
theorem Canon.qf8 {a:List Nat} {j:Nat} (v:Valid ops (a ++ [j])) {o:Oper} (ho:ops[j]? = some o) {s:zJ} (hs:l[j]? = some s) (hsame:qH ops fl j=true→hpAt l h' (j+1)=s.h) :
 kk l h0 h' ((a ++ [j]).filter (qH ops fl))=kk l h0 h' (a.filter (qH ops fl)):=by
 have hj:j<ops.size:=(zB9.1 ho).1;rw [zD1];cases hc:qH ops fl j with
 | true =>
  rw [c.qim v hs hj hc,← hsame hc];simp [hc,kk]
 | false=>simp [hc]
end
end
end Go.Proofs.Xx
namespace Go.Proofs.Xx
open Go
section
variable {P:Program} {X:Extern} {run:zF} {sz:Nat} {ops:Array Oper} {ids:List (Nat×Nat)}
structure St [Glob] (B:Bs) (ops:Array Oper) (ids:List (Nat×Nat)) (fl:List Nat) (l:List zJ) (t0:Tr Value) (h h0 h':AH) (sz:Nat) (e0:Emb) (w0:World) (a:List Nat) (e:Emb) (w:World) (tm:Array Value):Prop where
 rel:Rel B e (kk l h0 h' (a.filter (qH ops fl))) w
 tr:TR e sz (a.foldl (wr ops l) t0) tm
 turn:Turn e0 h w0 e (kk l h0 h' (a.filter (qH ops fl))) w
 next:h0.next≤(kk l h0 h' (a.filter (qH ops fl))).next
 free:∀ j b,Ql ids j=some b→j ∉ a→e b=none
theorem OkAtP.of {P:Program} {ids:List (Nat×Nat)} {i:Nat} {op:Op} {s:zJ} {k:AH} (h:qgE P ids i op s k=true):OkAtP P ids i op s k:=by
 unfold qgE at h;unfold OkAtP;split at h
 ·rename_i b hb
  (try rw [hb])
  split at h
  rotate_left
  ·cases h
  rename_i k1 c1 e1 hfl
  split at h
  rotate_left
  ·cases h
  rename_i c2 e2 hg
  rw [zA8] at h;have he12:=zA6 h.1;have hc12:=Ji (fun _ _=>YR) h.2;subst he12 hc12;exact ⟨_,_,_,hfl,hg⟩
 ·rename_i hb
  (try rw [hb])
  split at h
  rotate_left
  ·cases h
  rename_i u hx hop
  have hu:=qdz h;subst hu;exact ⟨_,hop⟩
theorem exists_least {n:Nat} (p:Nat→Prop) (hp:∃ i,i<n∧¬ p i):∃ i,i<n∧¬ p i∧∀ k,k<i→p k:=by
 obtain ⟨i,hi,hpi⟩:=hp;induction i using Nat.strongRecOn with
 | _ i ih =>
  by_cases hall:∀ k,k<i→p k
  ·exact ⟨i,hi,hpi,hall⟩
  ·obtain ⟨k,hk⟩:=Classical.not_forall.1 hall;obtain ⟨hk1,hk2⟩:=Classical.not_imp.1 hk;exact ih k hk1 (by omega) hk2
section
variable {fl:List Nat} {l:List zJ} {t0 t':Tr Value} {h h0 h':AH} (c:Canon P X run sz ops ids fl l t0 t' h h0 h')
include c
theorem Canon.qgD {a:List Nat} {j:Nat} (v:Valid ops (a ++ [j])) {o:Oper} (ho:ops[j]? = some o) {s:zJ} (hs:l[j]? = some s) (hgo:s.go=true) (hc:qH ops fl j=false) :
 OkAtP P ids j o.op s (kk l h0 h' (a.filter (qH ops fl))):=by
 have hj:j<ops.size:=(zB9.1 ho).1;cases hcalm:Yt ids (masks ops.toList []) ((List.range ops.size).filter (qH ops fl)) j o.op with
 | true =>
  have h1:=hcalm;unfold Yt at h1;split at h1
  ·cases h1
  rename_i hid
  obtain ⟨s',hs',q1,q2,q3,q4⟩:=c.step j o ho;rw [hs] at hs';cases hs'
  have hstep:=q3 hgo;unfold stepD at hstep;rw [hid] at hstep;simp only at hstep;have hm:Wn o.op=false:=by
   unfold qH at hc;rw [zH1] at hc;rcases hc with hc|hc
   ·unfold XP at hc;rw [ho] at hc;exact hc
   ·simp at hc;obtain ⟨b,hb⟩:=c.ids1 j hc;rw [hid] at hb;cases hb
  have hval:∃ u,zX P s.t s.h o.op=some (.val s.v u):=by
   unfold vz at hstep;split at hstep
   ·rename_i v0 h0 hn;cases hstep;exact ⟨_,hn⟩
   ·rename_i h0 hn;obtain ⟨u,hu⟩:=Zd hm hn;cases hu
   ·rename_i g args hn;obtain ⟨u,hu⟩:=Zd hm hn;cases hu
   ·rename_i g args hn;obtain ⟨u,hu⟩:=Zd hm hn;cases hu
   ·cases hstep
  obtain ⟨u,hval⟩:=hval;unfold OkAtP;rw [hid];simp only;rw [zG8] at h1;rcases h1 with h1|h1
  ·exact ⟨_,qeI hm (by simpa using h1) hval⟩
  ·rw [c.qjp v hs hj h1];exact ⟨u,hval⟩
 | false =>
 have h1:=c.checked j hj hc o s ho hs hgo hcalm;have htk:=Chain.take v.left c.VL;generalize hms:(List.range ops.size).filter (qH ops fl)=mems at h1 htk
 generalize hq:a.filter (qH ops fl)=q at htk ⊢
 have hql:q.length≤mems.length:=by rw [htk,zA9];exact Nat.min_le_right _ _
 have hfar:yD (masks ops.toList []) mems q.length j=false:=by
  rw [Bool.eq_false_iff];intro hf;unfold yD at hf;rw [zG8,List.any_eq_true,List.any_eq_true] at hf;rcases hf with ⟨x,hx,hp⟩|⟨x,hx,hp⟩
  ·have hxa:=QC j _ a [] x v rfl hp;have hxm:x∈mems:=List.mem_of_mem_drop hx;have hxc:qH ops fl x=true:=by rw [← hms,zE0] at hxm;exact hxm.2
   have hxq:x∈q:=by rw [← hq,zE0];exact ⟨hxa,hxc⟩
   rw [htk] at hxq;have hn:mems.Nodup:=by rw [← hms];exact (Zu _ _).imp (fun h=>Nat.ne_of_lt h)
   rw [← zH0 q.length mems,zG4] at hn;exact hn.2.2 x hxq x hx rfl
  ·rw [← htk,← hq,zE0] at hx;obtain ⟨a1,a2,ha⟩:=List.append_of_mem hx.1;have:=QC x _ a1 (a2 ++ [j]) j v (by rw [ha];simp) hp;exact (v a j [] rfl).1 (by rw [ha];simp [this])
 have hget:(h0 :: mems.map fun i=>hpAt l h' (i+1))[q.length]? = some (kk l h0 h' q):=by
  unfold kk;rcases List.eq_nil_or_concat q with hz|⟨r,x,hz⟩
  ·rw [hz];rfl
  ·rw [List.concat_eq_append] at hz;have hl:q.length=r.length+1:=by rw [hz];simp
   have hx:mems[r.length]? = some x:=by
    have:q[r.length]? = some x:=by rw [hz];simp
    rw [htk,zC7] at this;split at this
    ·exact this
    ·cases this
   rw [hl,zH4,zH8,hx,hz];simp
 exact h1 _ _ hget hfar
theorem Canon.one [Glob] (hC:CallOk P (Qr P X run)) (hY:XZ P (Ze run)) {B:Bs} {e0:Emb} {w0:World} {a:List Nat} {j:Nat} {o:Oper} (v:Valid ops (a ++ [j])) (ho:ops[j]? = some o)
 (hdom:∀ b L,e0 b=some L→b<h.next) {e:Emb} {w:World} {tm:Array Value} (S:St B ops ids fl l t0 h h0 h' sz e0 w0 a e w tm) :
 ∃ e' w' tm',St B ops ids fl l t0 h h0 h' sz e0 w0 (a ++ [j]) e' w' tm'∧∀ (fn:FuncId) (ro:Option Nat) (rest:List Nat) (k:List Item) (ds:List Deferred) (cs:List Frame),
  Steps P (lone (fr fn ro tm (.inRegion ops (j :: rest) :: k) ds) cs w) (lone (fr fn ro tm' (.inRegion ops rest :: k) ds) cs w'):=by
 have hj:j<ops.size:=(zB9.1 ho).1;obtain ⟨s,hs,q1,q2,q3,q4⟩:=c.step j o ho;have hag:∀ x∈ZV ops o,(a.foldl (wr ops l) t0).get x=s.t.get x:=fun x hx=>c.get v ho hs hx;have hguard:qo ops (a.foldl (wr ops l) t0) o.guard=some s.go:=by
  rw [KP (u:=s.t) fun x hx=>hag x (by simp [ZV,hx])];exact q1
 have hput:=qc7 (u:=a.foldl (wr ops l) t0) ho hs q2;have huse:∀ x∈Yg o.op,(a.foldl (wr ops l) t0).get x=s.t.get x:=fun x hx=>hag x (by simp [ZV,hx]);have hfold:(a ++ [j]).foldl (wr ops l) t0=wr ops l (a.foldl (wr ops l) t0) j:=by rw [List.foldl_append];rfl
 have hfree:∀ i b,Ql ids i=some b→i ∉ a ++ [j]→e b=none:=fun i b hi hn=>S.free i b hi fun q=>hn (by simp [q]);have hw:=JJ S.tr hguard;cases hgo:s.go with
 | false =>
  obtain ⟨r1,r2⟩:=q4 hgo;have hk:=c.qf8 v ho hs fun _=>r2;rw [hgo] at hw;refine ⟨e,w,xQ tm o.dst undef,⟨by rw [hk];exact S.rel,?_,by rw [hk];exact S.turn,by rw [hk];exact S.next,hfree⟩,fun fn ro rest k ds cs=>?_⟩
  ·rw [hfold];exact QY S.tr hput (by rw [r1];exact .tuple [] [] .nil)
  ·refine .one ?_;have:=xy (P:=P) (fn:=fn) (ro:=ro) (tm:=tm) (k:=k) (ds:=ds) (cs:=cs) (w:=w) (ops:=ops) (i:=j) (rest:=rest) (by rw [ho];simp [hw]);rw [ho] at this;exact this
 | true =>
  have hstep:=q3 hgo;rw [hgo] at hw;cases hc:qH ops fl j with
  | true =>
   have hid:Ql ids j=none:=by
    cases hi:Ql ids j with
    | none=>rfl
    | some b =>
     have:=(c.ids2 j b hi).1;unfold qH at hc;rw [this] at hc;simp at hc
   unfold stepD at hstep;rw [hid] at hstep;simp only at hstep;have hkk:=c.qim v hs hj hc;have hk:kk l h0 h' ((a ++ [j]).filter (qH ops fl))=hpAt l h' (j+1):=by
    rw [zD1];simp [hc,kk]
   rw [← qcx huse,← hkk] at hstep;obtain ⟨e',v',w',p1,p2,p3,p4⟩:=Vx hC hY ho hstep S.rel S.tr hw;refine ⟨e',w',xQ tm o.dst v',⟨by rw [hk];exact p1,?_,by rw [hk];exact S.turn.trans p2 hdom,by rw [hk];exact zD0 S.next p2.next,fun i b hi hn=>?_⟩,fun fn ro rest k ds cs=>p4 fn ro rest k ds cs⟩
   ·rw [hfold];exact QY (S.tr.mono p2.le) hput p3
   ·cases he:e' b with
    | none=>rfl
    | some L =>
     have hlt:=(c.ids2 i b hi).2.2;have:=p2.old b L he (zE4 hlt S.next);rw [hfree i b hi hn] at this;cases this
  | false =>
   have hk:=c.qf8 v ho hs fun q=>by rw [hc] at q;cases q
   have hok:=c.qgD v ho hs hgo hc;unfold OkAtP at hok;unfold stepD at hstep;cases hid:Ql ids j with
   | some b =>
    rw [hid] at hok hstep;simp only at hok hstep;obtain ⟨k1,c1,e1,hfl,hg⟩:=hok;rw [hfl] at hstep;simp only [zD9,Option.some.injEq,Prod.mk.injEq] at hstep;rw [← Gt huse] at hfl;obtain ⟨d',w',r1,r2,r3⟩:=Gs S.tr (w:=w) hfl;obtain ⟨i1,i2,i3⟩:=c.ids2 j b hid;have hnone:e b=none:=S.free j b hid (v a j [] rfl).1;have hle0:e.le (e.put b ⟨w.heap.size,0,0⟩):=by
     intro x M ex;rw [Emb.qZ];exact ex
     intro q;subst q;rw [hnone] at ex;cases ex
    obtain ⟨rr,hle⟩:=S.rel.qeE r2 (zE4 i3 S.next) hnone hg (ObjR.fresh0 r2.new (r1.mono hle0));have hd:Zw o.op=false:=by cases hq:o.op<;>first|rfl|(rw [hq] at hfl;cases hfl)
    refine ⟨e.put b ⟨w.heap.size,0,0⟩,w',xQ tm o.dst (Qk k1 w.heap.size),⟨by rw [hk];exact rr,?_,by rw [hk];exact S.turn.qeE r2 i2 hnone,by rw [hk];exact S.next,fun i b' hi hn=>?_⟩,
     fun fn ro rest k ds cs=>.one (Xc ho hw hd r3)⟩
    ·rw [hfold];refine QY (S.tr.mono hle) hput ?_;rw [← hstep.1];have hp:=Emb.qL e b ⟨w.heap.size,0,0⟩;cases k1 with
     | none=>simpa [Qk] using VR.pointer (f:=e.put b ⟨w.heap.size,0,0⟩) b 0 _ hp
     | some n=>simpa [Qk] using VR.slice (f:=e.put b ⟨w.heap.size,0,0⟩) b 0 _ n n _ hp (zA3 _) (.inl rfl)
    ·rw [Emb.qZ]
     ·exact hfree i b' hi hn
     ·intro q;subst q;have:=c.ids3 i j b' hi hid;subst this;exact hn (by simp)
   | none =>
    rw [hid] at hok hstep;simp only at hok hstep;obtain ⟨u,hop⟩:=hok;have hm:Wn o.op=false:=by
     unfold qH at hc;rw [zH1] at hc;rcases hc with hc|hc
     ·unfold XP at hc;rw [ho] at hc;exact hc
     ·simp at hc;obtain ⟨b,hb⟩:=c.ids1 j hc;rw [hid] at hb;cases hb
    obtain ⟨u',hu'⟩:=Zd hm hop;cases hu'
    have hop':vz P X run (a.foldl (wr ops l) t0) (kk l h0 h' (a.filter (qH ops fl))) o.op=some (s.v,kk l h0 h' (a.filter (qH ops fl))):=by
     unfold vz;rw [kU huse,hop]
    obtain ⟨e',v',w',p1,p2,p3,p4⟩:=Vx hC hY ho hop' S.rel S.tr hw;refine ⟨e',w',xQ tm o.dst v',⟨by rw [hk];exact p1,?_,by rw [hk];exact S.turn.trans p2 hdom,by rw [hk];exact S.next,fun i b hi hn=>?_⟩,fun fn ro rest k ds cs=>p4 fn ro rest k ds cs⟩
    ·rw [hfold];exact QY (S.tr.mono p2.le) hput p3
    ·cases he:e' b with
     | none=>rfl
     | some L =>
      have hlt:=(c.ids2 i b hi).2.2;have:=p2.old b L he (zE4 hlt S.next);rw [hfree i b hi hn] at this;cases this
theorem Canon.finish [Glob] {B:Bs} {e0:Emb} {w0:World} {a:List Nat} (v:Valid ops a) (hl:a.length=ops.size) {e:Emb} {w:World} {tm:Array Value} (S:St B ops ids fl l t0 h h0 h' sz e0 w0 a e w tm) :
 Rel B e h' w∧Turn e0 h w0 e h' w∧TR e sz t' tm:=by
 have hk:kk l h0 h' (a.filter (qH ops fl))=h':=by
  rw [Chain.full v c.VL hl,c.KH _ (zA3 _)];simp [hpAt,zG5 (show l.length≤ops.size by rw [c.len];exact zA3 _)]
 have h1:=S.rel;have h2:=S.turn;rw [hk] at h1 h2;refine ⟨h1,h2,S.tr.1,fun x u hx=>S.tr.2 x u ?_⟩;have q1:=Jp (ops:=ops) (l:=l) (x:=x) a t0 t0 rfl;have q2:=Jp (ops:=ops) (l:=l) (x:=x) (List.range ops.size) t0 t0 rfl;rw [q1,Chain.full v (c.qev x) hl,← q2,c.qat _ (zA3 _)];simpa [G5,zG5 (show l.length≤ops.size by rw [c.len];exact zA3 _)] using hx
theorem Canon.go [Glob] (hC:CallOk P (Qr P X run)) (hY:XZ P (Ze run)) {B:Bs} {e0:Emb} {w0:World} (hdom:∀ b L,e0 b=some L→b<h.next) :
 ∀ (fuel tv:Nat) (listed:Array Bool) (a:List Nat),a.length+fuel=ops.size→listed.size=ops.size→(∀ i,i<ops.size→listed[i]? = some (decide (i∈a)))→Valid ops a →
 ∀ (e:Emb) (w:World) (tm:Array Value),St B ops ids fl l t0 h h0 h' sz e0 w0 a e w tm →
 ∃ e' w' tm',Rel B e' h' w'∧Turn e0 h w0 e' h' w'∧TR e' sz t' tm'∧∀ (fn:FuncId) (ro:Option Nat) (k:List Item) (ds:List Deferred) (cs:List Frame),
  Steps P (lone (fr fn ro tm (.inRegion ops (Region.linearise.go .any ops fuel tv listed []) :: k) ds) cs w) (lone (fr fn ro tm' (.inRegion ops [] :: k) ds) cs w'):=by
 intro fuel;induction fuel with
 | zero =>
  intro tv listed a hl hsz hli v e w tm S;obtain ⟨r1,r2,r3⟩:=c.finish v (by omega) S;exact ⟨e,w,tm,r1,r2,r3,fun fn ro k ds cs=>by simp only [Region.linearise.go,List.reverse_nil];exact .refl _ _⟩
 | succ fuel ih =>
  intro tv listed a hl hsz hli v e w tm S;simp only [Region.linearise.go];generalize hrs:(List.range ops.size).filter (fun i=>!listed.getD i true && ((ops[i]?).map (·.after.all fun e=>!Region.binds .any e || listed.getD e.on false)).getD false)=rs
  have hmem:∀ i,i∈rs→∃ o,ops[i]? = some o∧i ∉ a∧∀ e∈o.after,Region.binds .any e=true→e.on∈a:=by
   intro i hi;rw [← hrs,zE0,zE3] at hi;obtain ⟨h1,h2⟩:=hi;rw [zA8] at h2;have ho:ops[i]? = some ops[i]:=zE2 h1;rw [ho] at h2;have h3:=h2.1;rw [zH2,hli i h1] at h3;simp at h3;refine ⟨_,ho,h3,fun ed he hb=>?_⟩;have h4:=h2.2;simp only [Option.map_some,zH6,Array.all_eq_true_iff_forall_mem] at h4;have h5:=h4 ed he;rw [hb] at h5;simp only [Bool.not_true,Bool.false_or] at h5;have hlt:=c.edge ho he hb;rw [zH2,hli _ (by omega)] at h5;simpa using h5
  have hne:rs≠[]:=by
   have hex:∃ i,i<ops.size∧¬ i∈a:=by
    apply Classical.byContradiction
    intro hno;have hall:∀ i,i<ops.size→i∈a:=fun i hi=>by
     apply Classical.byContradiction;intro hn;exact hno ⟨i,hi,hn⟩
    have hle:=x9 a.length (List.range ops.size) List.nodup_range;have hn:=Valid.nodup _ a rfl v;have hsub:(List.range ops.size).length≤a.length:=by
     clear hle;have:∀ (p q:List Nat),p.Nodup→(∀ x∈p,x∈q)→p.length≤q.length:=by
      intro p;induction p with
      | nil=>intro q _ _;simp
      | cons x p ihp =>
       intro q hp hq;rw [List.nodup_cons] at hp;have:=ihp (q.erase x) hp.2 fun y hy=>(List.mem_erase_of_ne (fun e=>hp.1 (by rw [← e];exact hy))).2 (hq y (by simp [hy]));have hx:=hq x (by simp);rw [List.length_erase_of_mem hx] at this;have:0<q.length:=List.length_pos_of_mem hx;simp only [zC4];omega
     exact this _ _ List.nodup_range fun x hx=>hall x (zE3.1 hx)
    simp at hsub;omega
   obtain ⟨i,hi,hia,hleast⟩:=exists_least (fun i=>i∈a) hex;have ho:ops[i]? = some ops[i]:=zE2 hi;have:i∈rs:=by
    rw [← hrs,zE0];refine ⟨zE3.2 hi,?_⟩;rw [zA8,zH2,hli i hi,ho];refine ⟨by simp [hia],?_⟩;simp only [Option.map_some,zH6,Array.all_eq_true_iff_forall_mem];intro ed he;cases hb:Region.binds .any ed with
    | false=>rfl
    | true =>
     have hlt:=c.edge ho he hb;rw [zH2,hli _ (by omega)];simp [hleast _ hlt]
   intro q;rw [q] at this;cases this
  have hpos:0<rs.length:=List.length_pos_iff.2 hne;have hlt:tv % rs.length<rs.length:=Nat.mod_lt _ hpos;rw [zA4 hlt];simp only;generalize hi:rs[tv % rs.length]=i
  have hir:i∈rs:=by rw [← hi];exact List.getElem_mem _
  obtain ⟨o,ho,hia,hed⟩:=hmem i hir;have v':=v.snoc hia ho hed;obtain ⟨e1,w1,tm1,S1,s1⟩:=c.one hC hY v' ho hdom S;have hilt:i<ops.size:=(zB9.1 ho).1;obtain ⟨e2,w2,tm2,r1,r2,r3,s2⟩:=ih (tv / rs.length) (listed.setIfInBounds i true) (a ++ [i]) (by simp;omega) (by simp [hsz]) (fun k hk=>by
   rw [Array.getElem?_setIfInBounds];by_cases hki:i=k
   ·subst hki;simp [hsz,hk]
   ·rw [if_neg hki,hli k hk];congr 1
    rw [decide_eq_decide];simp
    intro q;exact absurd q.symm hki) v' e1 w1 tm1 S1
  refine ⟨e2,w2,tm2,r1,r2,r3,fun fn ro k ds cs=>?_⟩;rw [linearise_go_acc,List.reverse_singleton,List.singleton_append];exact (s1 fn ro _ k ds cs).trans (s2 fn ro k ds cs)
end
end
end Go.Proofs.Xx
namespace Go.Proofs.Xx
open Go
theorem Zv:∀ (l:List Nat) (n i b:Nat),Ql (numbered n l) i=some b→n≤b∧b<n+l.length∧l[b - n]? = some i
 | [],n,i,b,h=>by cases h
 | j :: r,n,i,b,h=>by
  simp only [numbered,Ql] at h;split at h
  ·rename_i hj
   cases h
   have:=zA6 hj;subst this;exact ⟨zA3 _,by simp,by simp⟩
  ·obtain ⟨h1,h2,h3⟩:=Zv r (n+1) i b h;refine ⟨by omega,by simp;omega,?_⟩;rw [show b - n=(b - (n+1))+1 by omega,zH4];exact h3
theorem YV:∀ (l:List Nat) (n i:Nat),VG l i=true→∃ b,Ql (numbered n l) i=some b
 | [],n,i,h=>by cases h
 | j :: r,n,i,h=>by
  simp only [numbered,Ql];cases hj:Nat.beq j i with
  | true=>exact ⟨n,rfl⟩
  | false =>
   simp only;refine YV r (n+1) i ?_;rw [yz] at h ⊢;rw [zE8] at h;rcases h with h|h
   ·subst h;simp at hj
   ·exact h
section
variable {P:Program}
theorem Rel.qfK [Glob] {B:Bs} {e:Emb} {h:AH} {w:World} (r:Rel B e h w) (o:Qp):Rel B e (h.add o) w∧Turn e h w e (h.add o) w:=by
 have hne:∀ b L,e b=some L→b≠h.next:=fun b L q=>by have:=r.dom b L q;omega
 refine ⟨⟨fun b L q=>Nat.lt_succ_of_lt (r.dom b L q),fun b hb=>?_,r.rng,fun b L p q1 q2=>?_,fun k M p k' M' p' e1 e2 e3 e4 e5 e6 e7=>?_,fun b L p q1 q2 q3=>?_,r.base,r.keep,r.glob⟩,
  ⟨e.le_refl,Nat.le_succ _,zA3 _,fun _ _ q _=>q,fun b L q n=>(by rw [n] at q;cases q),zA3 _,fun _ _ _=>rfl,fun b hb _=>?_,rfl,rfl,rfl⟩⟩
 ·have hb':h.next+1≤b:=hb
  rw [AH.qW,if_neg (by omega)];exact r.wf b (by omega)
 ·rw [AH.qW,if_neg (hne b L q1)] at q2;exact r.obj b L p q1 q2
 ·rw [AH.qW,if_neg (hne k M e1)] at e2;rw [AH.qW,if_neg (hne k' M' e3)] at e4;exact r.inj k M p k' M' p' e1 e2 e3 e4 e5 e6 e7
 ·rw [AH.qW,if_neg (hne b L q1)] at q2;exact r.own b L p q1 q2 q3
 ·rw [AH.qW,if_neg (by omega)]
theorem Rel.qeF [Glob] {B:Bs} {e:Emb} {w:World}:∀ (os:List Qp) (h:AH),Rel B e h w→Rel B e (os.foldl AH.add h) w∧Turn e h w e (os.foldl AH.add h) w∧(os.foldl AH.add h).next=h.next+os.length
 | [],h,r=>⟨r,Turn.refl _ _ _,rfl⟩
 | o :: os,h,r=>by
  obtain ⟨r1,u1⟩:=r.qfK o;obtain ⟨r2,u2,n2⟩:=Rel.qeF os (h.add o) r1;refine ⟨r2,u1.trans u2 r.dom,?_⟩;rw [List.foldl_cons,n2];simp only [AH.add,zC4];omega
theorem Wh [Glob] {X:Extern} {run:zF} (hm:P.follows .mixedOrders=true) (hC:CallOk P (Qr P X run)) (hY:XZ P (Ze run)) {sz:Nat} {ops:Array Oper} {fl:List Nat} {ids:List (Nat×Nat)}
 {t t':Tr Value} {h h0 h':AH} (hp:Ym ops (masks ops.toList []) fl=true) (ho:Xj P X run sz ops (masks ops.toList []) fl ids t h0=some (t',h'))
 (ids1:∀ i,VG fl i=true→∃ b,Ql ids i=some b) (ids2:∀ i b,Ql ids i=some b→VG fl i=true∧h.next≤b∧b<h0.next) (ids3:∀ i j b,Ql ids i=some b→Ql ids j=some b→i=j)
 {B:Bs} {e:Emb} {w:World} {tm:Array Value} (r:Rel B e h w) (r0:Rel B e h0 w) (u0:Turn e h w e h0 w) (T:TR e sz t tm) (tv:Nat) :
 ∃ e' w' tm',Rel B e' h' w'∧Turn e h w e' h' w'∧TR e' sz t' tm'∧∀ (fn:FuncId) (ro:Option Nat) (k:List Item) (ds:List Deferred) (cs:List Frame),
  Steps P (lone (fr fn ro tm (.inRegion ops (Region.schedule (P.follows .mixedOrders) ops tv) :: k) ds) cs w) (lone (fr fn ro tm' (.inRegion ops [] :: k) ds) cs w'):=by
 unfold Xj at ho;split at ho
 rotate_left
 ·cases ho
 rename_i l t1 h1 hr
 simp only at ho;have hkey:t1=t'∧h1=h'∧qeM P ops ids (masks ops.toList []) fl ((List.range ops.size).filter (qH ops fl)) (h0 :: ((List.range ops.size).filter (qH ops fl)).map fun i=>hpAt l h1 (i+1)) l:=by
  split at ho
  ·rename_i hall
   cases ho
   refine ⟨rfl,rfl,fun i hi hc o s hoo hs hgo hcalm m k hm hf=>?_⟩;rw [zC8] at hall;have h1:=hall i (zE3.2 hi);unfold gK at h1;rw [hc,hoo,hs] at h1;simp only [Bool.false_or,hgo,Bool.not_true,hcalm,zC8] at h1;have h2:=h1 m (zE3.2 (zD6.1 hm).1);rw [hf,hm] at h2;exact OkAtP.of (by simpa using h2)
  ·split at ho
   ·rename_i hst
    cases ho
    exact ⟨rfl,rfl,hst⟩
   ·cases ho
 obtain ⟨rfl,rfl,hall⟩:=hkey;obtain ⟨q1,q2,q3,q4⟩:=XL ops.toList 0 t h0 l t1 h1 hr;have c:Canon P X run sz ops ids fl l t t1 h h0 h1:={
  plan:=hp
  startT:=q1
  startH:=q2
  len:=q3.trans zC2
  step:=fun k o hk=>by
   obtain ⟨s,s1,s2⟩:=q4 k o (by rw [zC1];exact hk);refine ⟨s,s1,?_⟩;rw [zG1] at s2;exact s2
  checked:=hall
  ids1:=ids1
  ids2:=ids2
  ids3:=ids3 }
 have hk0:kk l h0 h1 (([]:List Nat).filter (qH ops fl))=h0:=rfl;have S:St B ops ids fl l t h h0 h1 sz e w [] e w tm:={
  rel:=r0
  tr:=T
  turn:=u0
  next:=zA3 _
  free:=fun j b hj _=>by
   cases he:e b with
   | none=>rfl
   | some L =>
    have:=r.dom b L he;have:=(ids2 j b hj).2.1;omega }
 obtain ⟨e',w',tm',p1,p2,p3,p4⟩:=c.go hC hY r.dom ops.size tv (Array.replicate ops.size false) [] (by simp) (by simp) (fun i hi=>by simp [Array.getElem?_replicate,hi]) (Valid.nil ops) e w tm S;refine ⟨e',w',tm',p1,p2,p3,fun fn ro k ds cs=>?_⟩;simp only [Region.schedule,hm,Bool.true_or,if_true];exact p4 fn ro k ds cs
theorem qfw [Glob] {X:Extern} {run:zF} (hm:P.follows .mixedOrders=true) (hX:Yf P X) (hN:∀ (f:FuncId) (fn:Func),P.funcs[f]? = some fn→fn.body.isSome=true→(fn.name == "runtime.NumGoroutine")=false)
 (hR:Vg P run):GK P X run:=by
 have hC:=Zc hX hN hR;have hY:=Yz hR;intro sz ops t h t' h' ho B e w tm r T tv;unfold WF at ho;simp only at ho;split at ho
 rotate_left
 ·cases ho
 rename_i hp
 split at ho
 ·rename_i hfl
  rw [hfl] at hp;refine Wh hm hC hY hp ho (fun i q=>by cases q) (fun i b q=>by cases q) (fun i j b q=>by cases q) r r (Turn.refl _ _ _) T tv
 ·rename_i j rest hfl
  rw [hfl] at hp;obtain ⟨r0,u0,n0⟩:=Rel.qeF ((j :: rest).map (JI P ops sz h t)) h r;refine Wh hm hC hY hp ho (fun i q=>YV _ _ _ q) (fun i b q=>?_) (fun i k b q1 q2=>?_) r r0 u0 T tv
  ·obtain ⟨a1,a2,a3⟩:=Zv _ _ _ _ q;refine ⟨yz.2 (List.mem_of_getElem? a3),a1,?_⟩;rw [n0,zC5];exact a2
  ·obtain ⟨a1,a2,a3⟩:=Zv _ _ _ _ q1;obtain ⟨b1,b2,b3⟩:=Zv _ _ _ _ q2;rw [a3] at b3;exact Option.some.inj b3
theorem JO [Glob] {X:Extern} (hm:P.follows .mixedOrders=true) (hX:Yf P X) (hN:∀ (f:FuncId) (fn:Func),P.funcs[f]? = some fn→fn.body.isSome=true→(fn.name == "runtime.NumGoroutine")=false) (n:Nat) :
 Vg P (exec P X n):=KZ hX hN (fun run hR=>qfw hm hX hN hR) n
end
end Go.Proofs.Xx
namespace Go.Proofs.Xx
open Go Go.RowKit
section
variable {P:Program}
theorem PY [Glob] {X:Extern} {run:zF} (hR:Vg P run) {f:FuncId} {args:List Value} {h h':AH} {v:Value} (hc:Qr P X run f args h=some (v,h')) (hXn:X f args h=none)
 {fn:Func} {body:Code} (hfn:P.funcs[f]? = some fn) (hb:fn.body=some body) {B:Bs} {e:Emb} {w:World} {args':List Value} (r:Rel B e h w) (hargs:VRs e args args') :
 ∃ e' v' w',Rel B e' h' w'∧Turn e h w e' h' w'∧VR e' v v'∧Calls P f args'.toArray w (fun en w''=>en = .returned v'∧w''=w'):=by
 unfold Qr at hc;rw [hXn,hfn] at hc;simp only [hb] at hc;have hlen:=hargs.length;have hent:Frame.enter P f args'.toArray .normal=fr f none (args'.toArray ++ Array.replicate (fn.ntmps - args'.length) undef) [.code body] []:=by
  simp [Frame.enter,fr,hfn,hb]
 have T:TR e (args.length+(fn.ntmps - args.length)) (jq 0 args .e) (args'.toArray ++ Array.replicate (fn.ntmps - args'.length) undef):=by
  refine Zi ⟨by simp [hlen],fun k u hk=>by rw [Tr.kF] at hk;cases hk⟩ hargs (by omega) fun j hj=>?_;rw [zG1,Array.getElem?_append_left (by simpa using hj)];simp
 split at hc
 ·cases hc
 rotate_left
 ·cases hc
 rename_i x t h1 hx hrun
 split at hc
 rotate_left
 ·cases hc
 rename_i vs hvs
 cases hc
 obtain ⟨e1,w1,tm1,dn,r1,u1,T1,m1,-,a1⟩:=hR _ _ _ _ _ _ _ _ hrun B e w _ f none r T (fun _=>rfl);obtain ⟨rs,d1,d2,d3⟩:=m1.ex;obtain ⟨w2,b2,st2⟩:=Jy (P:=P) (N:=w.heap.size) (e:=e1) (fn:=f) (tm:=tm1) rs w1 d2 d3;have r2:=r1.beside b2 r.base;obtain ⟨vs',p1,p2⟩:=ZE (P:=P) r2 T1 hvs;have main:∀ cs,∃ todo,Steps P (lone (fr f none (args'.toArray ++ Array.replicate (fn.ntmps - args'.length) undef) [.code body] []) cs w) (lone (gone f tm1 todo dn) cs w1):=by
  cases x with
  | norm =>
   refine fun cs=>⟨[],?_⟩
   have:=a1 [] [] cs;rw [zD7] at this;exact Steps.trans this (.one qdq)
  | exit id=>exact (hx id rfl).elim
  | ret =>
   refine fun cs=>?_;obtain ⟨k',hk⟩:=a1 [] [] cs;rw [zD7] at hk;exact ⟨_,Steps.trans hk (.one qdo)⟩
 refine ⟨e1,_,w2,r2,u1.beside b2,Jl p2,fun cs=>?_⟩;obtain ⟨todo,hst⟩:=main cs;refine ⟨_,w2,gone f tm1 todo [],⟨rfl,rfl⟩,?_,rfl,rfl,rfl,rfl,fn,hfn,?_⟩
 ·rw [hent];rw [d1] at hst;exact Steps.trans hst (st2 todo cs)
 ·rw [show (gone f tm1 todo []).tmps=tm1 from rfl,xM,zA5,Array.mapM_eq_mapM_toList,Sem.run_map,p1];rfl
theorem Rel.empty [Glob] {B:Bs} {e:Emb} {h:AH} {w:World} (r:Rel B e h w):Rel B (fun _=>none) ⟨.e,0,0⟩ w :=
 ⟨fun b L q=>(by cases q),fun b _=>Tr.kF b,fun b L q=>(by cases q),fun b L o q=>(by cases q),fun b L o b' L' o' q=>(by cases q),fun b L o q=>(by cases q),r.base,r.keep,r.glob⟩
def Jd (X:Extern) (f:FuncId) (v:Bool):Extern:=fun g args h=>match Nat.beq g f,args with
 | true,[]=>some (.bool v,h)
 | _,_=>X g args h
theorem kX [Glob] {X X1:Extern} {run:zF} (hX:Yf P X) (hC:CallOk P (Qr P X1 run)) {f:FuncId} {h':AH} {v:Bool} (hc:Qr P X1 run f [] ⟨.e,0,0⟩=some (.bool v,h')):Yf P (Jd X f v):=by
 intro g args h u h1 hx B e w args' r hargs;unfold Jd at hx;split at hx
 ·rename_i hg
  cases hx
  have:=zA6 hg;subst this;have:=hargs.jB;subst this;obtain ⟨e1,v1,w1,r1,u1,hv,hs⟩:=hC _ _ _ _ _ hc _ _ w [] r.empty .nil;cases hv
  have hk:∀ k,k<w.heap.size→w1.heap[k]? = w.heap[k]?:=fun k hk=>u1.keep k hk fun b L q=>by cases q
  refine ⟨e,.bool v,w1,?_,?_,.bool v,hs⟩
  ·exact ⟨r.dom,r.wf,fun b L q=>zE4 (r.rng b L q) u1.size,fun b L o q1 q2=>(r.obj b L o q1 q2).world (hk _ (r.rng b L q1)),r.inj,r.own,zD0 r.base u1.size,fun k q=>(hk k (by have:=r.base;omega)).trans (r.keep k q),r.glob⟩
  ·exact ⟨e.le_refl,zA3 _,zA3 _,fun _ _ q _=>q,fun b L q n=>(by rw [n] at q;cases q),u1.size,fun k q _=>hk k q,fun _ _ _=>rfl,u1.os,u1.tape,u1.output⟩
 ·exact hX _ _ _ _ _ hx B e w args' r hargs
def Qg (n:Nat):Extern:=fun f args h=>match Nat.beq f n,args with
 | true,[x]=>some (x,h)
 | _,_=>none
theorem Y3 [Glob] {n:Nat} {fn:Func} (hfn:P.funcs[n]? = some fn) (hname:(fn.name == "runtime.NumGoroutine")=false) (hb:fn.body.isNone=true) (hn:Extern.findNext fn=none)
 (he:Extern.find fn=some Extern.AbiNoEscape.same):Yf P (Qg n):=by
 intro f args h v h' hx B e w args' r hargs;unfold Qg at hx;split at hx
 ·rename_i x hf
  cases hx
  have:=zA6 hf;subst this;obtain ⟨x',r',rfl,hx',hr'⟩:=hargs.cons_inv;have:=hr'.jB;subst this;refine ⟨e,x',w,r,Turn.refl _ _ _,hx',.inl ?_⟩;rw [run_callFunc_extern hfn hname hb hn he];rfl
 ·cases hx
end
end Go.Proofs.Xx
namespace Go.Proofs.Xx
open Go
def RLe (r r':zF):Prop:=∀ a b c d e x,r a b c d e=some x→r' a b c d e=some x
section
variable {P:Program} {X:Extern} {r r':zF}
theorem Yu (h:RLe r r') {f:FuncId} {args:List Value} {m:AH} {x:Value×AH} (hc:Qr P X r f args m=some x):Qr P X r' f args m=some x:=by
 unfold Qr at hc ⊢;cases hX:X f args m with
 | some y=>rw [hX] at hc;exact hc
 | none =>
  rw [hX] at hc;simp only at hc ⊢;cases hfn:P.funcs[f]? with
  | none=>rw [hfn] at hc;cases hc
  | some fn =>
   rw [hfn] at hc;simp only at hc ⊢;cases hb:fn.body with
   | none=>rw [hb] at hc;cases hc
   | some body =>
    rw [hb] at hc;simp only at hc ⊢;cases hr:r false (args.length+(fn.ntmps - args.length)) body (jq 0 args .e) m with
    | none=>rw [hr] at hc;cases hc
    | some q=>rw [h _ _ _ _ _ _ hr];rw [hr] at hc;exact hc
theorem GN (h:RLe r r') {l:Nat} {args:List Value} {m:AH} {x:Value×AH} (hc:Ze r l args m=some x):Ze r' l args m=some x:=by
 unfold Ze at hc ⊢;split at hc
 rotate_left
 ·cases hc
 rename_i sz tm ps asg bo hg
 try rw [hg]
 try simp only
 split at hc
 rotate_left
 ·cases hc
 rename_i t0 h1 h2
 try rw [h1,h2]
 try simp only
 split at hc
 rotate_left
 ·cases hc
 rename_i t1 m1 hr
 rw [h _ _ _ _ _ _ hr];try simp only
 split at hc
 rotate_left
 ·cases hc
 rename_i a b c d e hg1
 try rw [hg1]
 try simp only
 split at hc
 rotate_left
 ·cases hc
 rename_i q t2 m2 hr2
 rw [h _ _ _ _ _ _ hr2];exact hc
theorem Pm (h:RLe r r') {t:Tr Value} {m:AH} {op:Op} {x:Value×AH} (hc:vz P X r t m op=some x):vz P X r' t m op=some x:=by
 unfold vz at hc ⊢;split at hc
 ·rename_i e;(try rw [e]);exact hc
 ·rename_i e;(try rw [e]);exact hc
 ·rename_i e;(try rw [e]);exact Yu h hc
 ·rename_i e;(try rw [e]);exact GN h hc
 ·cases hc
theorem Jk (h:RLe r r') {sz:Nat} {ops:Array Oper}:∀ (os:List Oper) (t:Tr Value) (m:AH) (x:Tr Value×AH),Xk P X r sz ops os t m=some x→Xk P X r' sz ops os t m=some x
 | [],t,m,x,hc=>hc
 | o :: os,t,m,x,hc=>by
  simp only [Xk] at hc ⊢;split at hc
  ·rename_i e;(try rw [e])
   try simp only
   split at hc
   ·rename_i v m' e2
    rw [Pm h e2];try simp only
    split at hc
    ·rename_i t' e3
     try rw [e3]
     exact Jk h os _ _ _ hc
    ·cases hc
   ·cases hc
  ·rename_i e;(try rw [e])
   try simp only
   split at hc
   ·rename_i t' e3
    try rw [e3]
    exact Jk h os _ _ _ hc
   ·cases hc
  ·cases hc
theorem qau (h:RLe r r') {ids:List (Nat×Nat)} {pl:Bool} {i:Nat} {op:Op} {t:Tr Value} {m:AH} {x:Value×AH} (hc:stepD P X r ids pl i op t m=some x):stepD P X r' ids pl i op t m=some x:=by
 unfold stepD at hc ⊢;split
 ·rename_i b e;rw [e] at hc;exact hc
 ·rename_i e;rw [e] at hc;exact Pm h hc
theorem Vs (h:RLe r r') {sz:Nat} {ops:Array Oper} {ids:List (Nat×Nat)} {pl:Bool}:∀ (os:List Oper) (i:Nat) (t:Tr Value) (m:AH) (x:List zJ×Tr Value×AH),Jj P X r sz ops ids pl i os t m=some x→Jj P X r' sz ops ids pl i os t m=some x
 | [],i,t,m,x,hc=>hc
 | o :: os,i,t,m,x,hc=>by
  have key:∀ (s:zJ) (t1:Tr Value) (m1:AH),Xz s (Jj P X r sz ops ids pl (i+1) os t1 m1)=some x→Xz s (Jj P X r' sz ops ids pl (i+1) os t1 m1)=some x:=by
   intro s t1 m1 hk;cases hd:Jj P X r sz ops ids pl (i+1) os t1 m1 with
   | none=>rw [hd] at hk;cases hk
   | some q=>rw [Vs h os _ _ _ _ hd];rw [hd] at hk;exact hk
  simp only [Jj] at hc ⊢;split at hc
  ·rename_i e;(try rw [e])
   try simp only
   split at hc
   ·rename_i v m' e2
    rw [qau h e2];try simp only
    split at hc
    ·rename_i t' e3
     try rw [e3]
     exact key _ _ _ hc
    ·cases hc
   ·cases hc
  ·rename_i e;(try rw [e])
   try simp only
   split at hc
   ·rename_i t' e3
    try rw [e3]
    exact key _ _ _ hc
   ·cases hc
  ·cases hc
theorem xY (h:RLe r r') {sz:Nat} {ops:Array Oper} {ms fl:List Nat} {ids:List (Nat×Nat)} {t:Tr Value} {m:AH} {x:Tr Value×AH} (hc:Xj P X r sz ops ms fl ids t m=some x):Xj P X r' sz ops ms fl ids t m=some x:=by
 unfold Xj at hc ⊢;split at hc
 ·rename_i l t' h' e
  rw [Vs h _ _ _ _ _ e];exact hc
 ·cases hc
theorem qcw (h:RLe r r') {sz:Nat} {ops:Array Oper} {t:Tr Value} {m:AH} {x:Tr Value×AH} (hc:WF P X r sz ops t m=some x):WF P X r' sz ops t m=some x:=by
 unfold WF at hc ⊢;simp only at hc ⊢;split at hc
 rotate_left
 ·cases hc
 rename_i hp
 try rw [hp]
 try simp only
 split at hc
 ·rename_i hf
  try rw [hf]
  exact xY h hc
 ·rename_i j rr hf
  try rw [hf]
  try simp only
  exact xY h hc
theorem vX (h:RLe r r'):RLe (zC P X r) (zC P X r'):=by
 intro inR sz c t m x hc;unfold zC at hc ⊢;cases c with
 | skip=>exact hc
 | label l=>exact hc
 | seq a b =>
  simp only at hc ⊢;split at hc
  ·rename_i t1 m1 e
   rw [h _ _ _ _ _ _ e];exact h _ _ _ _ _ _ hc
  ·rename_i hne
   cases hr:r inR sz a t m with
   | none=>rw [hr] at hc;cases hc
   | some q =>
    rw [h _ _ _ _ _ _ hr];rw [hr] at hc;cases hc
    obtain ⟨ax,t1,m1⟩:=x;cases ax with
    | norm=>exact absurd hr (hne _ _)
    | exit id=>rfl
    | ret=>rfl
 | cond c a b =>
  simp only at hc ⊢;split at hc
  ·rename_i e;(try rw [e]);exact h _ _ _ _ _ _ hc
  ·rename_i e;(try rw [e]);exact h _ _ _ _ _ _ hc
  ·cases hc
 | block id body =>
  simp only at hc ⊢;cases hr:r inR sz body t m with
  | none=>rw [hr] at hc;cases hc
  | some q=>rw [h _ _ _ _ _ _ hr];rw [hr] at hc;exact hc
 | loop body =>
  simp only at hc ⊢;cases hr:r inR sz body t m with
  | none=>rw [hr] at hc;cases hc
  | some q =>
   rw [h _ _ _ _ _ _ hr];rw [hr] at hc;obtain ⟨ax,t1,m1⟩:=q;cases ax with
   | norm=>exact h _ _ _ _ _ _ hc
   | exit id=>exact hc
   | ret=>exact hc
 | scope body=>exact h _ _ _ _ _ _ hc
 | exit id=>exact hc
 | ret=>exact hc
 | region id ops dr =>
  cases dr with
  | false =>
   simp only at hc ⊢;split at hc
   ·rename_i t1 m1 e
    rw [Jk h _ _ _ _ e];exact hc
   ·cases hc
  | true =>
   simp only at hc ⊢;split at hc
   ·rename_i t1 m1 e
    rw [qcw h e];exact hc
   ·cases hc
 | rangeFunc f ps asg bo =>
  simp only at hc ⊢;split at hc
  ·rename_i g first captured e
   try rw [e]
   try simp only
   split at hc
   ·rename_i v m1 e2
    rw [Yu h e2];exact hc
   ·cases hc
  ·cases hc
 | _=>cases hc
theorem qcJ (n:Nat):RLe (exec P X n) (exec P X (n+1)):=by
 induction n with
 | zero=>intro _ _ _ _ _ _ h;cases h
 | succ n ih=>exact vX ih
theorem ZW {n m:Nat} (hnm:n≤m):RLe (exec P X n) (exec P X m):=by
 induction hnm with
 | refl=>exact fun _ _ _ _ _ _ h=>h
 | step _ ih=>exact fun _ _ _ _ _ _ h=>qcJ _ _ _ _ _ _ _ (ih _ _ _ _ _ _ h)
end
end Go.Proofs.Xx
