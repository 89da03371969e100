/-
  Operations with their calls,calls and rounds: what the checked run does,the machine does.
-/
import Derived.Test.YtnponmgkfkdkaaaGreatDoorM2
import Derived.Orders
set_option linter.unusedSectionVars false
set_option linter.unusedSimpArgs false
set_option linter.unusedVariables false
namespace Go.Proofs.Xx
open Go
section
variable {P:Program}
def CallOk [Glob] (P:Program) (callf:FuncId→List Value→AH→Option (Value×AH)):Prop:=∀ f args h v h',callf f args h=some (v,h')→∀ B e w args',Rel B e h w→VRs e args args' →
 ∃ e' v' w',Rel B e' h' w'∧Turn e h w e' h' w'∧VR e' v v' ∧
  ((
   callFunc f args'.toArray).run P w = .ok (.value v') w' ∨
   ((callFunc f args'.toArray).run P w = .ok (.enter f args'.toArray) w∧∀ c cs,Steps P (lone (Frame.enter P f args'.toArray .normal) (c :: cs) w) (lone (c.finish v') cs w')))
def Yl [Glob] (P:Program) (X:Extern):Prop:=CallOk P X
def Yk [Glob] (P:Program) (yieldf:Nat→List Value→AH→Option (Value×AH)):Prop:=∀ l args h v h',yieldf l args h=some (v,h')→∀ B e w args' L,Rel B e h w→e l=some L→VRs e args args' →
 ∃ e' v' w',Rel B e' h' w'∧Turn e h w e' h' w'∧VR e' v v' ∧
  ∃ g t asg bo,(Instr.yield L.blk args'.toArray).run P w = .ok (.round L.blk g t asg bo) w∧∀ c cs,Steps P (lone (fr g (some L.blk) t [.code asg,.beginRound,.code bo] []) (c :: cs) w) (lone (c.finish v') cs w')
def mark (r:Nat):Deferred:={ target:=.collected r,args:=#[] }
structure Marks (N:Nat) (e:Emb) (w:World) (ds:List Deferred):Prop where
 ex:∃ rs:List Nat,ds=rs.map mark∧rs.Nodup∧∀ r∈rs,N≤r∧w.heap[r]? = some (.deferred (some []))∧∀ b L,e b=some L→L.blk≠r
theorem Marks.nil (N:Nat) (e:Emb) (w:World):Marks N e w []:=⟨[],rfl,.nil,fun _ h=>by cases h⟩
theorem Marks.turn {N:Nat} {e e':Emb} {h h':AH} {w w':World} {ds:List Deferred} (m:Marks N e w ds) (t:Turn e h w e' h' w'):Marks N e' w' ds:=by
 obtain ⟨rs,h1,h2,h3⟩:=m.ex;refine ⟨rs,h1,h2,fun r hr=>?_⟩;obtain ⟨a1,a2,a3⟩:=h3 r hr;have hlt:r<w.heap.size:=(zB9.1 a2).1;refine ⟨a1,(t.keep r hlt fun b L q1 q2=>absurd q2 (a3 b L q1)).trans a2,fun b L q1 q2=>?_⟩;cases h0:e b with
 | some M=>have:=t.le b M h0;rw [q1] at this;cases this;exact a3 b L h0 q2
 | none =>
  rcases t.fresh b L q1 h0 with q|⟨c,M,p1,p2,-⟩
  ·omega
  ·exact a3 c M p1 (p2.trans q2)
def After [Glob] (P:Program) (fn:FuncId) (ro:Option Nat) (tm tm':Array Value) (ds ds':List Deferred) (c:Code) (k:List Item) (cs:List Frame) (w w':World):AX→Prop
 | .norm=>Steps P (lone (fr fn ro tm (.code c :: k) ds) cs w) (lone (fr fn ro tm' k ds') cs w')
 | .exit id=>∃ k',exitTo id k'=exitTo id k∧Steps P (lone (fr fn ro tm (.code c :: k) ds) cs w) (lone (fr fn ro tm' (.code (.exit id) :: k') ds') cs w')
 | .ret=>∃ k',Steps P (lone (fr fn ro tm (.code c :: k) ds) cs w) (lone (fr fn ro tm' (.code .ret :: k') ds') cs w')
def Z4 [Glob] (P:Program) (run:zI):Prop:=∀ inR sz c t h x t' h',run inR sz c t h=some (x,t',h')→∀ B e w tm fn ro,Rel B e h w→TR e sz t tm→(inR=false→ro=none) →
 ∃ e' w' tm' dn,Rel B e' h' w'∧Turn e h w e' h' w'∧TR e' sz t' tm'∧Marks w.heap.size e' w' dn∧(inR=true→dn=[])∧∀ ds k cs,After P fn ro tm tm' ds (dn ++ ds) c k cs w w' x
theorem Marks.append {N:Nat} {e e':Emb} {h h':AH} {w w':World} {ds dn:List Deferred} (m:Marks N e w ds) (t:Turn e h w e' h' w') (m':Marks w.heap.size e' w' dn) (hN:N≤w.heap.size):Marks N e' w' (dn ++ ds):=by
 obtain ⟨rs,a1,a2,a3⟩:=(m.turn t).ex;obtain ⟨rn,b1,b2,b3⟩:=m'.ex;obtain ⟨rs',c1,c2,c3⟩:=m.ex;have hrs:rs'=rs:=by
  have:rs'.map mark=rs.map mark:=c1.symm.trans a1;exact (List.map_inj_right (f:=mark) (fun x y q=>by simpa [mark] using q)).1 this
 subst hrs;refine ⟨rn ++ rs',by rw [zC9,b1,a1],?_,fun r hr=>?_⟩
 ·rw [zG4];refine ⟨b2,c2,fun x hx y hy q=>?_⟩;subst q;have:=(b3 x hx).1;have:=(zB9.1 (c3 x hy).2.1).1;omega
 ·rcases zB8.1 hr with hr|hr
  ·obtain ⟨p1,p2⟩:=b3 r hr;exact ⟨by omega,p2⟩
  ·exact a3 r hr
theorem VG [Glob] {X:Extern} {run:zI} (hC:CallOk P (Qe P X run)) (hY:Yk P (Zq run)) {B:Bs} {e:Emb} {h h':AH} {w:World} {sz:Nat} {t:Tr Value} {tm:Array Value} {v:Value}
 {ops:Array Oper} {i:Nat} {o:Oper} (ho:ops[i]? = some o) (hop:yg P X run t h o.op=some (v,h')) (r:Rel B e h w) (T:TR e sz t tm) (hw:Region.wanted o (yielded ops tm)=true) :
 ∃ e' v' w',Rel B e' h' w'∧Turn e h w e' h' w'∧VR e' v v'∧∀ (fn:FuncId) (ro:Option Nat) (rest:List Nat) (k:List Item) (ds:List Deferred) (cs:List Frame),
  Steps P (lone (fr fn ro tm (.inRegion ops (i :: rest) :: k) ds) cs w) (lone (fr fn ro (Qu tm o.dst v') (.inRegion ops rest :: k) ds) cs w'):=by
 unfold yg at hop;split at hop
 ·rename_i v0 h0 hn
  cases hop
  have hd:ZF o.op=false:=by cases hq:o.op<;>first|rfl|(rw [hq] at hn;cases hn)
  obtain ⟨e',v',w',q1,q2,q3,q4⟩:=Yi r T hn;exact ⟨e',v',w',q2,q3,q4,fun fn ro rest k ds cs=>.one (jL ho hw hd q1)⟩
 ·rename_i h0 hn
  cases hop
  have hd:ZF o.op=false:=by cases hq:o.op<;>first|rfl|(rw [hq] at hn;cases hn)
  obtain ⟨w',q1,q2,q3⟩:=Yi r T hn;exact ⟨e,undef,w',q2,q3,.tuple [] [] .nil,fun fn ro rest k ds cs=>.one (qaD ho hw hd q1)⟩
 ·rename_i g args hn
  have hd:ZF o.op=false:=by cases hq:o.op<;>first|rfl|(rw [hq] at hn;cases hn)
  obtain ⟨args',q1,q2⟩:=Yi r T hn;obtain ⟨e',v',w',p1,p2,p3,p4⟩:=hC _ _ _ _ _ hop B e w args' r q2;refine ⟨e',v',w',p1,p2,p3,fun fn ro rest k ds cs=>?_⟩;rcases p4 with p4|⟨p4,p5⟩
  ·exact .one (jL ho hw hd (q1.trans p4))
  ·refine .head (pI ho hw hd (q1.trans p4)) ?_;have:=p5 (fr fn ro tm (.inRegion ops (i :: rest) :: k) ds) cs;rw [JO,ho] at this;exact this
 ·rename_i l args hn
  have hd:ZF o.op=false:=by cases hq:o.op<;>first|rfl|(rw [hq] at hn;cases hn)
  obtain ⟨L,args',hL,q1,q2⟩:=Yi r T hn;obtain ⟨e',v',w',p1,p2,p3,g,tt,asg,bo,p4,p5⟩:=hY _ _ _ _ _ hop B e w args' L r hL q2;refine ⟨e',v',w',p1,p2,p3,fun fn ro rest k ds cs=>?_⟩;refine .head (pG ho hw hd (q1.trans p4)) ?_;have:=p5 (fr fn ro tm (.inRegion ops (i :: rest) :: k) ds) cs;rw [JO,ho] at this;exact this
 ·cases hop
theorem Zb {e:Emb} {sz:Nat} {t t':Tr Value} {tm:Array Value} {d:Option Tmp} {v v':Value} (T:TR e sz t tm) (h:XA sz t d v=some t') (hv:VR e v v'):TR e sz t' (Qu tm d v'):=by
 unfold XA at h;split at h
 ·cases h;exact T
 ·split at h
  ·rename_i k hk
   cases h
   rw [Nat.blt_eq] at hk;exact T.set hk hv
  ·cases h
theorem Xi {e:Emb} {sz:Nat} {t:Tr Value} {tm:Array Value} {ops:Array Oper} {o:Oper} {b:Bool} (T:TR e sz t tm) (h:qp ops t o.guard=some b):Region.wanted o (yielded ops tm)=b:=by
 unfold qp at h;unfold Region.wanted;split at h
 ·rename_i hg;cases h;rw [hg]
 ·rename_i j want hg
  rw [hg];split at h
  ·rename_i o' ho'
   split at h
   ·rename_i d hd
    split at h
    ·rename_i c hc
     cases h
     obtain ⟨v',q1,q2⟩:=T.2 d _ hc;cases q2
     simp only [yielded,ho',Option.bind_some,hd,q1];cases c<;>cases want<;>rfl
    ·rename_i cs hc
     cases h
     obtain ⟨v',q1,q2⟩:=T.2 d _ hc;obtain ⟨cs',rfl,-⟩:=q2.ww;simp only [yielded,ho',Option.bind_some,hd,q1];rfl
    ·cases h
   ·cases h
  ·cases h
theorem yf [Glob] {X:Extern} {run:zI} (hC:CallOk P (Qe P X run)) (hY:Yk P (Zq run)) {B:Bs} {sz:Nat} {ops:Array Oper} :
 ∀ (n i:Nat) (t:Tr Value) (h:AH) (t':Tr Value) (h':AH) (e:Emb) (w:World) (tm:Array Value),i+n=ops.size→XB P X run sz ops (ops.toList.drop i) t h=some (t',h')→Rel B e h w→TR e sz t tm →
 ∃ e' w' tm',Rel B e' h' w'∧Turn e h w e' h' w'∧TR e' sz t' tm'∧∀ (fn:FuncId) (ro:Option Nat) (k:List Item) (ds:List Deferred) (cs:List Frame),
  Steps P (lone (fr fn ro tm (.inRegion ops (List.range' i n) :: k) ds) cs w) (lone (fr fn ro tm' (.inRegion ops [] :: k) ds) cs w'):=by
 intro n;induction n with
 | zero =>
  intro i t h t' h' e w tm hi ho r T;have:ops.toList.drop i=[]:=List.drop_eq_nil_of_le (by rw [zC2];omega);rw [this] at ho;cases ho
  exact ⟨e,w,tm,r,Turn.refl _ _ _,T,fun _ _ _ _ _=>.refl _ _⟩
 | succ n ih =>
  intro i t h t' h' e w tm hi ho r T;have hlt:i<ops.size:=by omega
  have hl2:i<ops.toList.length:=by rw [zC2];exact hlt
  have hoi:ops[i]? = some ops[i]:=zE1 hlt;rw [zG7 hl2] at ho;simp only [XB,Array.getElem_toList] at ho;rw [List.range'_succ];split at ho
  ·rename_i hg
   have hw:=Xi T hg;split at ho
   ·rename_i v h1 hop
    split at ho
    ·rename_i t1 hp
     obtain ⟨e1,v',w1,q1,q2,q3,q4⟩:=VG hC hY hoi hop r T hw;have T1:=Zb (T.mono q2.le) hp q3;obtain ⟨e2,w2,tm2,p1,p2,p3,p4⟩:=ih (i+1) _ _ _ _ e1 w1 _ (by omega) ho q1 T1;exact ⟨e2,w2,tm2,p1,q2.trans p2 r.dom,p3,fun fn ro k ds cs=>(q4 fn ro _ k ds cs).trans (p4 fn ro k ds cs)⟩
    ·cases ho
   ·cases ho
  ·rename_i hg
   have hw:=Xi T hg;split at ho
   ·rename_i t1 hp
    have T1:=Zb T hp (VR.tuple [] [] .nil);obtain ⟨e2,w2,tm2,p1,p2,p3,p4⟩:=ih (i+1) _ _ _ _ e w _ (by omega) ho r T1;refine ⟨e2,w2,tm2,p1,p2,p3,fun fn ro k ds cs=>.head (xH (by rw [hoi];simp [hw])) ?_⟩;rw [hoi];exact p4 fn ro k ds cs
   ·cases ho
  ·cases ho
theorem Xu {e:Emb} {sz:Nat}:∀ {ps:List Tmp} {vs vs':List Value} {t t':Tr Value} {tm:Array Value},Vz ps vs t=some t'→ps.all (fun p=>Nat.blt p sz)=true→TR e sz t tm→VRs e vs vs' →
 vs'.length=ps.length∧TR e sz t' ((ps.zip vs').foldl (fun tm (q:Tmp×Value)=>tm.setIfInBounds q.1 q.2) tm)
 | [],[],_,t,t',tm,h,_,T,.nil=>by cases h;exact ⟨rfl,T⟩
 | [],_ :: _,_,_,_,_,h,_,_,_=>by cases h
 | _ :: _,[],_,_,_,_,h,_,_,_=>by cases h
 | p :: ps,v :: vs,_,t,t',tm,h,ha,T,.cons _ v' _ r' hv hr=>by
  simp only [List.all_cons,zA8,Nat.blt_eq] at ha;obtain ⟨h1,h2⟩:=Xu (ps:=ps) (vs:=vs) (vs':=r') h ha.2 (T.set ha.1 hv) hr;exact ⟨by simp [h1],by simpa using h2⟩
theorem Zz {w:World} {k:Nat} {o ob:Obj} (h:w.heap[k]? = some ob) (hc:∀ c e f,ob≠.cells c e f) :
 (setObj k o).run P w = .ok () { w with heap:=w.heap.setIfInBounds k o }∧Wrote w { w with heap:=w.heap.setIfInBounds k o } k o:=by
 have hlt:k<w.heap.size:=(zB9.1 h).1;refine ⟨?_,?_,fun j hj=>?_,by simp,rfl,rfl,rfl⟩
 ·simp only [setObj,Sem.run,h]
 ·simp [hlt]
 ·simp only [Array.getElem?_setIfInBounds_ne (Ne.symm hj)]
theorem run_getLoop {w:World} {k:Nat} {r:Loop} (h:w.heap[k]? = some (.loop r)):(Instr.getLoop k).run P w = .ok r w:=by
 simp only [Instr.getLoop,zA5,getObj,Sem.run,h,zA1];rfl
theorem JZ [Glob] {run:zI} (hR:Z4 P run):Yk P (Zq run):=by
 intro l args h v h' hy B e w args' L r hL hargs;unfold Zq at hy;split at hy
 rotate_left
 ·cases hy
 rename_i sz tmps params asg bo hg
 split at hy
 rotate_left
 ·cases hy
 rename_i t0 hall hset
 split at hy
 rotate_left
 ·cases hy
 rename_i t1 h1 hrun1
 split at hy
 rotate_left
 ·cases hy
 rename_i sz' tmps' params' asg' bo' hg1
 split at hy
 rotate_left
 ·cases hy
 rename_i x t2 h2 hrun2
 split at hy
 rotate_left
 ·cases hy
 rename_i sz2 tmps2 params2 as2 bo2 hg2
 obtain ⟨fn,tm,D,hb,T⟩:=r.obj l L _ hL hg;obtain ⟨hlen,T0⟩:=Xu hset hall T hargs;obtain ⟨e1,w1,tm1,ds1,r1,u1,T1,m1,hd1,a1⟩:=hR _ _ _ _ _ _ _ _ hrun1 B e w _ fn (some L.blk) r T0 (by simp);have hL1:=u1.le l L hL;obtain ⟨fn1,tmx,D1,hb1,Tx⟩:=r1.obj l L _ hL1 hg1;obtain ⟨s1,wr1⟩:=Zz (P:=P) (o:=.loop { state:=.busy,pending:=none,fn:=fn1,tmps:=tmx,params:=params'.toArray,assign:=asg',body:=bo',defers:=D1 }) hb1 (by intro _ _ _ q;cases q);obtain ⟨r2,u2⟩:=r1.put hL1 hg1 rfl wr1 (o':=.loop .busy none sz' tmps' params' asg' bo') ⟨fn1,tmx,D1,wr1.here,Tx⟩ (fun _=>rfl);obtain ⟨e3,w3,tm3,ds3,r3,u3,T3,m3,hd3,a3⟩:=hR _ _ _ _ _ _ _ _ hrun2 B e1 _ tm1 fn (some L.blk) r2 T1 (by simp);have hL3:=u3.le l L hL1;obtain ⟨fn3,tmy,D3,hb3,Ty⟩:=r3.obj l L _ hL3 hg2;have hbegin:(Instr.beginRound L.blk).run P w1 = .ok () { w1 with heap:=w1.heap.setIfInBounds L.blk (.loop { state:=.busy,pending:=none,fn:=fn1,tmps:=tmx,params:=params'.toArray,assign:=asg',body:=bo',defers:=D1 }) }:=by
  simp only [Instr.beginRound,zA5,run_getLoop hb1,zA1,s1];rfl
 have hyield:(Instr.yield L.blk args'.toArray).run P w = .ok (.round L.blk fn ((params.zip args').foldl (fun tm (q:Tmp×Value)=>tm.setIfInBounds q.1 q.2) tm) asg bo) w:=by
  simp only [Instr.yield,zA5,run_getLoop hb,zA1];rw [if_neg (by simp [hlen])];simp only [zB1];congr 2
  rw [List.zip_toArray,List.foldl_toArray]
 have fin:∀ (j:Option Code) (st:LoopState),st=(if j.isNone then .ready else .done)→∀ hh,hh=h2.put l (.loop st j sz2 tmps2 params2 as2 bo2) →
  ∃ w4,(Instr.endRound L.blk j).run P w3 = .ok (.bool j.isNone) w4∧Rel B e3 hh w4∧Turn e h w e3 hh w4:=by
  intro j st hst hh hhh;subst hst;subst hhh;obtain ⟨s4,wr4⟩:=Zz (P:=P) (o:=.loop { state:=if j.isNone then .ready else .done,pending:=j,fn:=fn3,tmps:=tmy,params:=params2.toArray,assign:=as2,body:=bo2,defers:=D3 }) hb3 (by intro _ _ _ q;cases q);obtain ⟨r4,u4⟩:=r3.put hL3 hg2 rfl wr4 (o':=.loop (if j.isNone then .ready else .done) j sz2 tmps2 params2 as2 bo2) ⟨fn3,tmy,D3,wr4.here,Ty⟩ (fun _=>rfl);refine ⟨_,?_,r4,((u1.trans u2 r.dom).trans u3 r.dom).trans u4 r.dom⟩;simp only [Instr.endRound,zA5,run_getLoop hb3,zA1,s4];rfl
 have e1:=hd1 rfl;have e3:=hd3 rfl;subst e1;subst e3;have hsteps:∀ c cs,Steps P (lone (fr fn (some L.blk) ((params.zip args').foldl (fun tm (q:Tmp×Value)=>tm.setIfInBounds q.1 q.2) tm) [.code asg,.beginRound,.code bo] []) (c :: cs) w)
  (lone (fr fn (some L.blk) tm1 [.code bo] []) (c :: cs) { w1 with heap:=w1.heap.setIfInBounds L.blk (.loop { state:=.busy,pending:=none,fn:=fn1,tmps:=tmx,params:=params'.toArray,assign:=asg',body:=bo',defers:=D1 }) }):=by
  intro c cs;exact Steps.trans (a1 [] [.beginRound,.code bo] (c :: cs)) (.one (vK hbegin))
 cases x with
 | norm =>
  cases hy
  obtain ⟨w4,q1,q2,q3⟩:=fin none .ready rfl _ rfl;exact ⟨_,.bool true,w4,q2,q3,.bool true,fn,_,asg,bo,hyield,fun c cs=>(hsteps c cs).trans (Steps.trans (a3 [] [] (c :: cs)) (.one (gU q1)))⟩
 | exit id =>
  cases hy
  obtain ⟨w4,q1,q2,q3⟩:=fin (some (.exit id)) .done rfl _ rfl;refine ⟨_,.bool false,w4,q2,q3,.bool false,fn,_,asg,bo,hyield,fun c cs=>?_⟩;obtain ⟨k',p1,p2⟩:=a3 [] [] (c :: cs);exact (hsteps c cs).trans (Steps.trans p2 (.one (vJ p1 q1)))
 | ret =>
  cases hy
  obtain ⟨w4,q1,q2,q3⟩:=fin (some .ret) .done rfl _ rfl;refine ⟨_,.bool false,w4,q2,q3,.bool false,fn,_,asg,bo,hyield,fun c cs=>?_⟩;obtain ⟨k',p2⟩:=a3 [] [] (c :: cs);exact (hsteps c cs).trans (Steps.trans p2 (.one (gQ q1)))
theorem QD {e:Emb} {sz:Nat}:∀ {vs vs':List Value} {i:Nat} {t:Tr Value} {tm:Array Value},TR e sz t tm→VRs e vs vs'→i+vs.length≤sz →
 (∀ j,j<vs'.length→tm[i+j]? = vs'[j]?)→TR e sz (zZ i vs t) tm
 | [],_,i,t,tm,T,.nil,_,_=>T
 | v :: r,_,i,t,tm,T,.cons _ v' _ r' hv hr,hi,hq=>by
  simp only [zC4] at hi;have T1:TR e sz (t.set i v) tm:=by
   refine ⟨T.1,fun k u hk=>?_⟩;rw [Tr.QB] at hk;by_cases hki:k=i
   ·rw [if_pos hki] at hk;cases hk
    subst hki;exact ⟨v',by have:=hq 0 (by simp);simpa using this,hv⟩
   ·rw [if_neg hki] at hk;exact T.2 k u hk
  show TR e sz (zZ (i+1) r (t.set i v)) tm
  refine QD T1 hr (by omega) fun j hj=>?_;have:=hq (j+1) (by simp only [zC4];omega);rw [show i+1+j=i+(j+1) by omega];simpa using this
def Ph (tm:Array Value):ResultVar→Sem Value
 | .tmp t=>pure (tm.getD t undef)
 | .cell a t=>do loadVar t (← asAddr (tm.getD a undef))
theorem YH (f:Func) (tm:Array Value):results f tm=(do let vs ← f.results.mapM (Ph tm);pure (if h:vs.size=1 then vs[0] else .tuple vs)):=rfl
theorem vT [Glob] {B:Bs} {e:Emb} {h:AH} {w:World} (r:Rel B e h w) {sz:Nat} {t:Tr Value} {tm:Array Value} (T:TR e sz t tm) {rv:ResultVar} {v:Value} (hv:Jf P t h rv=some v) :
 ∃ v',(Ph tm rv).run P w = .ok v' w∧VR e v v':=by
 cases rv with
 | tmp k =>
  obtain ⟨v',q1,q2⟩:=T.2 k v hv;exact ⟨v',by simp [Ph,q1],q2⟩
 | cell a ty =>
  simp only [Jf] at hv;split at hv
  ·rename_i p hp
   obtain ⟨p',q1,q2⟩:=T.2 a p hp;obtain ⟨v',s1,s2⟩:=WH (P:=P) r hv q2;refine ⟨v',?_,s2⟩;unfold Jp at hv;split at hv
   ·rename_i b o c ee s ro hc
    obtain ⟨rfl,-⟩:=YO hc;obtain ⟨L,hL,rfl⟩:=q2.zO;simp only [Instr.loadAt,Instr.sureAddr,zA5,zB1,zA1] at s1;simp only [Ph,zH2,q1,zH6,asAddr,zA5,zB1,zA1,s1]
   ·cases hv
  ·cases hv
theorem QR [Glob] {B:Bs} {e:Emb} {h:AH} {w:World} (r:Rel B e h w) {sz:Nat} {t:Tr Value} {tm:Array Value} (T:TR e sz t tm):∀ {rs:List ResultVar} {vs:List Value},jr P t h rs=some vs →
 ∃ vs',(rs.mapM (Ph tm)).run P w = .ok vs' w∧VRs e vs vs'
 | [],vs,hv=>by cases hv;exact ⟨[],by simp,.nil⟩
 | rv :: rs,vs,hv=>by
  simp only [jr] at hv;split at hv
  ·rename_i v us h1 h2
   cases hv
   obtain ⟨v',q1,q2⟩:=vT r T h1;obtain ⟨us',p1,p2⟩:=QR r T h2;refine ⟨v' :: us',?_,.cons _ _ _ _ q2 p2⟩;rw [List.mapM_cons];simp only [zA5,q1,p1,zB1,zA1]
  ·cases hv
theorem JK {e:Emb} {vs vs':List Value} (h:VRs e vs vs'):VR e (ji vs) (if h:vs'.toArray.size=1 then vs'.toArray[0] else .tuple vs'.toArray):=by
 cases h with
 | nil=>exact .tuple [] [] .nil
 | cons v v' r r' hv hr =>
  cases hr with
  | nil=>exact hv
  | cons u u' s s' hu hs=>exact .tuple _ _ (.cons _ _ _ _ hv (.cons _ _ _ _ hu hs))
structure Beside (N:Nat) (e:Emb) (w w':World):Prop where
 size:w'.heap.size=w.heap.size
 low:∀ k,k<N→w'.heap[k]? = w.heap[k]?
 img:∀ b L,e b=some L→w'.heap[L.blk]? = w.heap[L.blk]?
 os:w'.os=w.os
 tape:w'.tape=w.tape
 output:w'.output=w.output
theorem Rel.beside [Glob] {B:Bs} {N:Nat} {e:Emb} {h:AH} {w w':World} (r:Rel B e h w) (b:Beside N e w w') (hN:B.lo≤N):Rel B e h w' :=
 ⟨r.dom,r.wf,fun k L q=>by rw [b.size];exact r.rng k L q,fun k L o q1 q2=>(r.obj k L o q1 q2).world (b.img k L q1),r.inj,r.own,by rw [b.size];exact r.base,fun k hk=>(b.low k (by omega)).trans (r.keep k hk),r.glob⟩
theorem Turn.beside {e e':Emb} {h h':AH} {w w' w2:World} (t:Turn e h w e' h' w') (b:Beside w.heap.size e' w' w2):Turn e h w e' h' w2 :=
 ⟨t.le,t.next,t.low,t.old,t.fresh,by rw [b.size];exact t.size,fun k hk hq=>(b.low k hk).trans (t.keep k hk hq),t.same,b.os.trans t.os,b.tape.trans t.tape,b.output.trans t.output⟩
theorem J5 {N:Nat} {e:Emb} {fn:FuncId} {tm:Array Value}:∀ (rs:List Nat) (w:World),rs.Nodup→(∀ r∈rs,N≤r∧w.heap[r]? = some (.deferred (some []))∧∀ b L,e b=some L→L.blk≠r) →
 ∃ w',Beside N e w w'∧∀ k cs,Steps P (lone (gone fn tm k (rs.map mark)) cs w) (lone (gone fn tm k []) cs w')
 | [],w,_,_=>⟨w,⟨rfl,fun _ _=>rfl,fun _ _ _=>rfl,rfl,rfl,rfl⟩,fun _ _=>.refl _ _⟩
 | r :: rs,w,hn,h=>by
  obtain ⟨a1,a2,a3⟩:=h r (by simp);have hlt:r<w.heap.size:=(zB9.1 a2).1;obtain ⟨s1,wr⟩:=Zz (P:=P) (o:=.deferred none) a2 (by intro _ _ _ q;cases q);have ht:(Instr.takeDeferred r).run P w = .ok [] { w with heap:=w.heap.setIfInBounds r (.deferred none) }:=by
   simp only [Instr.takeDeferred,zA5,getObj,Sem.run,a2,zA1,s1,zB1]
  rw [List.nodup_cons] at hn;obtain ⟨w',b,st⟩:=J5 (N:=N) (e:=e) (fn:=fn) (tm:=tm) rs { w with heap:=w.heap.setIfInBounds r (.deferred none) } hn.2 (fun q hq=>by
   obtain ⟨c1,c2,c3⟩:=h q (by simp [hq]);exact ⟨c1,(wr.other q fun p=>hn.1 (p ▸ hq)).trans c2,c3⟩)
  refine ⟨w',⟨b.size.trans wr.size,fun j hj=>(b.low j hj).trans (wr.other j (by omega)),fun p L q=>(b.img p L q).trans (wr.other _ (a3 p L q)),b.os,b.tape,b.output⟩,fun k cs=>?_⟩;exact .head (qfv ht) (st k cs)
theorem QM [Glob] {X:Extern} {run:zI} (hX:Yl P X) (hN:∀ (f:FuncId) (fn:Func),P.funcs[f]? = some fn→fn.body.isSome=true→(fn.name == "runtime.NumGoroutine")=false) (hR:Z4 P run):CallOk P (Qe P X run):=by
 intro f args h v h' hc B e w args' r hargs;unfold Qe at hc;split at hc
 ·rename_i hx
  cases hc
  exact hX _ _ _ _ _ hx B e w args' r hargs
 split at hc
 rotate_left
 ·cases hc
 rename_i fn hfn
 split at hc
 rotate_left
 ·cases hc
 rename_i body hb
 have hcall:(callFunc f args'.toArray).run P w = .ok (.enter f args'.toArray) w:=by
  simp only [callFunc,zA5,run_program,zA1,hfn,hN f fn hfn (by simp [hb]),zD8,if_false,hb,Option.isNone_some,zB1]
 have hlen:=hargs.length;have hent:Frame.enter P f args'.toArray .normal=fr f none (args'.toArray ++ Array.replicate (fn.ntmps - args'.length) undef) [.code body] []:=by
  simp [Frame.enter,fr,hfn,hb]
 have T:TR e (args.length+(fn.ntmps - args.length)) (zZ 0 args .e) (args'.toArray ++ Array.replicate (fn.ntmps - args'.length) undef):=by
  refine QD ⟨by simp [hlen],fun k u hk=>by rw [Tr.XL] at hk;cases hk⟩ hargs (by omega) fun j hj=>?_;rw [zG1,Array.getElem?_append_left (by simpa using hj)];simp
 split at hc
 ·cases hc
 rotate_left
 ·cases hc
 rename_i x t h1 hx hrun
 split at hc
 rotate_left
 ·cases hc
 rename_i vs hvs
 cases hc
 obtain ⟨e1,w1,tm1,dn,r1,u1,T1,m1,-,a1⟩:=hR _ _ _ _ _ _ _ _ hrun B e w _ f none r T (fun _=>rfl);obtain ⟨rs,d1,d2,d3⟩:=m1.ex;have main:(∀ cs,∃ todo,Steps P (lone (fr f none (args'.toArray ++ Array.replicate (fn.ntmps - args'.length) undef) [.code body] []) cs w) (lone (gone f tm1 todo dn) cs w1)) →
  ∃ e' v' w',Rel B e' h' w'∧Turn e h w e' h' w'∧VR e' (ji vs) v'∧∀ c cs,Steps P (lone (Frame.enter P f args'.toArray .normal) (c :: cs) w) (lone (c.finish v') cs w'):=by
  intro hst;obtain ⟨w2,b2,st2⟩:=J5 (P:=P) (N:=w.heap.size) (e:=e1) (fn:=f) (tm:=tm1) rs w1 d2 d3;have r2:=r1.beside b2 r.base;obtain ⟨vs',p1,p2⟩:=QR (P:=P) r2 T1 hvs;refine ⟨e1,_,w2,r2,u1.beside b2,JK p2,fun c cs=>?_⟩;rw [hent];obtain ⟨todo,hst⟩:=hst (c :: cs);refine hst.trans ?_;rw [d1];refine (st2 todo (c :: cs)).trans (.one (wE hfn ?_));rw [YH,zA5,Array.mapM_eq_mapM_toList,Sem.run_map,p1];rfl
 have fin:∃ e' v' w',Rel B e' h' w'∧Turn e h w e' h' w'∧VR e' (ji vs) v'∧∀ c cs,Steps P (lone (Frame.enter P f args'.toArray .normal) (c :: cs) w) (lone (c.finish v') cs w'):=by
  cases x with
  | norm =>
   refine main fun cs=>⟨[],?_⟩
   have:=a1 [] [] cs;rw [zD6] at this;exact Steps.trans this (.one qdK)
  | exit id=>exact (hx id rfl).elim
  | ret =>
   refine main fun cs=>?_;obtain ⟨k',hk⟩:=a1 [] [] cs;rw [zD6] at hk;exact ⟨_,Steps.trans hk (.one qaC)⟩
 obtain ⟨e',v',w',q1,q2,q3,q4⟩:=fin;exact ⟨e',v',w',q1,q2,q3,.inr ⟨hcall,q4⟩⟩
end
end Go.Proofs.Xx
namespace Go.Proofs.Xx
open Go
section
variable {P:Program}
def GV [Glob] (P:Program) (X:Extern) (run:zI):Prop:=∀ sz ops t h t' h',WN P X run sz ops t h=some (t',h')→∀ B e w tm,Rel B e h w→TR e sz t tm→∀ tv:Nat,
 ∃ e' w' tm',Rel B e' h' w'∧Turn e h w e' h' w'∧TR e' sz t' tm'∧∀ (fn:FuncId) (ro:Option Nat) (k:List Item) (ds:List Deferred) (cs:List Frame),
  Steps P (lone (fr fn ro tm (.inRegion ops (Region.schedule (P.follows .mixedOrders) ops tv) :: k) ds) cs w) (lone (fr fn ro tm' (.inRegion ops [] :: k) ds) cs w')
theorem Rel.drawn [Glob] {B:Bs} {e:Emb} {h:AH} {w:World} (r:Rel B e h w):Rel B e h { w with drawn:=w.drawn+1 } :=
 ⟨r.dom,r.wf,r.rng,fun b L o q1 q2=>(r.obj b L o q1 q2).world rfl,r.inj,r.own,r.base,r.keep,r.glob⟩
theorem Turn.drawn (e:Emb) (h:AH) (w:World):Turn e h w e h { w with drawn:=w.drawn+1 } :=
 ⟨e.le_refl,zA3 _,zA3 _,fun _ _ q _=>q,fun b L q n=>(by rw [n] at q;cases q),zA3 _,fun _ _ _=>rfl,fun _ _ _=>rfl,rfl,rfl,rfl⟩
theorem Rel.pushed [Glob] {B:Bs} {e:Emb} {h:AH} {w w':World} {o:Obj} (r:Rel B e h w) (p:Pushed w w' o):Rel B e h w' :=
 ⟨r.dom,r.wf,fun b L q=>by rw [p.size];have:=r.rng b L q;omega,fun b L ob q1 q2=>(r.obj b L ob q1 q2).world (p.old _ (r.rng b L q1)),r.inj,r.own,by rw [p.size];have:=r.base;omega,fun k hk=>(p.old k (by have:=r.base;omega)).trans (r.keep k hk),r.glob⟩
theorem Turn.pushed {w w':World} {o:Obj} (e:Emb) (h:AH) (p:Pushed w w' o):Turn e h w e h w' :=
 ⟨e.le_refl,zA3 _,zA3 _,fun _ _ q _=>q,fun b L q n=>(by rw [n] at q;cases q),by rw [p.size];omega,fun k hk _=>p.old k hk,fun _ _ _=>rfl,p.os,p.tape,p.output⟩
theorem Yz {m m1 m2:Machine} (h:Steps P m m2) (h1:step P m = .next m1) (hne:m≠m2):Steps P m1 m2:=by
 obtain ⟨n,hn⟩:=h;cases n with
 | zero=>simp [runN] at hn;exact absurd hn hne
 | succ n=>simp only [runN,h1] at hn;exact ⟨n,hn⟩
theorem VL {f1 f2:Frame} {cs:List Frame} {w1 w2:World} (h:f1.todo≠f2.todo):lone f1 cs w1≠lone f2 cs w2:=by
 intro q;have:=congrArg (fun m:Machine=>(m.gs[0]?).map fun g=>g.frame.todo) q;simp [lone] at this
 exact h this
theorem P5 [Glob] {X:Extern} {run:zI} (hX:Yl P X) (hN:∀ (f:FuncId) (fn:Func),P.funcs[f]? = some fn→fn.body.isSome=true→(fn.name == "runtime.NumGoroutine")=false)
 (hD:GV P X run) (hR:Z4 P run):Z4 P (zD P X run):=by
 have hC:=QM hX hN hR;have hY:=JZ hR;intro inR sz c t h x t' h' he B e w tm fn ro r T hro;unfold zD at he;split at he
 ·
  cases he
  exact ⟨e,w,tm,[],r,Turn.refl _ _ _,T,Marks.nil _ _ _,fun _=>rfl,fun ds k cs=>.one qbC⟩
 ·cases he
  exact ⟨e,w,tm,[],r,Turn.refl _ _ _,T,Marks.nil _ _ _,fun _=>rfl,fun ds k cs=>.one qdJ⟩
 ·
  rename_i a b
  split at he
  ·rename_i t1 h1 h2
   obtain ⟨e1,w1,tm1,d1,r1,u1,T1,m1,z1,a1⟩:=hR _ _ _ _ _ _ _ _ h2 B e w tm fn ro r T hro;obtain ⟨e2,w2,tm2,d2,r2,u2,T2,m2,z2,a2⟩:=hR _ _ _ _ _ _ _ _ he B e1 w1 tm1 fn ro r1 T1 hro;refine ⟨e2,w2,tm2,d2 ++ d1,r2,u1.trans u2 r.dom,T2,m1.append u2 m2 u1.size,fun q=>by rw [z1 q,z2 q];rfl,fun ds k cs=>?_⟩;have s1:Steps P (lone (fr fn ro tm (.code (.seq a b) :: k) ds) cs w) (lone (fr fn ro tm1 (.code b :: k) (d1 ++ ds)) cs w1):=.head Jr (a1 ds (.code b :: k) cs);have s2:=a2 (d1 ++ ds) k cs;rw [zF2];cases x with
   | norm=>exact Steps.trans s1 s2
   | exit id=>obtain ⟨k',p1,p2⟩:=s2;exact ⟨k',p1,Steps.trans s1 p2⟩
   | ret=>obtain ⟨k',p2⟩:=s2;exact ⟨k',Steps.trans s1 p2⟩
  ·rename_i hne
   obtain ⟨e1,w1,tm1,d1,r1,u1,T1,m1,z1,a1⟩:=hR _ _ _ _ _ _ _ _ he B e w tm fn ro r T hro;refine ⟨e1,w1,tm1,d1,r1,u1,T1,m1,z1,fun ds k cs=>?_⟩;have s1:=a1 ds (.code b :: k) cs;cases x with
   | norm=>exact absurd he (by rw [he] at hne;exact fun _=>hne _ _ rfl)
   | exit id=>obtain ⟨k',p1,p2⟩:=s1;exact ⟨k',by rw [p1];rfl,.head Jr p2⟩
   | ret=>obtain ⟨k',p2⟩:=s1;exact ⟨k',.head Jr p2⟩
 ·
  rename_i c a b
  split at he
  ·rename_i hc
   have hcv:Zn tm c = .bool true:=by have:=qF T hc;generalize Zn tm c=q at this;cases this;rfl
   obtain ⟨e1,w1,tm1,d1,r1,u1,T1,m1,z1,a1⟩:=hR _ _ _ _ _ _ _ _ he B e w tm fn ro r T hro;refine ⟨e1,w1,tm1,d1,r1,u1,T1,m1,z1,fun ds k cs=>?_⟩;have s1:=a1 ds k cs;have s0:=gW (P:=P) (fn:=fn) (ro:=ro) (k:=k) (ds:=ds) (cs:=cs) (w:=w) (x:=a) (y:=b) hcv;cases x with
   | norm=>exact .head s0 s1
   | exit id=>obtain ⟨k',p1,p2⟩:=s1;exact ⟨k',p1,.head s0 p2⟩
   | ret=>obtain ⟨k',p2⟩:=s1;exact ⟨k',.head s0 p2⟩
  ·rename_i hc
   have hcv:Zn tm c = .bool false:=by have:=qF T hc;generalize Zn tm c=q at this;cases this;rfl
   obtain ⟨e1,w1,tm1,d1,r1,u1,T1,m1,z1,a1⟩:=hR _ _ _ _ _ _ _ _ he B e w tm fn ro r T hro;refine ⟨e1,w1,tm1,d1,r1,u1,T1,m1,z1,fun ds k cs=>?_⟩;have s1:=a1 ds k cs;have s0:=gW (P:=P) (fn:=fn) (ro:=ro) (k:=k) (ds:=ds) (cs:=cs) (w:=w) (x:=a) (y:=b) hcv;cases x with
   | norm=>exact .head s0 s1
   | exit id=>obtain ⟨k',p1,p2⟩:=s1;exact ⟨k',p1,.head s0 p2⟩
   | ret=>obtain ⟨k',p2⟩:=s1;exact ⟨k',.head s0 p2⟩
  ·cases he
 ·
  rename_i id body
  split at he
  ·rename_i id' t1 h1 h2
   obtain ⟨e1,w1,tm1,d1,r1,u1,T1,m1,z1,a1⟩:=hR _ _ _ _ _ _ _ _ h2 B e w tm fn ro r T hro;split at he
   ·rename_i hid
    have hid:=zA6 hid;subst hid;cases he
    refine ⟨e1,w1,tm1,d1,r1,u1,T1,m1,z1,fun ds k cs=>?_⟩;obtain ⟨k',p1,p2⟩:=a1 ds (.inBlock id' :: k) cs;exact .head JE (Steps.trans p2 (.one (qbD (by rw [p1];simp [exitTo]))))
   ·rename_i hid
    cases he
    have hid:¬ id=id':=fun q=>by subst q;simp at hid
    refine ⟨e1,w1,tm1,d1,r1,u1,T1,m1,z1,fun ds k cs=>?_⟩;obtain ⟨k',p1,p2⟩:=a1 ds (.inBlock id :: k) cs;refine ⟨k',by rw [p1];simp [exitTo,hid],.head JE p2⟩
  ·rename_i hne
   obtain ⟨e1,w1,tm1,d1,r1,u1,T1,m1,z1,a1⟩:=hR _ _ _ _ _ _ _ _ he B e w tm fn ro r T hro;refine ⟨e1,w1,tm1,d1,r1,u1,T1,m1,z1,fun ds k cs=>?_⟩;have s1:=a1 ds (.inBlock id :: k) cs;cases x with
   | norm=>exact .head JE (Steps.trans s1 (.one xI))
   | exit id'=>exact absurd he (by rw [he] at hne;exact fun _=>hne _ _ _ rfl)
   | ret=>obtain ⟨k',p2⟩:=s1;exact ⟨k',.head JE p2⟩
 ·
  rename_i body
  split at he
  ·rename_i t1 h1 h2
   obtain ⟨e1,w1,tm1,d1,r1,u1,T1,m1,z1,a1⟩:=hR _ _ _ _ _ _ _ _ h2 B e w tm fn ro r T hro;obtain ⟨e2,w2,tm2,d2,r2,u2,T2,m2,z2,a2⟩:=hR _ _ _ _ _ _ _ _ he B e1 w1 tm1 fn ro r1 T1 hro;refine ⟨e2,w2,tm2,d2 ++ d1,r2,u1.trans u2 r.dom,T2,m1.append u2 m2 u1.size,fun q=>by rw [z1 q,z2 q];rfl,fun ds k cs=>?_⟩;have s1:Steps P (lone (fr fn ro tm (.code (.loop body) :: k) ds) cs w) (lone (fr fn ro tm1 (.code body :: .inLoop body :: k) (d1 ++ ds)) cs w1) :=
    .head J9 (Steps.trans (a1 ds (.inLoop body :: k) cs) (.one wG))
   have s2:=a2 (d1 ++ ds) k cs;rw [zF2];cases x with
   | norm=>exact Steps.trans s1 (Yz s2 J9 (VL (fun q=>by have:=congrArg List.length q;simp [fr] at this)))
   | exit id=>obtain ⟨k',p1,p2⟩:=s2;exact ⟨k',p1,Steps.trans s1 (Yz p2 J9 (VL (fun q=>by simp [fr] at q)))⟩
   | ret=>obtain ⟨k',p2⟩:=s2;exact ⟨k',Steps.trans s1 (Yz p2 J9 (VL (fun q=>by simp [fr] at q)))⟩
  ·rename_i hne
   obtain ⟨e1,w1,tm1,d1,r1,u1,T1,m1,z1,a1⟩:=hR _ _ _ _ _ _ _ _ he B e w tm fn ro r T hro;refine ⟨e1,w1,tm1,d1,r1,u1,T1,m1,z1,fun ds k cs=>?_⟩;have s1:=a1 ds (.inLoop body :: k) cs;cases x with
   | norm=>exact absurd he (by rw [he] at hne;exact fun _=>hne _ _ rfl)
   | exit id=>obtain ⟨k',p1,p2⟩:=s1;exact ⟨k',by rw [p1];rfl,.head J9 p2⟩
   | ret=>obtain ⟨k',p2⟩:=s1;exact ⟨k',.head J9 p2⟩
 ·
  rename_i body
  obtain ⟨e1,w1,tm1,d1,r1,u1,T1,m1,z1,a1⟩:=hR _ _ _ _ _ _ _ _ he B e w tm fn ro r T hro;refine ⟨e1,w1,tm1,d1,r1,u1,T1,m1,z1,fun ds k cs=>?_⟩;have s1:=a1 ds (.inScope body :: k) cs;cases x with
  | norm=>exact .head xE (Steps.trans s1 (.one qaE))
  | exit id=>obtain ⟨k',p1,p2⟩:=s1;exact ⟨k',by rw [p1];rfl,.head xE p2⟩
  | ret=>obtain ⟨k',p2⟩:=s1;exact ⟨k',.head xE p2⟩
 ·
  cases he
  exact ⟨e,w,tm,[],r,Turn.refl _ _ _,T,Marks.nil _ _ _,fun _=>rfl,fun ds k cs=>⟨k,rfl,.refl _ _⟩⟩
 ·
  cases he
  exact ⟨e,w,tm,[],r,Turn.refl _ _ _,T,Marks.nil _ _ _,fun _=>rfl,fun ds k cs=>⟨k,.refl _ _⟩⟩
 ·
  rename_i id ops
  split at he
  ·rename_i t1 h1 h2
   cases he
   have h3:XB P X run sz ops (ops.toList.drop 0) t h=some (t',h'):=h2;obtain ⟨e1,w1,tm1,r1,u1,T1,a1⟩:=yf hC hY ops.size 0 t h _ _ e w tm (by omega) h3 r T;refine ⟨e1,w1,tm1,[],r1,u1,T1,Marks.nil _ _ _,fun _=>rfl,fun ds k cs=>?_⟩;have:=a1 fn ro k ds cs;rw [← List.range_eq_range'] at this;exact .head X7 (Steps.trans this (.one Qw))
  ·cases he
 ·
  rename_i id ops
  split at he
  ·rename_i t1 h1 h2
   cases he
   obtain ⟨e1,w1,tm1,r1,u1,T1,a1⟩:=hD _ _ _ _ _ _ h2 B e _ tm r.drawn T (w.tape w.drawn (.order fn id));refine ⟨e1,w1,tm1,[],r1,(Turn.drawn e h w).trans u1 r.dom,T1,Marks.nil _ _ _,fun _=>rfl,fun ds k cs=>?_⟩;exact .head xG (Steps.trans (a1 fn ro k ds cs) (.one Qw))
  ·cases he
 ·
  rename_i f ps asg bo
  split at he
  rotate_left
  ·cases he
  rename_i g first captured hf
  have hro:=hro rfl;subst hro;obtain ⟨first',captured',hfv,hf1,hf2⟩:=(qF T hf).PV;split at he
  rotate_left
  ·cases he
  rename_i v1 h1 hcall
  split at he
  rotate_left
  ·cases he
  rename_i st pend sz1 t1 ps1 as1 bo1 hg1
  have pA:=zV w (.deferred (some []));have rA:=r.pushed pA;have uA:=Turn.pushed e h pA;have pB:=zV { w with heap:=w.heap.push (.deferred (some [])) } (.loop { state:=.ready,pending:=none,fn:=fn,tmps:=tm,params:=ps,assign:=asg,body:=bo,defers:=w.heap.size });have hTm:=T.mono (rA.QW ⟨w.heap.size+1,0,0⟩);have hsz:({ w with heap:=w.heap.push (.deferred (some [])) }:World).heap.size=w.heap.size+1:=by simp
  obtain ⟨rB,uB⟩:=rA.add (s:=0) (o:=.loop .ready none sz t ps.toList asg bo) pB (by
   rw [hsz];refine ⟨fn,tm,w.heap.size,?_,hTm⟩;have:=pB.new;rw [hsz] at this;rw [this])
  rw [hsz] at rB uB;have mB:Marks w.heap.size (e.put h.next ⟨w.heap.size+1,0,0⟩) _ [mark w.heap.size]:=⟨[w.heap.size],rfl,by simp,fun q hq=>by
   simp only [zB5] at hq;subst hq;refine ⟨zA3 _,(pB.old _ (by rw [hsz];omega)).trans pA.new,fun b L hb=>?_⟩;by_cases hbn:b=h.next
   ·subst hbn;rw [Emb.qP] at hb;cases hb;simp
   ·rw [Emb.zh _ _ hbn] at hb;have:=r.rng b L hb;omega⟩
  have hargs:VRs (e.put h.next ⟨w.heap.size+1,0,0⟩) (first.toList ++ (.func (.yield h.next) #[] #[] :: captured.toList)) (first'.toList ++ (.func (.yield (w.heap.size+1)) #[] #[] :: captured'.toList)) :=
   (hf1.mono uB.le).append (.cons _ _ _ _ (.yield h.next ⟨w.heap.size+1,0,0⟩ (Emb.qP _ _ _)) (hf2.mono uB.le))
  obtain ⟨e2,v2,w2,r2,u2,-,c2⟩:=hC _ _ _ _ _ hcall B _ _ _ rB hargs;have hL2:=u2.le h.next _ (Emb.qP e h.next ⟨w.heap.size+1,0,0⟩)
  obtain ⟨fn2,tm2,D2,hb2,T2⟩:=r2.obj h.next _ _ hL2 hg1
  obtain ⟨s3,wr3⟩:=Zz (P:=P) (o:=.loop { state:=.exhausted,pending:=pend,fn:=fn2,tmps:=tm2,params:=ps1.toArray,assign:=as1,body:=bo1,defers:=D2 }) hb2 (by intro _ _ _ q;cases q);obtain ⟨r3,u3⟩:=r2.put hL2 hg1 rfl wr3 (o':=.loop .exhausted pend sz1 t1 ps1 as1 bo1) ⟨fn2,tm2,D2,wr3.here,T2⟩ (fun _=>rfl);have m3:=(mB.turn u2).turn u3;have uAll:Turn e h w e2 _ _:=((uA.trans uB r.dom).trans u2 r.dom).trans u3 r.dom;have hent:(Instr.enterLoop fn tm ps asg bo none).run P w = .ok (w.heap.size+1,[mark w.heap.size]) { w with heap:=(w.heap.push (.deferred (some []))).push (.loop { state:=.ready,pending:=none,fn:=fn,tmps:=tm,params:=ps,assign:=asg,body:=bo,defers:=w.heap.size }) }:=by
   simp only [Instr.enterLoop,zA5,run_newObj,zB1,zA1,Array.size_push];rfl
  have hargs2:(first'.toList ++ (Value.func (.yield (w.heap.size+1)) #[] #[] :: captured'.toList)).toArray=first' ++ #[.func (.yield (w.heap.size+1)) #[] #[]] ++ captured':=by apply Array.ext';simp
  rw [hargs2] at c2;have start:∀ ds k cs,Steps P (lone (fr fn none tm (.code (.rangeFunc f ps asg bo) :: k) ds) cs w) (lone (fr fn none tm (.endRangeFunc (w.heap.size+1) :: k) (mark w.heap.size :: ds)) cs w2):=by
   intro ds k cs;rcases c2 with c2|⟨c2,c3⟩
   ·exact .one (YB hent hfv c2)
   ·exact .head (gK hent hfv c2) (c3 (fr fn none tm (.inRangeFunc (w.heap.size+1) :: k) (mark w.heap.size :: ds)) cs)
  have hend:st≠.busy→(Instr.endLoop (w.heap.size+1)).run P w2 = .ok pend { w2 with heap:=w2.heap.setIfInBounds (w.heap.size+1) (.loop { state:=.exhausted,pending:=pend,fn:=fn2,tmps:=tm2,params:=ps1.toArray,assign:=as1,body:=bo1,defers:=D2 }) }:=by
   intro hst;have hb:(st == LoopState.busy)=false:=by cases st<;>first|rfl|exact absurd rfl hst
   simp only [Instr.endLoop,zA5,run_getLoop hb2,zA1,hb,zD8,if_false,s3,zB1]
  split at he
  ·cases he
  rename_i hst
  have hst:st≠.busy:=fun q=>hst q;have T3:=T.mono uAll.le;split at he
  ·cases he
   refine ⟨e2,_,tm,[mark w.heap.size],r3,uAll,T3,m3,(fun q=>by cases q),fun ds k cs=>?_⟩;exact Steps.trans (start ds k cs) (.one (XF (hend hst)))
  ·rename_i id
   cases he
   refine ⟨e2,_,tm,[mark w.heap.size],r3,uAll,T3,m3,(fun q=>by cases q),fun ds k cs=>⟨k,rfl,?_⟩⟩;exact Steps.trans (start ds k cs) (.one (XF (hend hst)))
  ·cases he
   refine ⟨e2,_,tm,[mark w.heap.size],r3,uAll,T3,m3,(fun q=>by cases q),fun ds k cs=>⟨k,?_⟩⟩;exact Steps.trans (start ds k cs) (.one (XF (hend hst)))
  ·cases he
 ·cases he
theorem Gf [Glob] {X:Extern} (hX:Yl P X) (hN:∀ (f:FuncId) (fn:Func),P.funcs[f]? = some fn→fn.body.isSome=true→(fn.name == "runtime.NumGoroutine")=false)
 (hD:∀ run,Z4 P run→GV P X run):∀ n,Z4 P (exec P X n)
 | 0=>fun _ _ _ _ _ _ _ _ he=>by cases he
 | n+1=>P5 hX hN (hD _ (Gf hX hN hD n)) (Gf hX hN hD n)
end
end Go.Proofs.Xx
namespace Go.Proofs.Xx
open Go
def Valid (ops:Array Oper) (p:List Nat):Prop:=∀ a j b,p=a ++ j :: b→j ∉ a∧∃ o,ops[j]? = some o∧∀ e∈o.after,Region.binds .any e=true→e.on∈a
theorem Valid.nil (ops:Array Oper):Valid ops []:=fun a j b h=>by cases a<;>cases h
theorem Valid.snoc {ops:Array Oper} {p:List Nat} (v:Valid ops p) {j:Nat} {o:Oper} (hj:j ∉ p) (ho:ops[j]? = some o) (he:∀ e∈o.after,Region.binds .any e=true→e.on∈p):Valid ops (p ++ [j]):=by
 intro a i b h;rcases List.eq_nil_or_concat b with hb|⟨b',x,hb⟩
 ·subst hb;have:=List.append_inj' h rfl;obtain ⟨h1,h2⟩:=this;cases h2
  subst h1;exact ⟨hj,o,ho,he⟩
 ·subst hb;have h':p ++ [j]=(a ++ i :: b') ++ [x]:=by rw [h];simp
  have:=List.append_inj' h' rfl;exact v a i b' this.1
theorem Valid.left {ops:Array Oper} {p q:List Nat} (v:Valid ops (p ++ q)):Valid ops p:=fun a j b h=>v a j (b ++ q) (by rw [h];simp)
theorem Valid.nodup {ops:Array Oper}:∀ (n:Nat) (p:List Nat),p.length=n→Valid ops p→p.Nodup:=by
 intro n;induction n with
 | zero=>intro p h _;have:=zE8.1 h;subst this;exact .nil
 | succ n ih =>
  intro p h v;rcases List.eq_nil_or_concat p with hp|⟨q,x,hp⟩
  ·subst hp;exact .nil
  ·rw [List.concat_eq_append] at hp;subst hp;have h1:=ih q (by simp at h;exact h) v.left;have h2:=(v q x [] rfl).1;rw [zG4];refine ⟨h1,by simp,fun y hy z hz q=>?_⟩;simp at hz;subst hz;subst q;exact h2 hy
theorem Valid.lt {ops:Array Oper} {p:List Nat} (v:Valid ops p) {j:Nat} (h:j∈p):j<ops.size:=by
 obtain ⟨a,b,rfl⟩:=List.append_of_mem h;obtain ⟨-,o,ho,-⟩:=v a j b rfl;exact (zB9.1 ho).1
theorem Yu (ms:List Nat):∀ (es:List Edge) (m k:Nat),(es.foldl (yO ms) m).testBit k=true→m.testBit k=true∨∃ e∈es,Region.binds .any e=true∧(k=e.on∨prec ms k e.on=true)
 | [],m,k,h=>.inl h
 | e :: r,m,k,h=>by
  rw [List.foldl_cons] at h;rcases Yu ms r _ k h with h|⟨e',h1,h2⟩
  ·unfold yO at h;split at h
   ·rename_i hb
    rw [Nat.testBit_or,Nat.testBit_or,zG8,zG8] at h;rcases h with h|h|h
    ·exact .inl h
    ·refine .inr ⟨e,by simp,hb,.inl ?_⟩;rw [Nat.one_shiftLeft,Nat.testBit_two_pow] at h;simpa using (show e.on=k by simpa using h).symm
    ·refine .inr ⟨e,by simp,hb,.inr ?_⟩;unfold prec;cases hm:ms[e.on]? with
     | none=>rw [hm] at h;simp at h
     | some m'=>rw [hm] at h;simpa using h
   ·exact .inl h
  ·exact .inr ⟨e',by simp [h1],h2⟩
theorem KE:∀ (os:List Oper) (ms:List Nat),(masks os ms).length=ms.length+os.length
 | [],ms=>by simp [masks]
 | o :: r,ms=>by simp only [masks,KE r,zB2,zC4,List.length_nil];omega
theorem VJ:∀ (os:List Oper) (ms:List Nat) (i:Nat),i<ms.length→(masks os ms)[i]? = ms[i]?
 | [],ms,i,h=>rfl
 | o :: r,ms,i,h=>by
  simp only [masks];rw [VJ r _ i (by simp;omega),zH7 h]
theorem wW:∀ (os:List Oper) (ms:List Nat) (i:Nat) (o:Oper),os[i]? = some o→∃ ms',ms'.length=ms.length+i∧(∀ k,k<ms'.length→ms'[k]? = (masks os ms)[k]?)∧(masks os ms)[ms.length+i]? = some (qa5 ms' o)
 | [],ms,i,o,h=>by simp at h
 | o :: r,ms,i,o',h=>by
  cases i with
  | zero =>
   simp at h;subst h;refine ⟨ms,rfl,fun k hk=>(VJ (o :: r) ms k hk).symm,?_⟩;simp only [masks];rw [VJ r _ _ (by simp)];simp
  | succ i =>
   simp at h;obtain ⟨ms',h1,h2,h3⟩:=wW r (ms ++ [qa5 ms o]) i o' h;refine ⟨ms',by rw [h1];simp;omega,fun k hk=>by simp only [masks];exact h2 k hk,?_⟩;simp only [masks];rw [← h3];congr 1
   simp;omega
theorem QK {ops:Array Oper}:∀ (j:Nat) (p a b:List Nat) (k:Nat),Valid ops p→p=a ++ j :: b→prec (masks ops.toList []) k j=true→k∈a:=by
 intro j;induction j using Nat.strongRecOn with
 | _ j ih =>
  intro p a b k v hp h;obtain ⟨-,o,ho,he⟩:=v a j b hp;have ho':ops.toList[j]? = some o:=by rw [zC1];exact ho
  obtain ⟨ms',h1,h2,h3⟩:=wW ops.toList [] j o ho';simp only [List.length_nil,zG1] at h1 h3;unfold prec at h;rw [h3] at h;simp only at h;rcases Yu ms' _ 0 k h with h|⟨e,q1,q2,q3⟩
  ·simp at h
  ·have hea:=he e (by simpa using q1) q2;rcases q3 with q3|q3
   ·rw [q3];exact hea
   ·unfold prec at q3;cases hm:ms'[e.on]? with
    | none=>rw [hm] at q3;cases q3
    | some m' =>
     have hlt:e.on<j:=by
      have:=(zD5.1 hm).1;omega
     obtain ⟨a1,a2,ha⟩:=List.append_of_mem hea;have hk:=ih e.on hlt p a1 (a2 ++ j :: b) k v (by rw [hp,ha];simp) (by
      unfold prec;rw [← h2 e.on (by omega),hm];rw [hm] at q3;exact q3)
     rw [ha];simp [hk]
theorem YC:∀ {p q:List Nat},p.Pairwise (· < ·)→q.Pairwise (· < ·)→(∀ x,x∈p↔x∈q)→p=q
 | [],[],_,_,_=>rfl
 | [],y :: q,_,_,h=>by have:=(h y).2 (by simp);simp at this
 | x :: p,[],_,_,h=>by have:=(h x).1 (by simp);simp at this
 | x :: p,y :: q,hp,hq,h=>by
  rw [zH5] at hp hq;have hxy:x=y:=by
   have h1:=(h x).1 (by simp);have h2:=(h y).2 (by simp);rw [zE7] at h1 h2;rcases h1 with h1|h1
   ·exact h1
   ·rcases h2 with h2|h2
    ·exact h2.symm
    ·have:=hq.1 x h1;have:=hp.1 y h2;omega
  subst hxy;congr 1
  refine YC hp.2 hq.2 fun z=>⟨fun hz=>?_,fun hz=>?_⟩
  ·have:=(h z).1 (by simp [hz]);rw [zE7] at this;rcases this with q|q
   ·subst q;have:=hp.1 z hz;omega
   ·exact q
  ·have:=(h z).2 (by simp [hz]);rw [zE7] at this;rcases this with q|q
   ·subst q;have:=hq.1 z hz;omega
   ·exact q
theorem Wi:∀ {ms q:List Nat},ms.Pairwise (· < ·)→q.Pairwise (· < ·)→(∀ x∈q,x∈ms)→(∀ x∈q,∀ y∈ms,y<x→y∈q)→q=ms.take q.length
 | ms,[],_,_,_,_=>by simp
 | [],y :: q,_,_,h,_=>by have:=h y (by simp);simp at this
 | x :: ms,y :: q,hm,hq,h,hd=>by
  rw [zH5] at hm hq;have hxy:x=y:=by
   have h1:=h y (by simp);rw [zE7] at h1;rcases h1 with h1|h1
   ·exact h1.symm
   ·have h2:=hm.1 y h1;have h3:=hd y (by simp) x (by simp) h2;rw [zE7] at h3;rcases h3 with h3|h3
    ·exact h3
    ·have:=hq.1 x h3;omega
  subst hxy;rw [zC4,List.take_succ_cons];congr 1
  refine Wi hm.2 hq.2 (fun z hz=>?_) fun z hz y hy hlt=>?_
  ·have:=h z (by simp [hz]);rw [zE7] at this;rcases this with q|q
   ·subst q;have:=hq.1 z hz;omega
   ·exact q
  ·have:=hd z (by simp [hz]) y (by simp [hy]) hlt;rw [zE7] at this;rcases this with q|q
   ·subst q;have:=hm.1 y hy;omega
   ·exact q
theorem ZC (n:Nat) (C:Nat→Bool):((List.range n).filter C).Pairwise (· < ·):=List.Pairwise.filter _ List.pairwise_lt_range
def Chain (ops:Array Oper) (C:Nat→Bool):Prop:=∀ k i,k<i→i<ops.size→C k=true→C i=true→prec (masks ops.toList []) k i=true
theorem Chain.sorted {ops:Array Oper} {C:Nat→Bool} (c:Chain ops C) {p:List Nat} (v:Valid ops p):(p.filter C).Pairwise (· < ·):=by
 have hn:=Valid.nodup _ p rfl v;rw [List.pairwise_filter];rw [List.pairwise_iff_forall_sublist];intro x y hs hx hy;have hxm:x∈p:=hs.subset (by simp);have hym:y∈p:=hs.subset (by simp);have hne:x≠y:=by
  have:=hn.sublist hs;simp at this;exact this
 rcases zA7 x y with h|h
 ·exact h
 ·exfalso
  have hlt:y<x:=by omega
  have hp:=c y x hlt (v.lt hxm) hy hx;obtain ⟨a,b,hab⟩:=List.append_of_mem hxm;have hya:=QK x p a b y v hab hp;rw [hab] at hs hn;have h2:[y].Sublist b:=by
   have hxa:x ∉ a:=(v a x b hab).1;have:=hs;rw [List.sublist_append_iff] at this;obtain ⟨l1,l2,e1,e2,e3⟩:=this;cases l1 with
   | nil =>
    simp at e1;subst e1;cases e3 with
    | cons _ h=>exact (List.sublist_cons_self x [y]).trans h |>.trans (List.Sublist.refl _)
    | cons_cons _ h=>exact h
   | cons z l1 =>
    simp at e1;exact absurd (e2.subset (by simp [e1.1])) hxa
  have hyb:y∈b:=h2.subset (by simp);rw [zG4] at hn;exact hn.2.2 y hya y (by simp [hyb]) rfl
theorem Chain.qbm {ops:Array Oper} {C:Nat→Bool} {p a b:List Nat} {j:Nat} (v:Valid ops p) (hp:p=a ++ j :: b) (c:Chain ops C)
 (h1:∀ k,k<j→C k=true→prec (masks ops.toList []) k j=true) (h2:∀ k,j<k→k<ops.size→C k=true→prec (masks ops.toList []) j k=true):a.filter C=(List.range j).filter C:=by
 subst hp;refine YC (c.sorted v.left) (ZC _ _) fun x=>?_;simp only [zD9,zE2];constructor
 ·rintro ⟨hx,hc⟩;refine ⟨?_,hc⟩;have hne:j ∉ a:=(v a j b rfl).1;rcases zE6 x j with q|q|q
  ·exact q
  ·subst q;exact absurd hx hne
  ·exfalso
   have hp:=h2 x q (v.lt (by simp [hx])) hc;obtain ⟨a1,a2,ha⟩:=List.append_of_mem hx;have:=QK x _ a1 (a2 ++ j :: b) j v (by rw [ha];simp) hp;exact hne (by rw [ha];simp [this])
 ·rintro ⟨hx,hc⟩;exact ⟨QK j _ a b x v rfl (h1 x hx hc),hc⟩
theorem Chain.take {ops:Array Oper} {C:Nat→Bool} {p:List Nat} (v:Valid ops p) (c:Chain ops C):p.filter C=((List.range ops.size).filter C).take (p.filter C).length:=by
 refine Wi (ZC _ _) (c.sorted v) (fun x hx=>?_) fun x hx y hy hlt=>?_
 ·rw [zD9] at hx ⊢;exact ⟨zE2.2 (v.lt hx.1),hx.2⟩
 ·rw [zD9] at hx hy ⊢;refine ⟨?_,hy.2⟩;have hp:=c y x hlt (v.lt hx.1) hy.2 hx.2;obtain ⟨a1,a2,ha⟩:=List.append_of_mem hx.1;have:=QK x p a1 a2 y v ha hp;rw [ha];simp [this]
theorem yj:∀ (n:Nat) (p:List Nat),p.Nodup→(∀ x∈p,x<n)→p.length≤n
 | 0,[],_,_=>zA3 _
 | 0,x :: _,_,h=>by have:=h x (by simp);omega
 | n+1,p,hn,h=>by
  have h1:=yj n (p.erase n) (hn.erase n) fun x hx=>by
   rw [hn.mem_erase_iff] at hx;have:=h x hx.2;omega
  by_cases hm:n∈p
  ·rw [List.length_erase_of_mem hm] at h1;omega
  ·rw [List.erase_of_not_mem hm] at h1;omega
theorem qa3 {n:Nat} {p:List Nat} (hn:p.Nodup) (h:∀ x∈p,x<n) (hl:p.length=n) {x:Nat} (hx:x<n):x∈p:=by
 by_cases hm:x∈p
 ·exact hm
 ·have:=yj n (x :: p) (List.nodup_cons.2 ⟨hm,hn⟩) fun y hy=>by
   rw [zE7] at hy;rcases hy with rfl|hy
   ·exact hx
   ·exact h y hy
  simp at this;omega
theorem Chain.full {ops:Array Oper} {C:Nat→Bool} {p:List Nat} (v:Valid ops p) (c:Chain ops C) (hl:p.length=ops.size):p.filter C=(List.range ops.size).filter C:=by
 refine YC (c.sorted v) (ZC _ _) fun x=>?_;simp only [zD9,zE2];constructor
 ·rintro ⟨hx,hc⟩;exact ⟨v.lt hx,hc⟩
 ·rintro ⟨hx,hc⟩;refine ⟨?_,hc⟩;have hn:=Valid.nodup _ p rfl v;exact qa3 hn (fun y hy=>v.lt hy) hl hx
end Go.Proofs.Xx
namespace Go.Proofs.Xx
open Go
section
variable {t u:Tr Value}
theorem qK {o:Operand} (h:∀ x∈tmpsOf o,t.get x=u.get x):zY t o=zY u o:=by
 cases o with
 | tmp k=>exact h k (by simp [tmpsOf])
 | _=>rfl
theorem Ji:∀ {os:List Operand},(∀ x∈J6 os,t.get x=u.get x)→jO t os=jO u os
 | [],_=>rfl
 | o :: r,h=>by
  simp only [jO];rw [qK (t:=t) (u:=u) (o:=o) fun x hx=>h x (by simp [J6,hx]),Ji (os:=r) fun x hx=>h x (by simp [J6,hx])]
theorem Zg:∀ {os:List (Nat×Operand)},(∀ x∈JC os,t.get x=u.get x)→jG t os=jG u os
 | [],_=>rfl
 | (i,o) :: r,h=>by
  simp only [jG];rw [qK (t:=t) (u:=u) (o:=o) fun x hx=>h x (by simp [JC,hx]),Zg (os:=r) fun x hx=>h x (by simp [JC,hx])]
theorem XQ {o:Option Operand} (h:∀ x∈YW o,t.get x=u.get x):jM t o=jM u o:=by
 cases o with
 | none=>rfl
 | some o=>simp only [jM];rw [qK (t:=t) (u:=u) (o:=o) fun x hx=>h x (by simpa [YW] using hx)]
theorem kN {P:Program} {h:AH} {op:Op} (hc:∀ x∈Yy op,t.get x=u.get x):ja P t h op=ja P u h op:=by
 cases op<;>simp only [ja,Yy] at hc ⊢
 case move x=>rw [qK hc]
 case assign x=>rw [qK hc]
 case nilCheck x=>rw [qK hc]
 case load ty x=>rw [qK hc]
 case unOp a b x=>rw [qK hc]
 case convert a b x=>rw [qK hc]
 case fieldAddr a x b=>rw [qK hc]
 case field a x b=>rw [qK hc]
 case extract x b=>rw [qK hc]
 case box a x=>rw [qK hc]
 case pick c a b =>
  rw [qK (o:=c) fun x hx=>hc x (by simp [hx]),qK (o:=a) fun x hx=>hc x (by simp [hx]),qK (o:=b) fun x hx=>hc x (by simp [hx])]
 case build ty ps=>rw [Zg hc]
 case buildSlice ty n ps=>rw [Zg hc]
 case store ty a x=>rw [qK (o:=a) fun y hx=>hc y (by simp [hx]),qK (o:=x) fun y hx=>hc y (by simp [hx])]
 case binOp op ty a x _=>rw [qK (o:=a) fun y hx=>hc y (by simp [hx]),qK (o:=x) fun y hx=>hc y (by simp [hx])]
 case indexAddr ty a x=>rw [qK (o:=a) fun y hx=>hc y (by simp [hx]),qK (o:=x) fun y hx=>hc y (by simp [hx])]
 case index ty a x=>rw [qK (o:=a) fun y hx=>hc y (by simp [hx]),qK (o:=x) fun y hx=>hc y (by simp [hx])]
 case makeSlice ty a x=>rw [qK (o:=a) fun y hx=>hc y (by simp [hx]),qK (o:=x) fun y hx=>hc y (by simp [hx])]
 case lookup ty m k ok=>rw [qK (o:=m) fun y hx=>hc y (by simp [hx]),qK (o:=k) fun y hx=>hc y (by simp [hx])]
 case mapEntry ty m k=>rw [qK (o:=m) fun y hx=>hc y (by simp [hx]),qK (o:=k) fun y hx=>hc y (by simp [hx])]
 case mapUpdate ty m k x=>rw [qK (o:=m) fun y hx=>hc y (by simp [hx]),qK (o:=k) fun y hx=>hc y (by simp [hx]),qK (o:=x) fun y hx=>hc y (by simp [hx])]
 case insert ty m k x=>rw [qK (o:=m) fun y hx=>hc y (by simp [hx]),qK (o:=k) fun y hx=>hc y (by simp [hx]),qK (o:=x) fun y hx=>hc y (by simp [hx])]
 case entryStore ty m k x=>rw [qK (o:=m) fun y hx=>hc y (by simp [hx]),qK (o:=k) fun y hx=>hc y (by simp [hx]),qK (o:=x) fun y hx=>hc y (by simp [hx])]
 case makeFunc fn a b =>
  cases fn<;>simp only
  rw [Ji (os:=a.toList) fun y hx=>hc y (by simp [hx]),Ji (os:=b.toList) fun y hx=>hc y (by simp [hx])]
 case slice ty x a b c =>
  rw [qK (o:=x) fun y hx=>hc y (by simp [hx]),XQ (o:=a) fun y hx=>hc y (by simp [hx]),XQ (o:=b) fun y hx=>hc y (by simp [hx]),XQ (o:=c) fun y hx=>hc y (by simp [hx])]
 case call c =>
  obtain ⟨callee,args,argTypes⟩:=c;simp only at hc ⊢;rw [Ji (os:=args.toList) fun y hx=>hc y (by simp [hx])];cases callee with
  | value f=>simp only at hc ⊢;rw [qK (o:=f) fun y hx=>hc y (by simp [hx])]
  | _=>rfl
theorem qcL {P:Program} {X:Extern} {run:zI} {h:AH} {op:Op} (hc:∀ x∈Yy op,t.get x=u.get x):yg P X run t h op=yg P X run u h op:=by
 unfold yg;rw [kN hc]
theorem Gz {P:Program} {op:Op} (hc:∀ x∈Yy op,t.get x=u.get x):Qq P t op=Qq P u op:=by
 cases op<;>simp only [Qq,Yy] at hc ⊢
 case box a x=>rw [qK hc]
 case buildSlice ty n ps=>rw [Zg hc]
theorem KT {ops:Array Oper} {o:Oper} (hc:∀ x∈qbb ops o,t.get x=u.get x):qp ops t o.guard=qp ops u o.guard:=by
 unfold qbb at hc;unfold qp;cases hg:o.guard with
 | none=>rfl
 | some g =>
  obtain ⟨j,want⟩:=g;rw [hg] at hc;simp only at hc ⊢;cases ho:ops[j]? with
  | none=>rfl
  | some o' =>
   rw [ho] at hc;simp only at hc ⊢;cases hd:o'.dst with
   | none=>rfl
   | some d =>
    simp only;rw [hc d (by simp [qfX,hd])]
end
theorem zu {o:Option Value} {h:AH} {n:Xz} (hn:qU o h=some n):∃ v,n = .val v h:=by
 unfold qU at hn;split at hn
 ·cases hn;exact ⟨_,rfl⟩
 ·cases hn
theorem Zo {P:Program} {t:Tr Value} {h:AH} {op:Op} {n:Xz} (hm:Wq op=false) (ha:ja P t h op=some n):∃ v,n = .val v h:=by
 cases op<;>simp only [Wq] at hm<;>simp only [ja] at ha
 case move x=>exact zu ha
 case assign x=>exact zu ha
 case pick c a b =>
  split at ha
  ·exact zu ha
  ·exact zu ha
  ·cases ha
 case build ty ps =>
  split at ha
  ·exact zu ha
  ·cases ha
 case load ty x =>
  split at ha
  ·exact zu ha
  ·cases ha
 case nilCheck x =>
  split at ha
  ·cases ha;exact ⟨_,rfl⟩
  ·cases ha
 case binOp op ty x y _ =>
  split at ha
  ·exact zu ha
  ·cases ha
 case unOp op ty x =>
  split at ha
  ·exact zu ha
  ·cases ha
 case convert s d x =>
  split at ha
  ·split at ha
   ·cases ha;exact ⟨_,rfl⟩
   ·split at ha
    ·cases ha;exact ⟨_,rfl⟩
    ·exact zu ha
  ·cases ha
 case makeFunc fn a b =>
  cases fn<;>simp only at ha
  case func f =>
   split at ha
   ·cases ha;exact ⟨_,rfl⟩
   ·cases ha
  all_goals cases ha
 case slice ty x a b c =>
  cases c with
  | some c=>simp at hm
  | none =>
   split at ha
   ·rename_i h4
    cases h4
    exact zu ha
   ·cases ha
 case fieldAddr a x b =>
  split at ha
  ·exact zu ha
  ·cases ha
 case field a x b =>
  split at ha
  ·exact zu ha
  ·cases ha
 case indexAddr a x b =>
  split at ha
  ·exact zu ha
  ·cases ha
 case index a x b =>
  split at ha
  ·exact zu ha
  ·cases ha
 case extract x b =>
  split at ha
  ·exact zu ha
  ·cases ha
 case lookup ty m k ok =>
  split at ha
  ·exact zu ha
  ·cases ha
 case call c =>
  obtain ⟨callee,args,argTypes⟩:=c;simp only at hm ha;split at ha
  ·cases callee with
   | builtin b =>
    simp only at hm ha;unfold jK at ha;split at ha<;>first|exact zu ha|(simp at hm;done)|(cases ha;done)
   | value f=>simp at hm
   | invoke a b=>simp at hm
  ·cases ha
 all_goals first|(cases ha;done)|(simp at hm;done)
theorem qec {P:Program} {X:Extern} {run:zI} {t:Tr Value} {h h':AH} {op:Op} {v:Value} (hm:Wq op=false) (ha:yg P X run t h op=some (v,h')):h'=h:=by
 unfold yg at ha;split at ha
 ·rename_i v0 h0 hn
  cases ha
  obtain ⟨u,hu⟩:=Zo hm hn;cases hu;rfl
 ·rename_i h0 hn
  obtain ⟨u,hu⟩:=Zo hm hn;cases hu
 ·rename_i g args hn
  obtain ⟨u,hu⟩:=Zo hm hn;cases hu
 ·rename_i g args hn
  obtain ⟨u,hu⟩:=Zo hm hn;cases hu
 ·cases ha
theorem XJ {o:Option Value} {h k:AH} {v:Value} {h1:AH} (e:qU o h=some (.val v h1)):qU o k=some (.val v k):=by
 unfold qU at e ⊢;split at e
 ·cases e;rfl
 ·cases e
theorem qfc {P:Program} {t:Tr Value} {h h1 k:AH} {op:Op} {v:Value} (hm:Wq op=false) (hr:qhq op=false) (ha:ja P t h op=some (.val v h1)):ja P t k op=some (.val v k):=by
 cases op<;>simp only [ja,Wq,qhq] at ha hm hr ⊢
 case call c =>
  obtain ⟨callee,args,argTypes⟩:=c;simp only at hm ha ⊢;cases e:jO t args.toList with
  | none=>rw [e] at ha;cases ha
  | some vs =>
   rw [e] at ha;cases callee with
   | builtin b =>
    (try simp only at hm)
    (try simp only at ha)
    (try simp only)
    unfold jK at ha ⊢;split at ha<;>first|exact XJ ha|(simp at hm;done)|(cases ha;done)
   | value f=>simp at hm
   | invoke a b=>simp at hm
 case makeFunc fn a b =>
  cases fn<;>simp only at ha ⊢
  case func f =>
   split at ha
   ·cases ha;rfl
   ·cases ha
  all_goals cases ha
 all_goals first
  | exact XJ ha
  | (split at ha<;>first|exact XJ ha|(cases ha;rfl)|(cases ha;done))
  | (cases ha;done)
  | (simp at hm;done)
  | (simp at hr;done)
theorem xN {a b:Value} (h:wK a b=true):a=b:=by
 unfold wK at h;split at h
 ·rw [beq_iff_eq] at h;rw [h]
 ·rw [zA8,decide_eq_true_iff,decide_eq_true_iff] at h;rw [h.1,h.2]
 ·rename_i x y
  have h':x.data.toList=y.data.toList:=by simpa [zA] using h
  have:x=y:=by
   cases x;cases y
   simp only at h';rw [show (_:Array UInt8)=_ from Array.ext' h']
  rw [this]
 ·rfl
 ·rw [zA8] at h;rw [zA6 h.1,zA6 h.2]
 ·rw [zA8] at h;rw [zA6 h.1,zA6 h.2]
 ·rw [zA8,zA8,zA8] at h;rw [zA6 h.1,zA6 h.2.1,zA6 h.2.2.1,zA6 h.2.2.2]
 ·rfl
 ·rfl
 ·rfl
 ·cases h
theorem JG {f:Value→Value→Bool} (hf:∀ a b,f a b=true→a=b):∀ {c d:List Value},Wj f c d=true→c=d
 | [],[],_=>rfl
 | [],_ :: _,h=>by cases h
 | _ :: _,[],h=>by cases h
 | a :: r,b :: s,h=>by
  simp only [Wj,zA8] at h;rw [hf a b h.1,JG hf h.2]
theorem Y3 {a b:Value} (h:xM a b=true):a=b:=by
 unfold xM at h;split at h
 ·rw [zA8,zA8] at h;rw [zA6 h.1,Array.ext' (JG (fun _ _=>xN) h.2.1),Array.ext' (JG (fun _ _=>xN) h.2.2)]
 ·exact xN h
theorem qdT {a b:Value} (h:wJ a b=true):a=b:=by
 unfold wJ at h;split at h
 ·rw [Array.ext' (JG (fun _ _=>Y3) h)]
 ·rw [Array.ext' (JG (fun _ _=>Y3) h)]
 ·exact Y3 h
section
variable {P:Program}
theorem Gy {f:Emb} {w:World} {sz:Nat} {t:Tr Value} {tm:Array Value} (T:TR f sz t tm) {o:Oper} {k:Option Nat} {c:List Value} {e:TypeId} (ha:Qq P t o.op=some (k,c,e)) :
 ∃ d' w',VRs f c d'∧Pushed w w' (.cells d'.toArray e)∧(execOp (Zn tm) o).run P w = .ok (.value (QV k w.heap.size)) w':=by
 obtain ⟨dst,op,type,pos,after,guard⟩:=o;simp only at ha;unfold execOp;simp only;cases op<;>simp only [Qq] at ha<;>dsimp only
 case alloc e' =>
  split at ha
  ·rename_i z hz
   split at ha
   ·rename_i hpl
    cases ha
    refine ⟨z.cells.toList,_,(VR.plain f z hpl).cells,zV w (.cells z.cells.toList.toArray e),?_⟩;simp only [Instr.alloc,newVar,newRow,zA5,wL hz,run_newObj,zA1,Array.toArray_toList];rfl
   ·cases ha
  ·cases ha
 case box e' x =>
  split at ha
  ·rename_i v hv
   cases ha
   refine ⟨(Zn tm x).cells.toList,_,(qF T hv).cells,zV w (.cells (Zn tm x).cells.toList.toArray e),?_⟩;simp only [Instr.box,newVar,newRow,zA5,run_newObj,zA1,Array.toArray_toList];rfl
  ·cases ha
 case buildSlice ty n ps =>
  split at ha
  rotate_left
  ·cases ha
  rename_i vs e' hvs he
  have hu:=QQ he;split at ha
  rotate_left
  ·cases ha
  rename_i z hz
  obtain ⟨i,zv,hi,hzv,hzl,hsz,hz0,hpl⟩:=jy hz;split at ha
  rotate_left
  ·cases ha
  rename_i hle
  have hle:=zB6 hle;split at ha
  rotate_left
  ·cases ha
  rename_i c' hc
  cases ha
  have hzr:VRs f z z:=by rw [← hzl];exact (VR.plain f zv hpl).cells
  obtain ⟨d',q1,q2⟩:=Zm hc (hzr.zn n) (Zf T hvs);refine ⟨d',_,q2,zV w (.cells d'.toArray e),?_⟩;have hsr:(sizeOf e).run P w = .ok z.length w:=by simp [sizeOf,typeInfo,hi,hsz]
  have hzrun:(zeroValue e).run P w = .ok zv w:=by simp [zeroValue,typeInfo,hi,hzv]
  have hparts:(ps.map fun (p:Nat×Operand)=>(p.1,Zn tm p.2))=((ps.toList.map fun (i,x)=>(i,Zn tm x)).toArray):=by
   apply Array.ext';simp
  rw [hparts];simp only [Instr.buildSlice,zA5,run_underlying hu,zA1,hsr,if_neg (show ¬ (n*z.length > 2 ^ 24) by omega)];by_cases hl0:n*z.length=0
  ·have:n=0:=by
    rcases Nat.mul_eq_zero.1 hl0 with h|h
    ·exact h
    ·exact absurd h hz0
   subst this;have q1':Instr.fill (fun i=>some (i*z.length,z.length)) #[] (ps.toList.map fun (i,x)=>(i,Zn tm x))=some d'.toArray:=q1;simp only [Nat.zero_mul,if_true,zB1,zA1];simp only [hr0,Array.map_empty,zF6,q1',newRow,zA5,run_newObj,zA1,zB1];rfl
  ·rw [if_neg hl0];simp only [zA5,hzrun,zA1,zB1];have hzz:(Array.range (n*z.length)).map (fun i=>zv.cells[i % zv.cells.size]!)=(zn z n).toArray:=Q8 hzl hz0 n;rw [hzz];simp only [zF6,q1,newRow,zA5,run_newObj,zA1,zB1];rfl
 all_goals cases ha
theorem ObjR.fresh0 {f:Emb} {w:World} {b:Nat} {c d':List Value} {e:TypeId} (h:w.heap[b]? = some (.cells d'.toArray e)) (hv:VRs f c d'):ObjR f ⟨b,0,0⟩ w (.cells c e none false):=by
 refine ⟨d'.toArray,(0,0),h,?_,fun i v hi=>?_,fun _=>⟨rfl,fun _=>⟨rfl,?_⟩⟩,(fun k hk=>by cases hk),(fun _ i hi=>by simp at hi)⟩
 ·have:=hv.length;simp;omega
 ·obtain ⟨v',h1,h2⟩:=hv.get i v hi;exact ⟨v',by simpa using h1,h2⟩
 ·have:=hv.length;simp;omega
theorem Rel.qe8 [Glob] {B:Bs} {f:Emb} {h:AH} {w w':World} (r:Rel B f h w) {ob:Obj} (hp:Pushed w w' ob) {b:Nat} {o:Qz} (hb:b<h.next) (hf:f b=none) (hg:h.get b=some o)
 (ho:ObjR (f.put b ⟨w.heap.size,0,0⟩) ⟨w.heap.size,0,0⟩ w' o):Rel B (f.put b ⟨w.heap.size,0,0⟩) h w'∧f.le (f.put b ⟨w.heap.size,0,0⟩):=by
 have hle:f.le (f.put b ⟨w.heap.size,0,0⟩):=by
  intro k M e;rw [Emb.zh];exact e
  intro q;subst q;rw [hf] at e;cases e
 refine ⟨⟨fun k M e=>?_,r.wf,fun k M e=>?_,fun k M p e1 e2=>?_,fun k M p k' M' p' e1 e2 e3 e4 e5 e6 e7=>?_,fun k M p e1 e2 e3=>?_,by rw [hp.size];have:=r.base;omega,fun k hk=>(hp.old k (by have:=r.base;omega)).trans (r.keep k hk),r.glob⟩,hle⟩
 ·by_cases hk:k=b
  ·subst hk;exact hb
  ·rw [Emb.zh _ _ hk] at e;exact r.dom k M e
 ·rw [hp.size];by_cases hk:k=b
  ·subst hk;rw [Emb.qP] at e;cases e;exact zG0 _
  ·rw [Emb.zh _ _ hk] at e;exact Nat.lt_succ_of_lt (r.rng k M e)
 ·by_cases hk:k=b
  ·subst hk;rw [Emb.qP] at e1;cases e1;rw [hg] at e2;cases e2;exact ho
  ·rw [Emb.zh _ _ hk] at e1;exact ((r.obj k M p e1 e2).world (hp.old _ (r.rng k M e1))).mono hle
 ·by_cases hk:k=b
  ·by_cases hk':k'=b
   ·omega
   ·subst hk;rw [Emb.qP] at e1;cases e1
    rw [Emb.zh _ _ hk'] at e3;have:=r.rng k' M' e3;simp only at e5;omega
  ·rw [Emb.zh _ _ hk] at e1;by_cases hk':k'=b
   ·subst hk';rw [Emb.qP] at e3;cases e3
    have:=r.rng k M e1;simp only at e5;omega
   ·rw [Emb.zh _ _ hk'] at e3;exact r.inj k M p k' M' p' e1 e2 e3 e4 e5 e6 e7
 ·by_cases hk:k=b
  ·subst hk;rw [Emb.qP] at e1;cases e1;exact r.base
  ·rw [Emb.zh _ _ hk] at e1;exact r.own k M p e1 e2 e3
end
end Go.Proofs.Xx
namespace Go.Proofs.Xx
open Go
def pF (l:List zH) (t':Tr Value) (k:Nat):Tr Value:=match l[k]? with|some s=>s.t|none=>t'
section
variable {P:Program} {X:Extern} {run:zI} {sz:Nat} {ops:Array Oper} {ids:List (Nat×Nat)}
def vF (P:Program) (X:Extern) (run:zI) (sz:Nat) (ops:Array Oper) (ids:List (Nat×Nat)) (o:Oper) (i:Nat) (s:zH) (t1:Tr Value) (h1:AH):Prop :=
 qp ops s.t o.guard=some s.go∧XA sz s.t o.dst s.v=some t1∧(s.go=true→stepD P X run ids false i o.op s.t s.h=some (s.v,h1))∧(s.go=false→s.v = .tuple #[]∧h1=s.h)
theorem JH:∀ (os:List Oper) (i:Nat) (t:Tr Value) (h:AH) (l:List zH) (t':Tr Value) (h':AH),ZR P X run sz ops ids false i os t h=some (l,t',h') →
 pF l t' 0=t∧hpAt l h' 0=h∧l.length=os.length∧∀ k o,os[k]? = some o→∃ s,l[k]? = some s∧vF P X run sz ops ids o (i+k) s (pF l t' (k+1)) (hpAt l h' (k+1))
 | [],i,t,h,l,t',h',hr=>by
  cases hr
  exact ⟨rfl,rfl,rfl,fun k o ho=>by simp at ho⟩
 | o :: r,i,t,h,l,t',h',hr=>by
  have key:∀ (b:Bool) (v:Value) (t1:Tr Value) (h1:AH),JR ⟨t,h,b,v⟩ (ZR P X run sz ops ids false (i+1) r t1 h1)=some (l,t',h')→qp ops t o.guard=some b→XA sz t o.dst v=some t1 →
   (b=true→stepD P X run ids false i o.op t h=some (v,h1))→(b=false→v = .tuple #[]∧h1=h) →
   pF l t' 0=t∧hpAt l h' 0=h∧l.length=(o :: r).length∧∀ k o',(o :: r)[k]? = some o'→∃ s,l[k]? = some s∧vF P X run sz ops ids o' (i+k) s (pF l t' (k+1)) (hpAt l h' (k+1)):=by
   intro b v t1 h1 hc q1 q2 q3 q4;cases hd:ZR P X run sz ops ids false (i+1) r t1 h1 with
   | none=>rw [hd] at hc;cases hc
   | some q =>
    obtain ⟨l1,t2,h2⟩:=q;rw [hd] at hc;simp only [JR,Option.some.injEq,Prod.mk.injEq] at hc;obtain ⟨rfl,rfl,rfl⟩:=hc;obtain ⟨p1,p2,p3,p4⟩:=JH r (i+1) t1 h1 l1 t2 h2 hd;refine ⟨rfl,rfl,by simp [p3],fun k o' ho=>?_⟩;cases k with
    | zero =>
     simp at ho;subst ho;refine ⟨⟨t,h,b,v⟩,rfl,q1,?_,fun hb=>?_,fun hb=>?_⟩
     ·rw [q2];have:pF (⟨t,h,b,v⟩ :: l1) t2 (0+1)=pF l1 t2 0:=by simp [pF]
      rw [this,p1]
     ·have:hpAt (⟨t,h,b,v⟩ :: l1) h2 (0+1)=hpAt l1 h2 0:=by simp [hpAt]
      rw [this,p2];exact q3 hb
     ·have:hpAt (⟨t,h,b,v⟩ :: l1) h2 (0+1)=hpAt l1 h2 0:=by simp [hpAt]
      rw [this,p2];exact q4 hb
    | succ k =>
     simp at ho;obtain ⟨s,s1,s2⟩:=p4 k o' ho;refine ⟨s,by simpa using s1,?_⟩;have e1:pF (⟨t,h,b,v⟩ :: l1) t2 (k+1+1)=pF l1 t2 (k+1):=by simp [pF]
     have e2:hpAt (⟨t,h,b,v⟩ :: l1) h2 (k+1+1)=hpAt l1 h2 (k+1):=by simp [hpAt]
     rw [e1,e2,show i+(k+1)=i+1+k by omega];exact s2
  simp only [ZR] at hr;split at hr
  ·rename_i hg
   split at hr
   ·rename_i v h1 hs
    split at hr
    ·rename_i t1 hp
     exact key true v t1 h1 hr hg hp (fun _=>hs) (fun q=>by cases q)
    ·cases hr
   ·cases hr
  ·rename_i hg
   split at hr
   ·rename_i t1 hp
    exact key false _ t1 h hr hg hp (fun q=>by cases q) (fun _=>⟨rfl,rfl⟩)
   ·cases hr
  ·cases hr
def wr (ops:Array Oper) (l:List zH) (t:Tr Value) (i:Nat):Tr Value :=
 match ops[i]?,l[i]? with
 | some o,some s=>match o.dst with
  | some d=>t.set d s.v
  | none=>t
 | _,_=>t
def wrs (ops:Array Oper) (x i:Nat):Bool:=match ops[i]? with|some o=>(match o.dst with|some d=>Nat.beq d x|none=>false)|none=>false
theorem qdr {o:Oper} {i:Nat} {l:List zH} {s:zH} {t u t1:Tr Value} (ho:ops[i]? = some o) (hs:l[i]? = some s) (h:XA sz t o.dst s.v=some t1):XA sz u o.dst s.v=some (wr ops l u i):=by
 unfold XA at h ⊢;unfold wr;rw [ho,hs];simp only;cases hd:o.dst with
 | none=>rfl
 | some d =>
  rw [hd] at h;simp only at h ⊢;split at h
  ·rfl
  ·cases h
theorem qgV {l:List zH} {x i:Nat} {t u:Tr Value} (h:t.get x=u.get x):(wr ops l t i).get x=(wr ops l u i).get x:=by
 unfold wr;cases ops[i]? with
 | none=>exact h
 | some o=>cases l[i]? with
  | none=>exact h
  | some s=>cases hd:o.dst with
   | none=>simpa [hd] using h
   | some d=>simp only [hd,Tr.QB,h]
theorem qds {l:List zH} {x i:Nat} {t:Tr Value} (h:wrs ops x i=false):(wr ops l t i).get x=t.get x:=by
 unfold wr;unfold wrs at h;cases ho:ops[i]? with
 | none=>rfl
 | some o=>cases l[i]? with
  | none=>rfl
  | some s=>cases hd:o.dst with
   | none=>simp [hd]
   | some d =>
    rw [ho] at h;simp only [hd] at h ⊢;rw [Tr.QB,if_neg];intro q;subst q;simp at h
theorem JP {l:List zH} {x:Nat}:∀ (p:List Nat) (t u:Tr Value),t.get x=u.get x→(p.foldl (wr ops l) t).get x=((p.filter (wrs ops x)).foldl (wr ops l) u).get x
 | [],t,u,h=>h
 | i :: p,t,u,h=>by
  rw [zD7];cases hw:wrs ops x i with
  | true =>
   simp only [if_true,List.foldl_cons];exact JP p _ _ (qgV h)
  | false =>
   simp only [zD8,if_false,List.foldl_cons];exact JP p _ _ ((qds hw).trans h)
theorem Turn.qe8 {f f1:Emb} {h h1:AH} {w w1 w2:World} {ob:Obj} (u:Turn f h w f1 h1 w1) (hp:Pushed w1 w2 ob) {b:Nat} (hb:h.next≤b) (hf:f1 b=none):Turn f h w (f1.put b ⟨w1.heap.size,0,0⟩) h1 w2:=by
 refine ⟨fun k L e=>?_,u.next,u.low,fun k L e hk=>?_,fun k L e n=>?_,by rw [hp.size];have:=u.size;omega,fun k hk hq=>?_,u.same,hp.os.trans u.os,hp.tape.trans u.tape,hp.output.trans u.output⟩
 ·have:=u.le k L e;rw [Emb.zh];exact this
  intro q;subst q;rw [hf] at this;cases this
 ·rw [Emb.zh _ _ (by omega)] at e;exact u.old k L e hk
 ·by_cases hkb:k=b
  ·subst hkb;rw [Emb.qP] at e;cases e
   exact .inl u.size
  ·rw [Emb.zh _ _ hkb] at e;exact u.fresh k L e n
 ·exact (hp.old k (by have:=u.size;omega)).trans (u.keep k hk hq)
structure Canon (P:Program) (X:Extern) (run:zI) (sz:Nat) (ops:Array Oper) (ids:List (Nat×Nat)) (fl:List Nat) (l:List zH) (t0 t':Tr Value) (h h0 h':AH):Prop where
 plan:YI ops (masks ops.toList []) fl=true
 startT:pF l t' 0=t0
 startH:hpAt l h' 0=h0
 len:l.length=ops.size
 step:∀ k o,ops[k]? = some o→∃ s,l[k]? = some s∧vF P X run sz ops ids o k s (pF l t' (k+1)) (hpAt l h' (k+1))
 checked:qfh P ops ids (masks ops.toList []) fl ((List.range ops.size).filter (qG ops fl)) (h0 :: ((List.range ops.size).filter (qG ops fl)).map fun i=>hpAt l h' (i+1)) l
 ids1:∀ i,yF fl i=true→∃ b,Qk ids i=some b
 ids2:∀ i b,Qk ids i=some b→yF fl i=true∧h.next≤b∧b<h0.next
 ids3:∀ i j b,Qk ids i=some b→Qk ids j=some b→i=j
theorem WU {x i:Nat} (hw:wrs ops x i=true):∃ o,ops[i]? = some o∧o.dst=some x:=by
 unfold wrs at hw;cases ho:ops[i]? with
 | none=>rw [ho] at hw;cases hw
 | some o =>
  rw [ho] at hw;simp only at hw;cases hd:o.dst with
  | none=>rw [hd] at hw;cases hw
  | some d=>rw [hd] at hw;exact ⟨o,rfl,by rw [hd,zA6 hw]⟩
theorem yE {l:List Nat} {k:Nat}:yF l k=true↔k∈l:=by
 unfold yF;rw [List.any_eq_true];constructor
 ·rintro ⟨x,h1,h2⟩;rw [zA6 h2];exact h1
 ·intro h;exact ⟨k,h,by simp⟩
theorem Vx {o:Oper} {x:Nat} {ns:List Tmp} (hd:o.dst=some x) (hx:x∈ns):kR o ns=true:=by
 unfold kR;rw [hd];exact yE.2 hx
theorem yC {l:List zH} {h':AH} {j:Nat} {s:zH} (hs:l[j]? = some s):hpAt l h' j=s.h:=by simp [hpAt,hs]
section
variable {fl:List Nat} {l:List zH} {t0 t':Tr Value} {h h0 h':AH} (c:Canon P X run sz ops ids fl l t0 t' h h0 h')
include c
theorem Canon.prec {k i:Nat} (hk:k<i) (hi:i<ops.size) (hc:clash ops fl k i=true):Xx.prec (masks ops.toList []) k i=true:=by
 have:=c.plan;unfold YI at this;rw [zC8] at this;have h1:=this i (zE2.2 hi);rw [zA8,zC8] at h1;have h2:=h1.2 k (zE2.2 hk);rw [hc] at h2;simpa using h2
theorem Canon.edge {i:Nat} {o:Oper} (ho:ops[i]? = some o) {e:Edge} (he:e∈o.after) (hb:Region.binds .any e=true):e.on<i:=by
 have:=c.plan;unfold YI at this;rw [zC8] at this;have h1:=this i (zE2.2 (zB9.1 ho).1);rw [zA8] at h1;have h2:=h1.1;unfold qb4 at h2;rw [ho] at h2;simp only [zC8] at h2;have h3:=h2 e (by simpa using he);rw [hb] at h3;simpa using h3
theorem Canon.qeZ (x:Nat):Chain ops (wrs ops x):=by
 intro k i hk hi h1 h2;obtain ⟨a,ha,hda⟩:=WU h1;obtain ⟨b,hb,hdb⟩:=WU h2;refine c.prec hk hi ?_;unfold clash;rw [ha,hb];simp only;rw [Vx hda (by simp [Jg,qfX,hdb])];rfl
theorem Canon.VU:Chain ops (qG ops fl):=by
 intro k i hk hi h1 h2;refine c.prec hk hi ?_;have hkk:k<ops.size:=by omega
 unfold clash;rw [zE1 hkk,zE1 hi];simp [h1,h2]
theorem Canon.agree {a:List Nat} {j:Nat} {o:Oper} (v:Valid ops (a ++ [j])) (ho:ops[j]? = some o) {x:Nat} (hx:x∈Jg ops o):a.filter (wrs ops x)=(List.range j).filter (wrs ops x):=by
 have hj:j<ops.size:=(zB9.1 ho).1;refine Chain.qbm v rfl (c.qeZ x) (fun k hk hw=>?_) fun k hk hn hw=>?_
 ·obtain ⟨a',ha,hda⟩:=WU hw;refine c.prec hk hj ?_;unfold clash;rw [ha,ho];simp only;rw [Vx hda hx];rfl
 ·obtain ⟨a',ha,hda⟩:=WU hw;refine c.prec hk hn ?_;unfold clash;rw [ha,ho];simp only;rw [Vx hda hx];simp
theorem Canon.qaz:∀ j,j≤ops.size→(List.range j).foldl (wr ops l) t0=pF l t' j
 | 0,_=>c.startT.symm
 | j+1,hj=>by
  have ho:ops[j]? = some ops[j]:=zE1 (by omega);obtain ⟨s,hs,q1,q2,q3⟩:=c.step j _ ho;rw [List.range_succ,List.foldl_append,Canon.qaz j (by omega)];simp only [List.foldl_cons,List.foldl_nil];have hst:pF l t' j=s.t:=by simp [pF,hs]
  have:=qdr (u:=s.t) ho hs q2;rw [hst];rw [q2] at this;exact (Option.some.inj this).symm
theorem Canon.get {a:List Nat} {j:Nat} {o:Oper} (v:Valid ops (a ++ [j])) (ho:ops[j]? = some o) {s:zH} (hs:l[j]? = some s) {x:Nat} (hx:x∈Jg ops o):(a.foldl (wr ops l) t0).get x=s.t.get x:=by
 have hj:j<ops.size:=(zB9.1 ho).1;have h1:=JP (ops:=ops) (l:=l) (x:=x) a t0 t0 rfl;have h2:=JP (ops:=ops) (l:=l) (x:=x) (List.range j) t0 t0 rfl;rw [h1,c.agree v ho hx,← h2,c.qaz j (by omega)];simp [pF,hs]
def kk (l:List zH) (h0 h':AH) (q:List Nat):AH:=match q.getLast? with|none=>h0|some j=>hpAt l h' (j+1)
theorem Canon.still {j:Nat} {o:Oper} (ho:ops[j]? = some o) {s:zH} (hs:l[j]? = some s) (hc:qG ops fl j=false):hpAt l h' (j+1)=s.h:=by
 obtain ⟨s',hs',q1,q2,q3,q4⟩:=c.step j o ho;rw [hs] at hs';cases hs'
 cases hgo:s.go with
 | false=>exact (q4 hgo).2
 | true =>
  have:=q3 hgo;unfold stepD at this;split at this
  ·split at this
   ·simp only [Option.some.injEq,Prod.mk.injEq] at this;exact this.2.symm
   ·cases this
  ·rename_i hid
   refine qec ?_ this;unfold qG at hc;rw [zH1] at hc;rcases hc with hc|hc
   ·unfold Yc at hc;rw [ho] at hc;exact hc
   ·simp at hc;obtain ⟨b,hb⟩:=c.ids1 j hc;rw [hid] at hb;cases hb
theorem Canon.KL:∀ j,j≤ops.size→kk l h0 h' ((List.range j).filter (qG ops fl))=hpAt l h' j
 | 0,_=>by simp [kk,c.startH]
 | j+1,hj=>by
  have ho:ops[j]? = some ops[j]:=zE1 (by omega);obtain ⟨s,hs,-⟩:=c.step j _ ho;rw [List.range_succ,zD1];cases hc:qG ops fl j with
  | true=>simp [hc,kk]
  | false =>
   simp only [zD7,hc,zD8,if_false,List.filter_nil,zD6];rw [Canon.KL j (by omega),c.still ho hs hc,yC hs]
theorem Canon.qja {a:List Nat} {j:Nat} (v:Valid ops (a ++ [j])) {s:zH} (hs:l[j]? = some s) (hj:j<ops.size) (hc:qG ops fl j=true):kk l h0 h' (a.filter (qG ops fl))=s.h:=by
 have:a.filter (qG ops fl)=(List.range j).filter (qG ops fl):=by
  refine Chain.qbm v rfl c.VU (fun k hk hw=>c.VU k j hk hj hw hc) fun k hk hn hw=>c.VU j k hk hn hc hw
 rw [this,c.KL j (by omega),yC hs]
theorem Canon.qkb {a:List Nat} {j:Nat} (v:Valid ops (a ++ [j])) {s:zH} (hs:l[j]? = some s) (hj:j<ops.size) (hf:KZ (masks ops.toList []) ((List.range ops.size).filter (qG ops fl)) j=true):kk l h0 h' (a.filter (qG ops fl))=s.h:=by
 unfold KZ at hf;rw [zC8] at hf;have hmem:∀ k,k<ops.size→qG ops fl k=true→k∈(List.range ops.size).filter (qG ops fl):=fun k h1 h2=>zD9.2 ⟨zE2.2 h1,h2⟩;have:a.filter (qG ops fl)=(List.range j).filter (qG ops fl):=by
  refine Chain.qbm v rfl c.VU (fun k hk hw=>?_) fun k hk hn hw=>?_
  ·have:=hf k (hmem k (by omega) hw);rw [show Nat.blt k j=true by rw [Nat.blt_eq];exact hk] at this;exact this
  ·have:=hf k (hmem k hn hw);rw [show Nat.blt k j=false by rw [Bool.eq_false_iff];intro q;rw [Nat.blt_eq] at q;omega,show Nat.beq k j=false by rw [Bool.eq_false_iff];intro q;have:=zA6 q;omega] at this;simpa using this
 rw [this,c.KL j (by omega),yC hs]
theorem Canon.qgF {a:List Nat} {j:Nat} (v:Valid ops (a ++ [j])) {o:Oper} (ho:ops[j]? = some o) {s:zH} (hs:l[j]? = some s) (hsame:qG ops fl j=true→hpAt l h' (j+1)=s.h) :
 kk l h0 h' ((a ++ [j]).filter (qG ops fl))=kk l h0 h' (a.filter (qG ops fl)):=by
 have hj:j<ops.size:=(zB9.1 ho).1;rw [zD1];cases hc:qG ops fl j with
 | true =>
  rw [c.qja v hs hj hc,← hsame hc];simp [hc,kk]
 | false=>simp [hc]
end
end
end Go.Proofs.Xx
namespace Go.Proofs.Xx
open Go
section
variable {P:Program} {X:Extern} {run:zI} {sz:Nat} {ops:Array Oper} {ids:List (Nat×Nat)}
structure St [Glob] (B:Bs) (ops:Array Oper) (ids:List (Nat×Nat)) (fl:List Nat) (l:List zH) (t0:Tr Value) (h h0 h':AH) (sz:Nat) (e0:Emb) (w0:World) (a:List Nat) (e:Emb) (w:World) (tm:Array Value):Prop where
 rel:Rel B e (kk l h0 h' (a.filter (qG ops fl))) w
 tr:TR e sz (a.foldl (wr ops l) t0) tm
 turn:Turn e0 h w0 e (kk l h0 h' (a.filter (qG ops fl))) w
 next:h0.next≤(kk l h0 h' (a.filter (qG ops fl))).next
 free:∀ j b,Qk ids j=some b→j ∉ a→e b=none
theorem OkAtP.of {P:Program} {ids:List (Nat×Nat)} {i:Nat} {op:Op} {s:zH} {k:AH} (h:qhj P ids i op s k=true):OkAtP P ids i op s k:=by
 unfold qhj at h;unfold OkAtP;split at h
 ·rename_i b hb
  (try rw [hb])
  split at h
  rotate_left
  ·cases h
  rename_i k1 c1 e1 hfl
  split at h
  rotate_left
  ·cases h
  rename_i c2 e2 hg
  rw [zA8] at h;have he12:=zA6 h.1;have hc12:=JG (fun _ _=>Y3) h.2;subst he12 hc12;exact ⟨_,_,_,hfl,hg⟩
 ·rename_i hb
  (try rw [hb])
  split at h
  rotate_left
  ·cases h
  rename_i u hx hop
  have hu:=qdT h;subst hu;exact ⟨_,hop⟩
theorem exists_least {n:Nat} (p:Nat→Prop) (hp:∃ i,i<n∧¬ p i):∃ i,i<n∧¬ p i∧∀ k,k<i→p k:=by
 obtain ⟨i,hi,hpi⟩:=hp;induction i using Nat.strongRecOn with
 | _ i ih =>
  by_cases hall:∀ k,k<i→p k
  ·exact ⟨i,hi,hpi,hall⟩
  ·obtain ⟨k,hk⟩:=Classical.not_forall.1 hall;obtain ⟨hk1,hk2⟩:=Classical.not_imp.1 hk;exact ih k hk1 (by omega) hk2
section
variable {fl:List Nat} {l:List zH} {t0 t':Tr Value} {h h0 h':AH} (c:Canon P X run sz ops ids fl l t0 t' h h0 h')
include c
theorem Canon.qhi {a:List Nat} {j:Nat} (v:Valid ops (a ++ [j])) {o:Oper} (ho:ops[j]? = some o) {s:zH} (hs:l[j]? = some s) (hgo:s.go=true) (hc:qG ops fl j=false) :
 OkAtP P ids j o.op s (kk l h0 h' (a.filter (qG ops fl))):=by
 have hj:j<ops.size:=(zB9.1 ho).1;cases hcalm:XW ids (masks ops.toList []) ((List.range ops.size).filter (qG ops fl)) j o.op with
 | true =>
  have h1:=hcalm;unfold XW at h1;split at h1
  ·cases h1
  rename_i hid
  obtain ⟨s',hs',q1,q2,q3,q4⟩:=c.step j o ho;rw [hs] at hs';cases hs'
  have hstep:=q3 hgo;unfold stepD at hstep;rw [hid] at hstep;simp only at hstep;have hm:Wq o.op=false:=by
   unfold qG at hc;rw [zH1] at hc;rcases hc with hc|hc
   ·unfold Yc at hc;rw [ho] at hc;exact hc
   ·simp at hc;obtain ⟨b,hb⟩:=c.ids1 j hc;rw [hid] at hb;cases hb
  have hval:∃ u,ja P s.t s.h o.op=some (.val s.v u):=by
   unfold yg at hstep;split at hstep
   ·rename_i v0 h0 hn;cases hstep;exact ⟨_,hn⟩
   ·rename_i h0 hn;obtain ⟨u,hu⟩:=Zo hm hn;cases hu
   ·rename_i g args hn;obtain ⟨u,hu⟩:=Zo hm hn;cases hu
   ·rename_i g args hn;obtain ⟨u,hu⟩:=Zo hm hn;cases hu
   ·cases hstep
  obtain ⟨u,hval⟩:=hval;unfold OkAtP;rw [hid];simp only;rw [zG8] at h1;rcases h1 with h1|h1
  ·exact ⟨_,qfc hm (by simpa using h1) hval⟩
  ·rw [c.qkb v hs hj h1];exact ⟨u,hval⟩
 | false =>
 have h1:=c.checked j hj hc o s ho hs hgo hcalm;have htk:=Chain.take v.left c.VU;generalize hms:(List.range ops.size).filter (qG ops fl)=mems at h1 htk
 generalize hq:a.filter (qG ops fl)=q at htk ⊢
 have hql:q.length≤mems.length:=by rw [htk,zA9];exact Nat.min_le_right _ _
 have hfar:yJ (masks ops.toList []) mems q.length j=false:=by
  rw [Bool.eq_false_iff];intro hf;unfold yJ at hf;rw [zG8,List.any_eq_true,List.any_eq_true] at hf;rcases hf with ⟨x,hx,hp⟩|⟨x,hx,hp⟩
  ·have hxa:=QK j _ a [] x v rfl hp;have hxm:x∈mems:=List.mem_of_mem_drop hx;have hxc:qG ops fl x=true:=by rw [← hms,zD9] at hxm;exact hxm.2
   have hxq:x∈q:=by rw [← hq,zD9];exact ⟨hxa,hxc⟩
   rw [htk] at hxq;have hn:mems.Nodup:=by rw [← hms];exact (ZC _ _).imp (fun h=>Nat.ne_of_lt h)
   rw [← zH0 q.length mems,zG4] at hn;exact hn.2.2 x hxq x hx rfl
  ·rw [← htk,← hq,zD9] at hx;obtain ⟨a1,a2,ha⟩:=List.append_of_mem hx.1;have:=QK x _ a1 (a2 ++ [j]) j v (by rw [ha];simp) hp;exact (v a j [] rfl).1 (by rw [ha];simp [this])
 have hget:(h0 :: mems.map fun i=>hpAt l h' (i+1))[q.length]? = some (kk l h0 h' q):=by
  unfold kk;rcases List.eq_nil_or_concat q with hz|⟨r,x,hz⟩
  ·rw [hz];rfl
  ·rw [List.concat_eq_append] at hz;have hl:q.length=r.length+1:=by rw [hz];simp
   have hx:mems[r.length]? = some x:=by
    have:q[r.length]? = some x:=by rw [hz];simp
    rw [htk,zC7] at this;split at this
    ·exact this
    ·cases this
   rw [hl,zH4,zH8,hx,hz];simp
 exact h1 _ _ hget hfar
theorem Canon.one [Glob] (hC:CallOk P (Qe P X run)) (hY:Yk P (Zq run)) {B:Bs} {e0:Emb} {w0:World} {a:List Nat} {j:Nat} {o:Oper} (v:Valid ops (a ++ [j])) (ho:ops[j]? = some o)
 (hdom:∀ b L,e0 b=some L→b<h.next) {e:Emb} {w:World} {tm:Array Value} (S:St B ops ids fl l t0 h h0 h' sz e0 w0 a e w tm) :
 ∃ e' w' tm',St B ops ids fl l t0 h h0 h' sz e0 w0 (a ++ [j]) e' w' tm'∧∀ (fn:FuncId) (ro:Option Nat) (rest:List Nat) (k:List Item) (ds:List Deferred) (cs:List Frame),
  Steps P (lone (fr fn ro tm (.inRegion ops (j :: rest) :: k) ds) cs w) (lone (fr fn ro tm' (.inRegion ops rest :: k) ds) cs w'):=by
 have hj:j<ops.size:=(zB9.1 ho).1;obtain ⟨s,hs,q1,q2,q3,q4⟩:=c.step j o ho;have hag:∀ x∈Jg ops o,(a.foldl (wr ops l) t0).get x=s.t.get x:=fun x hx=>c.get v ho hs hx;have hguard:qp ops (a.foldl (wr ops l) t0) o.guard=some s.go:=by
  rw [KT (u:=s.t) fun x hx=>hag x (by simp [Jg,hx])];exact q1
 have hput:=qdr (u:=a.foldl (wr ops l) t0) ho hs q2;have huse:∀ x∈Yy o.op,(a.foldl (wr ops l) t0).get x=s.t.get x:=fun x hx=>hag x (by simp [Jg,hx]);have hfold:(a ++ [j]).foldl (wr ops l) t0=wr ops l (a.foldl (wr ops l) t0) j:=by rw [List.foldl_append];rfl
 have hfree:∀ i b,Qk ids i=some b→i ∉ a ++ [j]→e b=none:=fun i b hi hn=>S.free i b hi fun q=>hn (by simp [q]);have hw:=Xi S.tr hguard;cases hgo:s.go with
 | false =>
  obtain ⟨r1,r2⟩:=q4 hgo;have hk:=c.qgF v ho hs fun _=>r2;rw [hgo] at hw;refine ⟨e,w,Qu tm o.dst undef,⟨by rw [hk];exact S.rel,?_,by rw [hk];exact S.turn,by rw [hk];exact S.next,hfree⟩,fun fn ro rest k ds cs=>?_⟩
  ·rw [hfold];exact Zb S.tr hput (by rw [r1];exact .tuple [] [] .nil)
  ·refine .one ?_;have:=xH (P:=P) (fn:=fn) (ro:=ro) (tm:=tm) (k:=k) (ds:=ds) (cs:=cs) (w:=w) (ops:=ops) (i:=j) (rest:=rest) (by rw [ho];simp [hw]);rw [ho] at this;exact this
 | true =>
  have hstep:=q3 hgo;rw [hgo] at hw;cases hc:qG ops fl j with
  | true =>
   have hid:Qk ids j=none:=by
    cases hi:Qk ids j with
    | none=>rfl
    | some b =>
     have:=(c.ids2 j b hi).1;unfold qG at hc;rw [this] at hc;simp at hc
   unfold stepD at hstep;rw [hid] at hstep;simp only at hstep;have hkk:=c.qja v hs hj hc;have hk:kk l h0 h' ((a ++ [j]).filter (qG ops fl))=hpAt l h' (j+1):=by
    rw [zD1];simp [hc,kk]
   rw [← qcL huse,← hkk] at hstep;obtain ⟨e',v',w',p1,p2,p3,p4⟩:=VG hC hY ho hstep S.rel S.tr hw;refine ⟨e',w',Qu tm o.dst v',⟨by rw [hk];exact p1,?_,by rw [hk];exact S.turn.trans p2 hdom,by rw [hk];exact zD0 S.next p2.next,fun i b hi hn=>?_⟩,fun fn ro rest k ds cs=>p4 fn ro rest k ds cs⟩
   ·rw [hfold];exact Zb (S.tr.mono p2.le) hput p3
   ·cases he:e' b with
    | none=>rfl
    | some L =>
     have hlt:=(c.ids2 i b hi).2.2;have:=p2.old b L he (zE3 hlt S.next);rw [hfree i b hi hn] at this;cases this
  | false =>
   have hk:=c.qgF v ho hs fun q=>by rw [hc] at q;cases q
   have hok:=c.qhi v ho hs hgo hc;unfold OkAtP at hok;unfold stepD at hstep;cases hid:Qk ids j with
   | some b =>
    rw [hid] at hok hstep;simp only at hok hstep;obtain ⟨k1,c1,e1,hfl,hg⟩:=hok;rw [hfl] at hstep;simp only [zD8,Option.some.injEq,Prod.mk.injEq] at hstep;rw [← Gz huse] at hfl;obtain ⟨d',w',r1,r2,r3⟩:=Gy S.tr (w:=w) hfl;obtain ⟨i1,i2,i3⟩:=c.ids2 j b hid;have hnone:e b=none:=S.free j b hid (v a j [] rfl).1;have hle0:e.le (e.put b ⟨w.heap.size,0,0⟩):=by
     intro x M ex;rw [Emb.zh];exact ex
     intro q;subst q;rw [hnone] at ex;cases ex
    obtain ⟨rr,hle⟩:=S.rel.qe8 r2 (zE3 i3 S.next) hnone hg (ObjR.fresh0 r2.new (r1.mono hle0));have hd:ZF o.op=false:=by cases hq:o.op<;>first|rfl|(rw [hq] at hfl;cases hfl)
    refine ⟨e.put b ⟨w.heap.size,0,0⟩,w',Qu tm o.dst (QV k1 w.heap.size),⟨by rw [hk];exact rr,?_,by rw [hk];exact S.turn.qe8 r2 i2 hnone,by rw [hk];exact S.next,fun i b' hi hn=>?_⟩,
     fun fn ro rest k ds cs=>.one (jL ho hw hd r3)⟩
    ·rw [hfold];refine Zb (S.tr.mono hle) hput ?_;rw [← hstep.1];have hp:=Emb.qP e b ⟨w.heap.size,0,0⟩;cases k1 with
     | none=>simpa [QV] using VR.pointer (f:=e.put b ⟨w.heap.size,0,0⟩) b 0 _ hp
     | some n=>simpa [QV] using VR.slice (f:=e.put b ⟨w.heap.size,0,0⟩) b 0 _ n n _ hp (zA3 _) (.inl rfl)
    ·rw [Emb.zh]
     ·exact hfree i b' hi hn
     ·intro q;subst q;have:=c.ids3 i j b' hi hid;subst this;exact hn (by simp)
   | none =>
    rw [hid] at hok hstep;simp only at hok hstep;obtain ⟨u,hop⟩:=hok;have hm:Wq o.op=false:=by
     unfold qG at hc;rw [zH1] at hc;rcases hc with hc|hc
     ·unfold Yc at hc;rw [ho] at hc;exact hc
     ·simp at hc;obtain ⟨b,hb⟩:=c.ids1 j hc;rw [hid] at hb;cases hb
    obtain ⟨u',hu'⟩:=Zo hm hop;cases hu'
    have hop':yg P X run (a.foldl (wr ops l) t0) (kk l h0 h' (a.filter (qG ops fl))) o.op=some (s.v,kk l h0 h' (a.filter (qG ops fl))):=by
     unfold yg;rw [kN huse,hop]
    obtain ⟨e',v',w',p1,p2,p3,p4⟩:=VG hC hY ho hop' S.rel S.tr hw;refine ⟨e',w',Qu tm o.dst v',⟨by rw [hk];exact p1,?_,by rw [hk];exact S.turn.trans p2 hdom,by rw [hk];exact S.next,fun i b hi hn=>?_⟩,fun fn ro rest k ds cs=>p4 fn ro rest k ds cs⟩
    ·rw [hfold];exact Zb (S.tr.mono p2.le) hput p3
    ·cases he:e' b with
     | none=>rfl
     | some L =>
      have hlt:=(c.ids2 i b hi).2.2;have:=p2.old b L he (zE3 hlt S.next);rw [hfree i b hi hn] at this;cases this
theorem Canon.finish [Glob] {B:Bs} {e0:Emb} {w0:World} {a:List Nat} (v:Valid ops a) (hl:a.length=ops.size) {e:Emb} {w:World} {tm:Array Value} (S:St B ops ids fl l t0 h h0 h' sz e0 w0 a e w tm) :
 Rel B e h' w∧Turn e0 h w0 e h' w∧TR e sz t' tm:=by
 have hk:kk l h0 h' (a.filter (qG ops fl))=h':=by
  rw [Chain.full v c.VU hl,c.KL _ (zA3 _)];simp [hpAt,zG5 (show l.length≤ops.size by rw [c.len];exact zA3 _)]
 have h1:=S.rel;have h2:=S.turn;rw [hk] at h1 h2;refine ⟨h1,h2,S.tr.1,fun x u hx=>S.tr.2 x u ?_⟩;have q1:=JP (ops:=ops) (l:=l) (x:=x) a t0 t0 rfl;have q2:=JP (ops:=ops) (l:=l) (x:=x) (List.range ops.size) t0 t0 rfl;rw [q1,Chain.full v (c.qeZ x) hl,← q2,c.qaz _ (zA3 _)];simpa [pF,zG5 (show l.length≤ops.size by rw [c.len];exact zA3 _)] using hx
theorem Canon.go [Glob] (hC:CallOk P (Qe P X run)) (hY:Yk P (Zq run)) {B:Bs} {e0:Emb} {w0:World} (hdom:∀ b L,e0 b=some L→b<h.next) :
 ∀ (fuel tv:Nat) (listed:Array Bool) (a:List Nat),a.length+fuel=ops.size→listed.size=ops.size→(∀ i,i<ops.size→listed[i]? = some (decide (i∈a)))→Valid ops a →
 ∀ (e:Emb) (w:World) (tm:Array Value),St B ops ids fl l t0 h h0 h' sz e0 w0 a e w tm →
 ∃ e' w' tm',Rel B e' h' w'∧Turn e0 h w0 e' h' w'∧TR e' sz t' tm'∧∀ (fn:FuncId) (ro:Option Nat) (k:List Item) (ds:List Deferred) (cs:List Frame),
  Steps P (lone (fr fn ro tm (.inRegion ops (Region.linearise.go .any ops fuel tv listed []) :: k) ds) cs w) (lone (fr fn ro tm' (.inRegion ops [] :: k) ds) cs w'):=by
 intro fuel;induction fuel with
 | zero =>
  intro tv listed a hl hsz hli v e w tm S;obtain ⟨r1,r2,r3⟩:=c.finish v (by omega) S;exact ⟨e,w,tm,r1,r2,r3,fun fn ro k ds cs=>by simp only [Region.linearise.go,List.reverse_nil];exact .refl _ _⟩
 | succ fuel ih =>
  intro tv listed a hl hsz hli v e w tm S;simp only [Region.linearise.go];generalize hrs:(List.range ops.size).filter (fun i=>!listed.getD i true && ((ops[i]?).map (·.after.all fun e=>!Region.binds .any e || listed.getD e.on false)).getD false)=rs
  have hmem:∀ i,i∈rs→∃ o,ops[i]? = some o∧i ∉ a∧∀ e∈o.after,Region.binds .any e=true→e.on∈a:=by
   intro i hi;rw [← hrs,zD9,zE2] at hi;obtain ⟨h1,h2⟩:=hi;rw [zA8] at h2;have ho:ops[i]? = some ops[i]:=zE1 h1;rw [ho] at h2;have h3:=h2.1;rw [zH2,hli i h1] at h3;simp at h3;refine ⟨_,ho,h3,fun ed he hb=>?_⟩;have h4:=h2.2;simp only [Option.map_some,zH6,Array.all_eq_true_iff_forall_mem] at h4;have h5:=h4 ed he;rw [hb] at h5;simp only [Bool.not_true,Bool.false_or] at h5;have hlt:=c.edge ho he hb;rw [zH2,hli _ (by omega)] at h5;simpa using h5
  have hne:rs≠[]:=by
   have hex:∃ i,i<ops.size∧¬ i∈a:=by
    apply Classical.byContradiction
    intro hno;have hall:∀ i,i<ops.size→i∈a:=fun i hi=>by
     apply Classical.byContradiction;intro hn;exact hno ⟨i,hi,hn⟩
    have hle:=yj a.length (List.range ops.size) List.nodup_range;have hn:=Valid.nodup _ a rfl v;have hsub:(List.range ops.size).length≤a.length:=by
     clear hle;have:∀ (p q:List Nat),p.Nodup→(∀ x∈p,x∈q)→p.length≤q.length:=by
      intro p;induction p with
      | nil=>intro q _ _;simp
      | cons x p ihp =>
       intro q hp hq;rw [List.nodup_cons] at hp;have:=ihp (q.erase x) hp.2 fun y hy=>(List.mem_erase_of_ne (fun e=>hp.1 (by rw [← e];exact hy))).2 (hq y (by simp [hy]));have hx:=hq x (by simp);rw [List.length_erase_of_mem hx] at this;have:0<q.length:=List.length_pos_of_mem hx;simp only [zC4];omega
     exact this _ _ List.nodup_range fun x hx=>hall x (zE2.1 hx)
    simp at hsub;omega
   obtain ⟨i,hi,hia,hleast⟩:=exists_least (fun i=>i∈a) hex;have ho:ops[i]? = some ops[i]:=zE1 hi;have:i∈rs:=by
    rw [← hrs,zD9];refine ⟨zE2.2 hi,?_⟩;rw [zA8,zH2,hli i hi,ho];refine ⟨by simp [hia],?_⟩;simp only [Option.map_some,zH6,Array.all_eq_true_iff_forall_mem];intro ed he;cases hb:Region.binds .any ed with
    | false=>rfl
    | true =>
     have hlt:=c.edge ho he hb;rw [zH2,hli _ (by omega)];simp [hleast _ hlt]
   intro q;rw [q] at this;cases this
  have hpos:0<rs.length:=List.length_pos_iff.2 hne;have hlt:tv % rs.length<rs.length:=Nat.mod_lt _ hpos;rw [zA4 hlt];simp only;generalize hi:rs[tv % rs.length]=i
  have hir:i∈rs:=by rw [← hi];exact List.getElem_mem _
  obtain ⟨o,ho,hia,hed⟩:=hmem i hir;have v':=v.snoc hia ho hed;obtain ⟨e1,w1,tm1,S1,s1⟩:=c.one hC hY v' ho hdom S;have hilt:i<ops.size:=(zB9.1 ho).1;obtain ⟨e2,w2,tm2,r1,r2,r3,s2⟩:=ih (tv / rs.length) (listed.setIfInBounds i true) (a ++ [i]) (by simp;omega) (by simp [hsz]) (fun k hk=>by
   rw [Array.getElem?_setIfInBounds];by_cases hki:i=k
   ·subst hki;simp [hsz,hk]
   ·rw [if_neg hki,hli k hk];congr 1
    rw [decide_eq_decide];simp
    intro q;exact absurd q.symm hki) v' e1 w1 tm1 S1
  refine ⟨e2,w2,tm2,r1,r2,r3,fun fn ro k ds cs=>?_⟩;rw [linearise_go_acc,List.reverse_singleton,List.singleton_append];exact (s1 fn ro _ k ds cs).trans (s2 fn ro k ds cs)
end
end
end Go.Proofs.Xx
