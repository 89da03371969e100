/-
  Rules for the checked run of code whose values are not known: what holds when it ends.
-/
import Derived.Test.YtnponmgkfkdkaaaGreatDoorM3
import Derived.IntWalk
import Derived.Below
import Derived.ChangeSame
import Derived.ChangeArms
import Derived.OpenShut
import Derived.WideShapes
import Derived.ChangeShapes
set_option linter.unusedSectionVars false
set_option linter.unusedSimpArgs false
set_option linter.unusedVariables false
namespace Go.Proofs.Xx
open Go
section
variable (P:Program) (X:Extern)
def W (inR:Bool) (sz:Nat) (c:Code) (t:Tr Value) (h:AH) (Q:AX→Tr Value→AH→Prop):Prop:=∃ n x t' h',exec P X n inR sz c t h=some (x,t',h')∧Q x t' h'
def WO (sz:Nat) (ops:Array Oper) (os:List Oper) (t:Tr Value) (h:AH) (Q:Tr Value→AH→Prop):Prop:=∃ n t' h',Xk P X (exec P X n) sz ops os t h=some (t',h')∧Q t' h'
def Fn (f:FuncId) (args:List Value) (h:AH) (Q:Value→AH→Prop):Prop:=∃ n v h',Qr P X (exec P X n) f args h=some (v,h')∧Q v h'
end
section
variable {P:Program} {X:Extern} {inR:Bool} {sz:Nat} {t:Tr Value} {h:AH} {Q:AX→Tr Value→AH→Prop}
theorem Qo (n:Nat) (c:Code):exec P X (n+1) inR sz c t h=zC P X (exec P X n) inR sz c t h:=rfl
theorem W.mono {c:Code} {Q':AX→Tr Value→AH→Prop} (w:W P X inR sz c t h Q) (hq:∀ x t' h',Q x t' h'→Q' x t' h'):W P X inR sz c t h Q':=by
 obtain ⟨n,x,t',h',h1,h2⟩:=w;exact ⟨n,x,t',h',h1,hq _ _ _ h2⟩
theorem qhk (hq:Q .norm t h):W P X inR sz .skip t h Q:=⟨1,_,_,_,rfl,hq⟩
theorem qhm {id:Nat} (hq:Q (.exit id) t h):W P X inR sz (.exit id) t h Q:=⟨1,_,_,_,rfl,hq⟩
theorem qiX (hq:Q .ret t h):W P X inR sz .ret t h Q:=⟨1,_,_,_,rfl,hq⟩
theorem qfO {l:Nat} (hq:Q .norm t h):W P X inR sz (.label l) t h Q:=⟨1,_,_,_,rfl,hq⟩
def qhK (P:Program) (X:Extern) (inR:Bool) (sz:Nat) (b:Code) (Q:AX→Tr Value→AH→Prop):AX→Tr Value→AH→Prop
 | .norm,t,h=>W P X inR sz b t h Q
 | x,t,h=>Q x t h
theorem qiW {a b:Code} (w:W P X inR sz a t h (qhK P X inR sz b Q)):W P X inR sz (.seq a b) t h Q:=by
 obtain ⟨n,x,t',h',h1,h2⟩:=w;cases x with
 | norm =>
  obtain ⟨m,x2,t2,h3,h4,h5⟩:=h2;refine ⟨max n m+1,x2,t2,h3,?_,h5⟩;rw [Qo];simp only [zC];rw [ZW (Nat.le_max_left n m) _ _ _ _ _ _ h1];exact ZW (Nat.le_max_right n m) _ _ _ _ _ _ h4
 | exit id =>
  refine ⟨n+1,_,_,_,?_,h2⟩;rw [Qo];simp only [zC];rw [h1]
 | ret =>
  refine ⟨n+1,_,_,_,?_,h2⟩;rw [Qo];simp only [zC];rw [h1]
theorem qho {c:Operand} {a b:Code} {v:Bool} (hc:ja t c=some (.bool v)) (w:W P X inR sz (if v then a else b) t h Q):W P X inR sz (.cond c a b) t h Q:=by
 obtain ⟨n,x,t',h',h1,h2⟩:=w;refine ⟨n+1,x,t',h',?_,h2⟩;rw [Qo];simp only [zC,hc];cases v<;>exact h1
def qa9 (id:Nat) (Q:AX→Tr Value→AH→Prop):AX→Tr Value→AH→Prop
 | .exit id',t,h=>if id'=id then Q .norm t h else Q (.exit id') t h
 | x,t,h=>Q x t h
theorem qfP {id:Nat} {body:Code} (w:W P X inR sz body t h (qa9 id Q)):W P X inR sz (.block id body) t h Q:=by
 obtain ⟨n,x,t',h',h1,h2⟩:=w;cases x with
 | norm=>exact ⟨n+1,_,_,_,by rw [Qo];simp only [zC];rw [h1],h2⟩
 | ret=>exact ⟨n+1,_,_,_,by rw [Qo];simp only [zC];rw [h1],h2⟩
 | exit id' =>
  simp only [qa9] at h2;by_cases hid:id'=id
  ·subst hid;rw [if_pos rfl] at h2;refine ⟨n+1,_,_,_,?_,h2⟩;rw [Qo];simp only [zC];rw [h1];simp
  ·rw [if_neg hid] at h2;refine ⟨n+1,_,_,_,?_,h2⟩;have:Nat.beq id' id=false:=by
    cases hb:Nat.beq id' id with
    | false=>rfl
    | true=>exact absurd (zA6 hb) hid
   rw [Qo];simp only [zC];rw [h1];simp only [this]
theorem qfN {body:Code} (w:W P X inR sz body t h Q):W P X inR sz (.scope body) t h Q:=by
 obtain ⟨n,x,t',h',h1,h2⟩:=w;exact ⟨n+1,_,_,_,by rw [Qo];simp only [zC];exact h1,h2⟩
def qih (I:Nat→Tr Value→AH→Prop) (m:Nat) (Q:AX→Tr Value→AH→Prop):AX→Tr Value→AH→Prop
 | .norm,t,h=>∃ k,k<m∧I k t h
 | x,t,h=>Q x t h
theorem qhl {body:Code} (I:Nat→Tr Value→AH→Prop) (hb:∀ m t h,I m t h→W P X inR sz body t h (qih I m Q)):∀ (m:Nat) (t:Tr Value) (h:AH),I m t h→W P X inR sz (.loop body) t h Q:=by
 intro m;induction m using Nat.strongRecOn with
 | _ m ih =>
  intro t h hi;obtain ⟨n,x,t',h',h1,h2⟩:=hb m t h hi;cases x with
  | norm =>
   obtain ⟨k,hk,hi'⟩:=h2;obtain ⟨n2,x2,t2,h3,h4,h5⟩:=ih k hk t' h' hi';refine ⟨max n n2+1,x2,t2,h3,?_,h5⟩;rw [Qo];simp only [zC];rw [ZW (Nat.le_max_left n n2) _ _ _ _ _ _ h1];exact ZW (Nat.le_max_right n n2) _ _ _ _ _ _ h4
  | exit id=>exact ⟨n+1,_,_,_,by rw [Qo];simp only [zC];rw [h1],h2⟩
  | ret=>exact ⟨n+1,_,_,_,by rw [Qo];simp only [zC];rw [h1],h2⟩
theorem qeK {id:Nat} {ops:Array Oper} (w:WO P X sz ops ops.toList t h (Q .norm)):W P X inR sz (.region id ops false) t h Q:=by
 obtain ⟨n,t',h',h1,h2⟩:=w;exact ⟨n+1,_,_,_,by rw [Qo];simp only [zC];rw [h1],h2⟩
variable {ops:Array Oper} {os:List Oper} {o:Oper} {R:Tr Value→AH→Prop}
theorem qhr (hq:R t h):WO P X sz ops [] t h R:=⟨0,_,_,rfl,hq⟩
theorem qhp {t':Tr Value} {h':AH} {v:Value} (hg:qo ops t o.guard=some true) (ha:zX P t h o.op=some (.val v h')) (hp:J6 sz t o.dst v=some t') (w:WO P X sz ops os t' h' R):WO P X sz ops (o :: os) t h R:=by
 obtain ⟨n,t2,h2,h1,h3⟩:=w;refine ⟨n,t2,h2,?_,h3⟩;simp only [Xk,hg,vz,ha,hp];exact h1
theorem qfQ {t':Tr Value} {h':AH} (hg:qo ops t o.guard=some true) (ha:zX P t h o.op=some (.skip h')) (hp:J6 sz t o.dst (.tuple #[])=some t') (w:WO P X sz ops os t' h' R):WO P X sz ops (o :: os) t h R:=by
 obtain ⟨n,t2,h2,h1,h3⟩:=w;refine ⟨n,t2,h2,?_,h3⟩;simp only [Xk,hg,vz,ha,hp];exact h1
theorem qhq {t':Tr Value} (hg:qo ops t o.guard=some false) (hp:J6 sz t o.dst (.tuple #[])=some t') (w:WO P X sz ops os t' h R):WO P X sz ops (o :: os) t h R:=by
 obtain ⟨n,t2,h2,h1,h3⟩:=w;refine ⟨n,t2,h2,?_,h3⟩;simp only [Xk,hg,hp];exact h1
theorem qfR {f:FuncId} {args:List Value} {d:Tmp} (hg:qo ops t o.guard=some true) (ha:zX P t h o.op=some (.call f args)) (hd:o.dst=some d) (hs:Nat.blt d sz=true)
 (w:Fn P X f args h (fun v h'=>WO P X sz ops os (t.set d v) h' R)):WO P X sz ops (o :: os) t h R:=by
 obtain ⟨n,v,h1,hc,n2,t2,h2,h3,h4⟩:=w;refine ⟨max n n2,t2,h2,?_,h4⟩;simp only [Xk,hg,vz,ha,hd,J6,hs,Yu (ZW (Nat.le_max_left n n2)) hc];exact Jk (ZW (Nat.le_max_right n n2)) _ _ _ _ h3
theorem Fn.mono {f:FuncId} {args:List Value} {R R':Value→AH→Prop} (w:Fn P X f args h R) (hr:∀ v h',R v h'→R' v h'):Fn P X f args h R':=by
 obtain ⟨n,v,h',h1,h2⟩:=w;exact ⟨n,v,h',h1,hr _ _ h2⟩
def qja (P:Program) (rs:List ResultVar) (R:Value→AH→Prop):AX→Tr Value→AH→Prop
 | .exit _,_,_=>False
 | _,t,h=>∃ vs,jR P t h rs=some vs∧R (jh vs) h
theorem qfW {f:FuncId} {fn:Func} {body:Code} {args:List Value} {R:Value→AH→Prop} (hX:X f args h=none) (hf:P.funcs[f]? = some fn) (hb:fn.body=some body)
 (w:W P X false (args.length+(fn.ntmps - args.length)) body (jq 0 args .e) h (qja P fn.results.toList R)):Fn P X f args h R:=by
 obtain ⟨n,x,t',h',h1,h2⟩:=w;cases x with
 | exit id=>exact h2.elim
 | norm =>
  obtain ⟨vs,h3,h4⟩:=h2;refine ⟨n,_,_,?_,h4⟩;unfold Qr;rw [hX,hf];simp only [hb];rw [h1];simp only [h3]
 | ret =>
  obtain ⟨vs,h3,h4⟩:=h2;refine ⟨n,_,_,?_,h4⟩;unfold Qr;rw [hX,hf];simp only [hb];rw [h1];simp only [h3]
theorem Jt {f:FuncId} {args:List Value} {R:Value→AH→Prop} {v:Value} {h':AH} (hX:X f args h=some (v,h')) (hq:R v h'):Fn P X f args h R:=⟨0,v,h',by unfold Qr;rw [hX],hq⟩
def qa3 (ops:Array Oper):Bool :=
 Ym ops (masks ops.toList []) [] && (Xr ops (masks ops.toList [])).isEmpty &&
  (List.range ops.size).all fun i=>qH ops [] i || match ops[i]? with|some o=>Yt [] (masks ops.toList []) ((List.range ops.size).filter (qH ops [])) i o.op|none=>false
theorem Vw {run:zF}:∀ (os:List Oper) (i:Nat) (t:Tr Value) (h:AH) (t':Tr Value) (h':AH),Xk P X run sz ops os t h=some (t',h')→∃ l,Jj P X run sz ops [] false i os t h=some (l,t',h')
 | [],i,t,h,t',h',hr=>by cases hr;exact ⟨[],rfl⟩
 | o :: r,i,t,h,t',h',hr=>by
  simp only [Xk] at hr;split at hr
  ·rename_i hg
   split at hr
   ·rename_i v h1 ho
    split at hr
    ·rename_i t1 hp
     obtain ⟨l,hl⟩:=Vw r (i+1) t1 h1 t' h' hr;exact ⟨⟨t,h,true,v⟩ :: l,by simp only [Jj,hg,stepD,Ql,ho,hp,hl,Xz]⟩
    ·cases hr
   ·cases hr
  ·rename_i hg
   split at hr
   ·rename_i t1 hp
    obtain ⟨l,hl⟩:=Vw r (i+1) t1 h t' h' hr;exact ⟨⟨t,h,false,.tuple #[]⟩ :: l,by simp only [Jj,hg,hp,hl,Xz]⟩
   ·cases hr
  ·cases hr
theorem qhn {id:Nat} (hd:qa3 ops=true) (w:WO P X sz ops ops.toList t h (Q .norm)):W P X inR sz (.region id ops true) t h Q:=by
 obtain ⟨n,t',h',h1,h2⟩:=w;refine ⟨n+1,_,_,_,?_,h2⟩;unfold qa3 at hd;rw [zA8,zA8,List.isEmpty_iff,zC8] at hd;obtain ⟨⟨hp,hf⟩,hs⟩:=hd;rw [Qo];simp only [zC];obtain ⟨l,hl⟩:=Vw ops.toList 0 t h t' h' h1;obtain ⟨q1,q2,q3,q4⟩:=XL ops.toList 0 t h l t' h' hl;have:WF P X (exec P X n) sz ops t h=some (t',h'):=by
  unfold WF;simp only [hf,hp];unfold Xj;rw [hl];simp only;have:(List.range ops.size).all (gK P ops [] (masks ops.toList []) [] ((List.range ops.size).filter (qH ops [])) (h :: ((List.range ops.size).filter (qH ops [])).map fun i=>hpAt l h' (i+1)) l)=true:=by
   rw [zC8];intro i hi;have hi':=zE3.1 hi;have h3:=hs i hi;unfold gK;have ho:ops[i]? = some ops[i]:=zE2 hi';obtain ⟨s,s1,-⟩:=q4 i _ (by rw [zC1];exact ho);rw [ho] at h3 ⊢;rw [s1];rw [zG8] at h3 ⊢;rcases h3 with h3|h3
   ·exact .inl h3
   ·refine .inr ?_;simp only at h3 ⊢;rw [h3];simp
  rw [this]
 rw [this]
end
end Go.Proofs.Xx
namespace Go.Proofs.Xx
open Go
abbrev Ks:=List (Nat×Value)
def Ks.get:Ks→Nat→Option Value
 | [],_=>none
 | (j,v) :: r,k=>match Nat.beq j k with|true=>some v|false=>Ks.get r k
def Ks.put (L:Ks) (k:Nat) (v:Value):Ks:=(k,v) :: L
def Kn (t:Tr Value) (L:Ks):Prop:=∀ k v,L.get k=some v→t.get k=some v
theorem Kn.put {t:Tr Value} {L:Ks} (h:Kn t L) (k:Nat) (v:Value):Kn (t.set k v) (L.put k v):=by
 intro j u hj;rw [Tr.QM];simp only [Ks.put,Ks.get] at hj;split at hj
 ·rename_i e
  cases hj
  rw [if_pos (zA6 e).symm]
 ·rename_i e
  rw [if_neg]
  ·exact h j u hj
  ·intro q;subst q;simp at e
def Ks.le (L' L:Ks):Prop:=∀ k v,L'.get k=some v→L.get k=some v
theorem Kn.le {t:Tr Value} {L L':Ks} (h:Kn t L) (hl:Ks.le L' L):Kn t L':=fun k v hk=>h k v (hl k v hk)
theorem Ks.le_nil (L:Ks):Ks.le [] L:=fun k v h=>by cases h
theorem Ks.qbC {L L':Ks} {k:Nat} {v:Value} (h:L.get k=some v) (hl:Ks.le L' L):Ks.le ((k,v) :: L') L:=by
 intro j u hj;simp only [Ks.get] at hj;split at hj
 ·rename_i e
  cases hj
  rw [← zA6 e];exact h
 ·exact hl j u hj
def kA (L:Ks):Operand→Option Value
 | .tmp k=>L.get k
 | .const v=>match QJ v with|true=>some v|false=>none
 | .global _=>none
 | .func f=>some (.func (.func f) #[] #[])
theorem qf9 {t:Tr Value} {L:Ks} (h:Kn t L) {o:Operand} {v:Value} (hk:kA L o=some v):ja t o=some v:=by
 cases o with
 | tmp k=>exact h k v hk
 | _=>exact hk
def Ks.tree:Ks→Tr Value
 | []=>.e
 | (k,v) :: r=>(Ks.tree r).set k v
theorem Ks.YJ:∀ (L:Ks) (k:Nat),L.tree.get k=L.get k
 | [],k=>Tr.kF k
 | (j,v) :: r,k=>by
  simp only [Ks.tree,Ks.get,Tr.QM];by_cases hk:k=j
  ·subst hk;simp
  ·rw [if_neg hk,Ks.YJ r k];have:Nat.beq j k=false:=by
    cases hb:Nat.beq j k with
    | false=>rfl
    | true=>exact absurd (zA6 hb).symm hk
   rw [this]
theorem Kn.tree (L:Ks):Kn L.tree L:=fun k v h=>by rw [Ks.YJ];exact h
def TLe (u t:Tr Value):Prop:=∀ k v,u.get k=some v→t.get k=some v
section
variable {u t:Tr Value} (hl:TLe u t)
include hl
theorem zf {o:Operand} {v:Value} (h:ja u o=some v):ja t o=some v:=by
 cases o with
 | tmp k=>exact hl k v h
 | _=>exact h
theorem Y4:∀ {os:List Operand} {vs:List Value},jA u os=some vs→jA t os=some vs
 | [],vs,h=>h
 | o :: r,vs,h=>by
  simp only [jA] at h ⊢;split at h
  ·rename_i e1 e2;rw [zf hl e1,Y4 e2];exact h
  ·cases h
theorem JP:∀ {os:List (Nat×Operand)} {vs:List (Nat×Value)},jC u os=some vs→jC t os=some vs
 | [],vs,h=>h
 | (i,o) :: r,vs,h=>by
  simp only [jC] at h ⊢;split at h
  ·rename_i e1 e2;rw [zf hl e1,JP e2];exact h
  ·cases h
theorem yE {o:Option Operand} {v:Option Value} (h:jd u o=some v):jd t o=some v:=by
 cases o with
 | none=>exact h
 | some o =>
  simp only [jd] at h ⊢;split at h
  ·rename_i e1;rw [zf hl e1];exact h
  ·cases h
theorem yQ {P:Program} {h:AH} {op:Op} {n:J4} (ha:zX P u h op=some n):zX P t h op=some n:=by
 cases op<;>simp only [zX] at ha ⊢
 case move x=>cases e:ja u x with
  | none=>rw [e] at ha;cases ha
  | some v=>rw [zf hl e];rw [e] at ha;exact ha
 case assign x=>cases e:ja u x with
  | none=>rw [e] at ha;cases ha
  | some v=>rw [zf hl e];rw [e] at ha;exact ha
 case pick c a b =>
  cases e:ja u c with
  | none=>rw [e] at ha;cases ha
  | some v =>
   rw [zf hl e];rw [e] at ha;cases v with
   | bool q =>
    cases q with
    | true=>cases e2:ja u a with
     | none=>simp only [e2] at ha;cases ha
     | some v=>simp only [zf hl e2];simp only [e2] at ha;exact ha
    | false=>cases e2:ja u b with
     | none=>simp only [e2] at ha;cases ha
     | some v=>simp only [zf hl e2];simp only [e2] at ha;exact ha
   | _=>cases ha
 case alloc e=>exact ha
 case box a x=>cases e:ja u x with
  | none=>rw [e] at ha;cases ha
  | some v=>rw [zf hl e];rw [e] at ha;exact ha
 case build ty ps=>cases e:jC u ps.toList with
  | none=>rw [e] at ha;cases ha
  | some v=>rw [JP hl e];rw [e] at ha;exact ha
 case buildSlice ty m ps=>cases e:jC u ps.toList with
  | none=>rw [e] at ha;cases ha
  | some v=>rw [JP hl e];rw [e] at ha;exact ha
 case load a x=>cases e:ja u x with
  | none=>rw [e] at ha;cases ha
  | some v=>rw [zf hl e];rw [e] at ha;exact ha
 case nilCheck x=>cases e:ja u x with
  | none=>rw [e] at ha;cases ha
  | some v=>rw [zf hl e];rw [e] at ha;exact ha
 case unOp a b x=>cases e:ja u x with
  | none=>rw [e] at ha;cases ha
  | some v=>rw [zf hl e];rw [e] at ha;exact ha
 case convert a b x=>cases e:ja u x with
  | none=>rw [e] at ha;cases ha
  | some v=>rw [zf hl e];rw [e] at ha;exact ha
 case fieldAddr a x b=>cases e:ja u x with
  | none=>rw [e] at ha;cases ha
  | some v=>rw [zf hl e];rw [e] at ha;exact ha
 case field a x b=>cases e:ja u x with
  | none=>rw [e] at ha;cases ha
  | some v=>rw [zf hl e];rw [e] at ha;exact ha
 case extract x b=>cases e:ja u x with
  | none=>rw [e] at ha;cases ha
  | some v=>rw [zf hl e];rw [e] at ha;exact ha
 case store ty a x =>
  cases e:ja u a with
  | none=>rw [e] at ha;cases ha
  | some v=>cases e2:ja u x with
   | none=>rw [e,e2] at ha;cases ha
   | some v2=>rw [zf hl e,zf hl e2];rw [e,e2] at ha;exact ha
 case binOp op ty a x b =>
  cases e:ja u a with
  | none=>rw [e] at ha;cases ha
  | some v=>cases e2:ja u x with
   | none=>rw [e,e2] at ha;cases ha
   | some v2=>rw [zf hl e,zf hl e2];rw [e,e2] at ha;exact ha
 case indexAddr ty a x =>
  cases e:ja u a with
  | none=>rw [e] at ha;cases ha
  | some v=>cases e2:ja u x with
   | none=>rw [e,e2] at ha;cases ha
   | some v2=>rw [zf hl e,zf hl e2];rw [e,e2] at ha;exact ha
 case index ty a x =>
  cases e:ja u a with
  | none=>rw [e] at ha;cases ha
  | some v=>cases e2:ja u x with
   | none=>rw [e,e2] at ha;cases ha
   | some v2=>rw [zf hl e,zf hl e2];rw [e,e2] at ha;exact ha
 case makeSlice ty a x =>
  cases e:ja u a with
  | none=>rw [e] at ha;cases ha
  | some v=>cases e2:ja u x with
   | none=>rw [e,e2] at ha;cases ha
   | some v2=>rw [zf hl e,zf hl e2];rw [e,e2] at ha;exact ha
 case lookup ty m k ok =>
  cases e:ja u m with
  | none=>rw [e] at ha;cases ha
  | some v=>cases e2:ja u k with
   | none=>rw [e,e2] at ha;cases ha
   | some v2=>rw [zf hl e,zf hl e2];rw [e,e2] at ha;exact ha
 case mapEntry ty m k =>
  cases e:ja u m with
  | none=>rw [e] at ha;cases ha
  | some v=>cases e2:ja u k with
   | none=>rw [e,e2] at ha;cases ha
   | some v2=>rw [zf hl e,zf hl e2];rw [e,e2] at ha;exact ha
 case mapUpdate ty m k x =>
  cases e:ja u m with
  | none=>rw [e] at ha;cases ha
  | some v=>cases e2:ja u k with
   | none=>rw [e,e2] at ha;cases ha
   | some v2=>cases e3:ja u x with
    | none=>rw [e,e2,e3] at ha;cases ha
    | some v3=>rw [zf hl e,zf hl e2,zf hl e3];rw [e,e2,e3] at ha;exact ha
 case insert ty m k x =>
  cases e:ja u m with
  | none=>rw [e] at ha;cases ha
  | some v=>cases e2:ja u k with
   | none=>rw [e,e2] at ha;cases ha
   | some v2=>cases e3:ja u x with
    | none=>rw [e,e2,e3] at ha;cases ha
    | some v3=>rw [zf hl e,zf hl e2,zf hl e3];rw [e,e2,e3] at ha;exact ha
 case entryStore ty m k x =>
  cases e:ja u m with
  | none=>rw [e] at ha;cases ha
  | some v=>cases e2:ja u k with
   | none=>rw [e,e2] at ha;cases ha
   | some v2=>cases e3:ja u x with
    | none=>rw [e,e2,e3] at ha;cases ha
    | some v3=>rw [zf hl e,zf hl e2,zf hl e3];rw [e,e2,e3] at ha;exact ha
 case makeMap ty rs=>exact ha
 case makeFunc fn a b =>
  cases fn<;>simp only at ha ⊢
  case func f =>
   cases e:jA u a.toList with
   | none=>rw [e] at ha;cases ha
   | some v=>cases e2:jA u b.toList with
    | none=>rw [e,e2] at ha;cases ha
    | some v2=>rw [Y4 hl e,Y4 hl e2];rw [e,e2] at ha;exact ha
  all_goals cases ha
 case slice ty x a b c =>
  cases e:ja u x with
  | none=>rw [e] at ha;cases ha
  | some v=>cases e1:jd u a with
   | none=>rw [e,e1] at ha;cases ha
   | some v1=>cases e2:jd u b with
    | none=>rw [e,e1,e2] at ha;cases ha
    | some v2=>cases e3:jd u c with
     | none=>rw [e,e1,e2,e3] at ha;cases ha
     | some v3=>rw [zf hl e,yE hl e1,yE hl e2,yE hl e3];rw [e,e1,e2,e3] at ha;exact ha
 case call c =>
  obtain ⟨callee,args,argTypes⟩:=c;simp only at ha ⊢;cases e:jA u args.toList with
  | none=>rw [e] at ha;cases ha
  | some vs =>
   rw [Y4 hl e];rw [e] at ha;cases callee with
   | builtin b=>exact ha
   | value f =>
    simp only at ha ⊢;cases e2:ja u f with
    | none=>rw [e2] at ha;cases ha
    | some v=>rw [zf hl e2];rw [e2] at ha;exact ha
   | invoke a b=>exact ha
 all_goals cases ha
theorem Qm {ops:Array Oper} {g:Option (Nat×Bool)} {b:Bool} (h:qo ops u g=some b):qo ops t g=some b:=by
 unfold qo at h ⊢;split at h
 ·exact h
 ·rename_i j want
  (try simp only)
  split at h
  ·rename_i o ho
   (try rw [ho])
   (try simp only)
   split at h
   ·rename_i d hd
    (try rw [hd])
    (try simp only)
    cases hg:u.get d with
    | none=>rw [hg] at h;cases h
    | some v=>rw [hl d v hg];rw [hg] at h;exact h
   ·cases h
  ·cases h
theorem Xg {P:Program} {h:AH}:∀ {rs:List ResultVar} {vs:List Value},jR P u h rs=some vs→jR P t h rs=some vs
 | [],vs,hr=>hr
 | r :: rs,vs,hr=>by
  simp only [jR] at hr ⊢;have key:∀ v,JG P u h r=some v→JG P t h r=some v:=by
   intro v hv;cases r with
   | tmp k=>exact hl k v hv
   | cell a ty =>
    simp only [JG] at hv ⊢;cases e:u.get a with
    | none=>rw [e] at hv;cases hv
    | some p=>rw [hl a p e];rw [e] at hv;exact hv
  split at hr
  ·rename_i e1 e2
   rw [key _ e1,Xg e2];exact hr
  ·cases hr
end
theorem Kn.tle {t:Tr Value} {L:Ks} (h:Kn t L):TLe L.tree t:=fun k v hk=>h k v (by rw [← Ks.YJ];exact hk)
end Go.Proofs.Xx
namespace Go.Proofs.Xx
open Go
abbrev KQ:=AX→Ks→AH→Prop
section
variable (P:Program) (X:Extern)
def K (inR:Bool) (sz:Nat) (c:Code) (L:Ks) (h:AH) (Q:KQ):Prop:=∀ t,Kn t L→W P X inR sz c t h (fun x t' h'=>∃ L',Kn t' L'∧Q x L' h')
def KO (sz:Nat) (ops:Array Oper) (os:List Oper) (L:Ks) (h:AH) (R:Ks→AH→Prop):Prop:=∀ t,Kn t L→WO P X sz ops os t h (fun t' h'=>∃ L',Kn t' L'∧R L' h')
end
section
variable {P:Program} {X:Extern} {inR:Bool} {sz:Nat} {L:Ks} {h:AH} {Q:KQ}
theorem K.mono {c:Code} {Q':KQ} (w:K P X inR sz c L h Q) (hq:∀ x L' h',Q x L' h'→Q' x L' h'):K P X inR sz c L h Q' :=
 fun t hk=>(w t hk).mono fun x t' h' ⟨L',h1,h2⟩=>⟨L',h1,hq _ _ _ h2⟩
theorem K.le {c:Code} {L':Ks} (hl:Ks.le L' L) (w:K P X inR sz c L' h Q):K P X inR sz c L h Q:=fun t hk=>w t (hk.le hl)
theorem qi (hq:Q .norm L h):K P X inR sz .skip L h Q:=fun t hk=>qhk ⟨L,hk,hq⟩
theorem qy {id:Nat} (hq:Q (.exit id) L h):K P X inR sz (.exit id) L h Q:=fun t hk=>qhm ⟨L,hk,hq⟩
theorem qj (hq:Q .ret L h):K P X inR sz .ret L h Q:=fun t hk=>qiX ⟨L,hk,hq⟩
theorem jE {l:Nat} (hq:Q .norm L h):K P X inR sz (.label l) L h Q:=fun t hk=>qfO ⟨L,hk,hq⟩
def wE (P:Program) (X:Extern) (inR:Bool) (sz:Nat) (b:Code) (Q:KQ):KQ
 | .norm,L,h=>K P X inR sz b L h Q
 | x,L,h=>Q x L h
theorem qg {a b:Code} (w:K P X inR sz a L h (wE P X inR sz b Q)):K P X inR sz (.seq a b) L h Q:=fun t hk =>
 qiW ((w t hk).mono fun x t' h' ⟨L',h1,h2⟩=>by
  cases x with
  | norm=>exact h2 t' h1
  | exit id=>exact ⟨L',h1,h2⟩
  | ret=>exact ⟨L',h1,h2⟩)
theorem qhu {c:Operand} {a b:Code} {v:Bool} (hc:kA L c=some (.bool v)) (w:K P X inR sz (if v then a else b) L h Q):K P X inR sz (.cond c a b) L h Q:=fun t hk =>
 qho (qf9 hk hc) (w t hk)
def qba (id:Nat) (Q:KQ):KQ
 | .exit id',L,h=>if id'=id then Q .norm L h else Q (.exit id') L h
 | x,L,h=>Q x L h
theorem qfT {id:Nat} {body:Code} (w:K P X inR sz body L h (qba id Q)):K P X inR sz (.block id body) L h Q:=fun t hk =>
 qfP ((w t hk).mono fun x t' h' ⟨L',h1,h2⟩=>by
  cases x with
  | norm=>exact ⟨L',h1,h2⟩
  | exit id' =>
   simp only [qba] at h2;simp only [qa9];split
   ·rename_i e;rw [if_pos e] at h2;exact ⟨L',h1,h2⟩
   ·rename_i e;rw [if_neg e] at h2;exact ⟨L',h1,h2⟩
  | ret=>exact ⟨L',h1,h2⟩)
theorem jD {body:Code} (w:K P X inR sz body L h Q):K P X inR sz (.scope body) L h Q:=fun t hk=>qfN (w t hk)
def qii (I:Nat→Ks→AH→Prop) (m:Nat) (Q:KQ):KQ
 | .norm,L,h=>∃ k L',k<m∧I k L' h∧Ks.le L' L
 | x,L,h=>Q x L h
theorem qht {body:Code} (I:Nat→Ks→AH→Prop) (hb:∀ m L h,I m L h→K P X inR sz body L h (qii I m Q)) (m:Nat) {L0:Ks} (hi:I m L0 h) (hl:Ks.le L0 L):K P X inR sz (.loop body) L h Q:=fun t hk =>
 qhl (Q:=fun x t' h'=>∃ L',Kn t' L'∧Q x L' h') (fun m t h=>∃ L,Kn t L∧I m L h) (fun m t h ⟨L,k1,k2⟩=>(hb m L h k2 t k1).mono fun x t' h' ⟨L',h1,h2⟩=>by
  cases x with
  | norm=>obtain ⟨k,L2,h3,h4,h5⟩:=h2;exact ⟨k,h3,L2,h1.le h5,h4⟩
  | exit id=>exact ⟨L',h1,h2⟩
  | ret=>exact ⟨L',h1,h2⟩) m t h ⟨L0,hk.le hl,hi⟩
theorem qc (id:Nat) {ops:Array Oper} (w:KO P X sz ops ops.toList L h (Q .norm)):K P X inR sz (.region id ops false) L h Q:=fun t hk=>qeK (w t hk)
variable {ops:Array Oper} {os:List Oper} {o:Oper} {R:Ks→AH→Prop}
theorem qf (hq:R L h):KO P X sz ops [] L h R:=fun t hk=>qhr ⟨L,hk,hq⟩
theorem KO.mono {R':Ks→AH→Prop} (w:KO P X sz ops os L h R') (hq:∀ L' h',R' L' h'→R L' h'):KO P X sz ops os L h R:=fun t hk=>by
 obtain ⟨n,t',h',h1,L',h2,h3⟩:=w t hk;exact ⟨n,t',h',h1,L',h2,hq _ _ h3⟩
def qG (sz:Nat) (L:Ks) (d:Option Tmp) (v:Value):Option Ks :=
 match d with
 | none=>some L
 | some k=>match Nat.blt k sz with
  | true=>some (L.put k v)
  | false=>none
theorem XO {t:Tr Value} {L L':Ks} {d:Option Tmp} {v:Value} (hk:Kn t L) (hp:qG sz L d v=some L'):∃ t',J6 sz t d v=some t'∧Kn t' L':=by
 unfold qG at hp;unfold J6;split at hp
 ·cases hp;exact ⟨t,rfl,hk⟩
 ·split at hp
  ·rename_i e;cases hp;exact ⟨_,by simp only [e],hk.put _ _⟩
  ·cases hp
theorem zo {L':Ks} {h':AH} {v:Value} (hg:qo ops L.tree o.guard=some true) (ha:zX P L.tree h o.op=some (.val v h')) (hp:qG sz L o.dst v=some L') (w:KO P X sz ops os L' h' R):KO P X sz ops (o :: os) L h R:=fun t hk=>by
 obtain ⟨t',h1,h2⟩:=XO hk hp;exact qhp (Qm hk.tle hg) (yQ hk.tle ha) h1 (w t' h2)
theorem GG {L':Ks} {h':AH} (hg:qo ops L.tree o.guard=some true) (ha:zX P L.tree h o.op=some (.skip h')) (hp:qG sz L o.dst (.tuple #[])=some L') (w:KO P X sz ops os L' h' R):KO P X sz ops (o :: os) L h R:=fun t hk=>by
 obtain ⟨t',h1,h2⟩:=XO hk hp;exact qfQ (Qm hk.tle hg) (yQ hk.tle ha) h1 (w t' h2)
theorem qhv {L':Ks} (hg:qo ops L.tree o.guard=some false) (hp:qG sz L o.dst (.tuple #[])=some L') (w:KO P X sz ops os L' h R):KO P X sz ops (o :: os) L h R:=fun t hk=>by
 obtain ⟨t',h1,h2⟩:=XO hk hp;exact qhq (Qm hk.tle hg) h1 (w t' h2)
theorem zk {f:FuncId} {args:List Value} {d:Tmp} (hg:qo ops L.tree o.guard=some true) (ha:zX P L.tree h o.op=some (.call f args)) (hd:o.dst=some d) (hs:Nat.blt d sz=true)
 (w:Fn P X f args h (fun v h'=>KO P X sz ops os (L.put d v) h' R)):KO P X sz ops (o :: os) L h R:=fun t hk =>
 qfR (Qm hk.tle hg) (yQ hk.tle ha) hd hs (w.mono fun v h' q=>q _ (hk.put d v))
theorem qE {L:Ks} {o:Operand} {v:Value} (hk:kA L o=some v):ja L.tree o=some v:=qf9 (Kn.tree L) hk
theorem qeP {L':Ks} {x:Operand} {ty:TypeId} {a v:Value} (ho:o.op = .call { callee:=.builtin .len,args:=#[x],argTypes:=#[ty] }) (hg:qo ops L.tree o.guard=some true) (hx:kA L x=some a)
 (hv:qbi P ty a=some v) (hp:qG sz L o.dst v=some L') (w:KO P X sz ops os L' h R):KO P X sz ops (o :: os) L h R :=
 zo hg (by rw [ho];simp only [zX,jA,qE hx,jk,hv,qM]) hp w
theorem qeQ {L':Ks} {x i:Operand} {ty:TypeId} {a b v:Value} (ho:o.op = .indexAddr ty x i) (hg:qo ops L.tree o.guard=some true) (hx:kA L x=some a) (hi:kA L i=some b)
 (hv:jy P ty a b=some v) (hp:qG sz L o.dst v=some L') (w:KO P X sz ops os L' h R):KO P X sz ops (o :: os) L h R :=
 zo hg (by rw [ho];simp only [zX,qE hx,qE hi,hv,qM]) hp w
theorem GH {L':Ks} {x:Operand} {ty:TypeId} {a v:Value} (ho:o.op = .load ty x) (hg:qo ops L.tree o.guard=some true) (hx:kA L x=some a)
 (hv:Z8 P ty a h=some v) (hp:qG sz L o.dst v=some L') (w:KO P X sz ops os L' h R):KO P X sz ops (o :: os) L h R :=
 zo hg (by rw [ho];simp only [zX,qE hx,hv,qM]) hp w
theorem zN {L':Ks} {op:BinOp} {x y:Operand} {ty ty2:TypeId} {a b v:Value} (ho:o.op = .binOp op ty x y ty2) (hg:qo ops L.tree o.guard=some true) (hx:kA L x=some a) (hy:kA L y=some b)
 (hv:jP P op ty a b=some v) (hp:qG sz L o.dst v=some L') (w:KO P X sz ops os L' h R):KO P X sz ops (o :: os) L h R :=
 zo hg (by rw [ho];simp only [zX,qE hx,qE hy,hv,qM]) hp w
theorem qaf {h':AH} {L':Ks} {x y:Operand} {ty:TypeId} {a b:Value} (ho:o.op = .store ty x y) (hg:qo ops L.tree o.guard=some true) (hx:kA L x=some a) (hy:kA L y=some b)
 (hv:JR P ty a b h=some h') (hp:qG sz L o.dst (.tuple #[])=some L') (w:KO P X sz ops os L' h' R):KO P X sz ops (o :: os) L h R :=
 GG hg (by rw [ho];simp only [zX,qE hx,qE hy,hv]) hp w
theorem qfU {h':AH} {L':Ks} {x y:Operand} {ty:TypeId} {a b v:Value} (ho:o.op = .makeSlice ty x y) (hg:qo ops L.tree o.guard=some true) (hx:kA L x=some a) (hy:kA L y=some b)
 (hv:QA P ty a b h=some (v,h')) (hp:qG sz L o.dst v=some L') (w:KO P X sz ops os L' h' R):KO P X sz ops (o :: os) L h R :=
 zo hg (by rw [ho];simp only [zX,qE hx,qE hy,hv,Qa]) hp w
theorem kV {h':AH} {L':Ks} {x y:Operand} {tys:Array TypeId} {a b v:Value} (ho:o.op = .call { callee:=.builtin .append,args:=#[x,y],argTypes:=tys }) (hg:qo ops L.tree o.guard=some true) (hx:kA L x=some a) (hy:kA L y=some b)
 (hv:zV P tys.toList a b h=some (v,h')) (hp:qG sz L o.dst v=some L') (w:KO P X sz ops os L' h' R):KO P X sz ops (o :: os) L h R :=
 zo hg (by rw [ho];simp only [zX,jA,qE hx,qE hy,jk,hv,Qa]) hp w
def qff (L:Ks):List Operand→Option (List Value)
 | []=>some []
 | o :: r=>match kA L o,qff L r with
  | some v,some vs=>some (v :: vs)
  | _,_=>none
theorem qbE {L:Ks}:∀ {os:List Operand} {vs:List Value},qff L os=some vs→jA L.tree os=some vs
 | [],vs,h=>h
 | o :: r,vs,h=>by
  simp only [qff] at h;simp only [jA];split at h
  ·rename_i e1 e2;rw [qE e1,qbE e2];exact h
  ·cases h
theorem qm {f:FuncId} {args:Array Operand} {tys:Array TypeId} {vs:List Value} {d:Tmp} (ho:o.op = .call { callee:=.value (.func f),args:=args,argTypes:=tys }) (hg:qo ops L.tree o.guard=some true) (ha:qff L args.toList=some vs)
 (hd:o.dst=some d) (hs:Nat.blt d sz=true) (w:Fn P X f vs h (fun v h'=>KO P X sz ops os (L.put d v) h' R)):KO P X sz ops (o :: os) L h R :=
 zk hg (by rw [ho];simp [zX,qbE ha,ja]) hd hs w
def qjb (P:Program) (rs:List ResultVar) (R:Value→AH→Prop):KQ
 | .exit _,_,_=>False
 | _,L,h=>∃ vs,jR P L.tree h rs=some vs∧R (jh vs) h
def qdS:Nat→List Value→Ks
 | _,[]=>[]
 | k,v :: r=>(k,v) :: qdS (k+1) r
theorem Pn:∀ (vs:List Value) (k j:Nat) (v:Value),(qdS k vs).get j=some v→k≤j∧vs[j - k]? = some v
 | [],k,j,v,h=>by cases h
 | u :: r,k,j,v,h=>by
  simp only [qdS,Ks.get] at h;split at h
  ·rename_i e
   cases h
   have:=zA6 e;subst this;exact ⟨zA3 _,by simp⟩
  ·obtain ⟨h1,h2⟩:=Pn r (k+1) j v h;refine ⟨by omega,?_⟩;rw [show j - k=(j - (k+1))+1 by omega,zH4];exact h2
theorem Ya:∀ (vs:List Value) (k:Nat) (t:Tr Value) (j:Nat),(jq k vs t).get j=if k≤j∧j<k+vs.length then vs[j - k]? else t.get j
 | [],k,t,j=>by simp [jq];intro h1 h2;omega
 | v :: r,k,t,j=>by
  simp only [jq];rw [Ya r (k+1) _ j,Tr.QM];by_cases hj:j=k
  ·subst hj;rw [if_neg (by omega),if_pos rfl,if_pos ⟨zA3 _,by simp⟩];simp
  ·by_cases h1:k+1≤j∧j<k+1+r.length
   ·rw [if_pos h1,if_pos (by simp;omega),show j - k=(j - (k+1))+1 by omega,zH4]
   ·rw [if_neg h1,if_neg hj,if_neg (by simp;omega)]
theorem Kn.enter (vs:List Value):Kn (jq 0 vs .e) (qdS 0 vs):=by
 intro j v hj;obtain ⟨h1,h2⟩:=Pn vs 0 j v hj;rw [Ya,if_pos ⟨zB0 _,by have:=(zD6.1 h2).1;omega⟩];exact h2
theorem qA {f:FuncId} {fn:Func} {body:Code} {args:List Value} {R:Value→AH→Prop} (hX:X f args h=none) (hf:P.funcs[f]? = some fn) (hb:fn.body=some body) {n:Nat} (hn:args.length+(fn.ntmps - args.length)=n)
 (w:K P X false n body (qdS 0 args) h (qjb P fn.results.toList R)):Fn P X f args h R:=by
 subst hn;refine qfW hX hf hb ((w _ (Kn.enter args)).mono fun x t' h' ⟨L',h1,h2⟩=>?_);cases x with
 | exit id=>exact h2.elim
 | norm=>obtain ⟨vs,h3,h4⟩:=h2;exact ⟨vs,Xg h1.tle h3,h4⟩
 | ret=>obtain ⟨vs,h3,h4⟩:=h2;exact ⟨vs,Xg h1.tle h3,h4⟩
end
end Go.Proofs.Xx
namespace Go.Proofs.Xx
open Go
def WfH (h:AH):Prop:=∀ b,h.next≤b→h.get b=none
theorem WfH.lt {h:AH} (w:WfH h) {b:Nat} {o:Qp} (hg:h.get b=some o):b<h.next:=by
 rcases zA7 b h.next with q|q
 ·exact q
 ·rw [w b q] at hg;cases hg
theorem WfH.add {h:AH} (w:WfH h) (o:Qp):WfH (h.add o):=fun b hb=>by
 have hb':h.next+1≤b:=hb
 rw [AH.qW,if_neg (by omega)];exact w b (by omega)
theorem WfH.put {h:AH} (w:WfH h) {b:Nat} (hb:b<h.next) (o:Qp):WfH (h.put b o):=fun k hk=>by
 have hk':h.next≤k:=hk
 rw [AH.get_put,if_neg (by omega)];exact w k hk'
structure Ext (h h':AH):Prop where
 next:h.next≤h'.next
 old:∀ b,b<h.next→h'.get b=h.get b
 wf:WfH h'
theorem Ext.refl {h:AH} (w:WfH h):Ext h h:=⟨zA3 _,fun _ _=>rfl,w⟩
theorem Ext.trans {a b c:AH} (x:Ext a b) (y:Ext b c):Ext a c:=⟨zD0 x.next y.next,fun k hk=>(y.old k (zE4 hk x.next)).trans (x.old k hk),y.wf⟩
theorem Ext.add {h0 h:AH} (x:Ext h0 h) (o:Qp):Ext h0 (h.add o) :=
 ⟨zD0 x.next (Nat.le_succ _),fun b hb=>by rw [AH.qW,if_neg (by have:=x.next;omega)];exact x.old b hb,x.wf.add o⟩
theorem Ext.put {h0 h:AH} (x:Ext h0 h) {b:Nat} (h1:h0.next≤b) (h2:b<h.next) (o:Qp):Ext h0 (h.put b o) :=
 ⟨x.next,fun k hk=>by rw [AH.get_put,if_neg (by omega)];exact x.old k hk,x.wf.put h2 o⟩
theorem Ext.get {h0 h:AH} (x:Ext h0 h) (w:WfH h0) {b:Nat} {o:Qp} (hg:h0.get b=some o):h.get b=some o:=(x.old b (w.lt hg)).trans hg
theorem qas {c xs:List Value} {o n k:Nat} (h:zn c o n=some xs) (hk:k<n):c[o+k]? = xs[k]?:=by
 unfold zn at h;simp only at h;split at h
 ·cases h
  rw [zC7,if_pos hk,zC3]
 ·cases h
theorem JA {c xs:List Value} {o n:Nat} (h:zn c o n=some xs):xs.length=n:=by
 unfold zn at h;simp only at h;split at h
 ·rename_i e;cases h;exact zA6 e
 ·cases h
theorem Jf {c:List Value} {o n:Nat} (h:o+n≤c.length):zn c o n=some ((c.drop o).take n):=by
 unfold zn;simp only;have:((c.drop o).take n).length=n:=by rw [zA9,zB4];omega
 rw [this];simp
theorem jf (c:List Value):zn c 0 c.length=some c:=by rw [Jf (by omega)];simp
theorem QU {c xs:List Value} {o n:Nat} (h:zn c o n=some xs):xs=(c.drop o).take n∧o+n≤c.length∨n=0∧xs=[]:=by
 have hl:=JA h;unfold zn at h;simp only at h;split at h
 ·rename_i e
  cases h
  rw [zA9,zB4] at hl;rcases zF4 n with q|q
  ·right;subst q;simp
  ·left;exact ⟨rfl,by omega⟩
 ·cases h
theorem Qx {c xs:List Value} {o n i m:Nat} (h:zn c o n=some xs) (him:i+m≤n):zn c (o+i) m=some ((xs.drop i).take m):=by
 rcases QU h with ⟨rfl,hle⟩|⟨rfl,rfl⟩
 ·rw [Jf (by omega),List.drop_take,List.take_take,List.drop_drop];congr 2;omega
 ·have:m=0:=by omega
  subst this;simp [zn]
def Rd (h:AH) (v:Value) (z n:Nat) (c:List Value):Prop :=
 (v = .slice none 0 0∧n=0∧c=[])∨∃ b o cap cc e s r,v = .slice (some ⟨b,o,none⟩) n cap∧h.get b=some (.cells cc e s r)∧zn cc o (n*z)=some c
theorem Rd.none_ (h:AH) (z:Nat):Rd h (.slice none 0 0) z 0 []:=.inl ⟨rfl,rfl,rfl⟩
theorem Rd.length {h:AH} {v:Value} {z n:Nat} {c:List Value} (r:Rd h v z n c):c.length=n*z:=by
 rcases r with ⟨rfl,rfl,rfl⟩|⟨b,o,cap,cc,e,s,q,rfl,h1,h2⟩
 ·simp
 ·exact JA h2
theorem Rd.ext {h h':AH} {v:Value} {z n:Nat} {c:List Value} (r:Rd h v z n c) (w:WfH h) (x:Ext h h'):Rd h' v z n c:=by
 rcases r with ⟨rfl,rfl,rfl⟩|⟨b,o,cap,cc,e,s,q,rfl,h1,h2⟩
 ·exact Rd.none_ h' z
 ·exact .inr ⟨b,o,cap,cc,e,s,q,rfl,x.get w h1,h2⟩
section
variable {P:Program} {ty e:TypeId} (hu:P.underlying ty=some (.slice e))
include hu
theorem Rd.len {h:AH} {v:Value} {z n:Nat} {c:List Value} (r:Rd h v z n c):qbi P ty v=some (.int .i64 n):=by
 rcases r with ⟨rfl,rfl,rfl⟩|⟨b,o,cap,cc,e',s,q,rfl,h1,h2⟩<;>simp [qbi,hu]
end
structure Own (h:AH) (v:Value) (b:Nat) (e:TypeId) (z n:Nat) (c:List Value):Prop where
 val:v = .slice (some ⟨b,0,none⟩) n n
 obj:h.get b=some (.cells c e none false)
 len:c.length=n*z
theorem Own.rd {h:AH} {v:Value} {b:Nat} {e:TypeId} {z n:Nat} {c:List Value} (o:Own h v b e z n c):Rd h v z n c :=
 .inr ⟨b,0,n,c,e,none,false,o.val,o.obj,by rw [← o.len];exact jf c⟩
theorem qdY {P:Program} {ty e:TypeId} {z:List Value} {by_:Nat} {h:AH} (w:WfH h) (hu:qQ P ty=some e) (hz:qV P e=some z) (hb:Qh P e=some by_) {n:Nat} (hn:n*(by_+1)≤140737488355328) :
 ∃ v h',QA P ty (.int .i64 n) (.int .i64 n) h=some (v,h')∧Own h' v h.next e z.length n (zg z n)∧Ext h h':=by
 refine ⟨.slice (some ⟨h.next,0,none⟩) n n,h.add (.cells (zg z n) e none false),?_,⟨rfl,by rw [AH.qW,if_pos rfl],Qc z n⟩,(Ext.refl w).add _⟩;show QA P ty (.int .i64 (Int.ofNat n)) (.int .i64 (Int.ofNat n)) h=_
 have h1:Nat.ble n n=true:=zB3 (zA3 _);have h2:Nat.ble (n*(by_+1)) 140737488355328=true:=zB3 hn;simp only [QA,hu,hz,hb,h1,h2,zF9]
theorem Own.set {P:Program} {ty e:TypeId} (hu:P.underlying ty=some (.slice e)) (hz:zI P e=some 1) {h:AH} {v:Value} {b n:Nat} {c:List Value} (o:Own h v b e 1 n c) {ik:IntKind} {k:Nat} (hk:k<n) {x:Value} (hx:one? x=true) (hc:x.cells=#[x]) :
 ∃ p,jy P ty v (.int ik k)=some p∧JR P e p x h=some (h.put b (.cells (c.set k x) e none false))∧Own (h.put b (.cells (c.set k x) e none false)) v b e 1 n (c.set k x):=by
 have hkc:k<c.length:=by have:=o.len;omega
 refine ⟨.pointer (some ⟨b,0+k*1,none⟩),?_,?_,⟨o.val,by rw [AH.get_put,if_pos rfl],by rw [zF5];exact o.len⟩⟩
 ·have:Nat.blt k n=true:=by rw [Nat.blt_eq];exact hk
  rw [o.val];show jy P ty _ (.int ik (Int.ofNat k))=_
  simp only [jy,hu,hz,this]
 ·simp only [JR,Q8,o.obj,hz,hc];have h1:Nat.ble (0+k*1+1) c.length=true:=zB3 (by omega);have h2:splice c (0+k*1) [x]=c.set k x:=by
   simp only [splice,zG1,Nat.mul_one,zC4,List.length_nil,zC6,zC0];rw [List.set_eq_take_append_cons_drop,if_pos hkc]
  have h3:putCells h b (0+k*1) c e none [x]=some (h.put b (.cells (c.set k x) e none false)):=by
   unfold putCells;rw [h2];have:([x].all one? && Nat.ble (0+k*1+[x].length) c.length)=true:=by
    rw [show [x].all one? = true by simp [hx],show [x].length=1 from rfl,h1];rfl
   rw [this]
  exact h3
theorem wrap_i64 {n:Int} (h1 : -9223372036854775808≤n) (h2:n≤9223372036854775807):IntKind.i64.wrap n=n:=IntWalk.i64_in _ (by omega)
theorem qbT {P:Program} {ty:TypeId} {a b c:Int} (hc:a+b=c) (h1 : -9223372036854775808≤c) (h2:c≤9223372036854775807):jP P .add ty (.int .i64 a) (.int .i64 b)=some (.int .i64 c):=by
 show some (Value.int .i64 (IntKind.i64.wrap (a+b)))=_
 rw [hc,wrap_i64 h1 h2]
theorem qeV {P:Program} {ty:TypeId} {a b c:Int} (hc:a - b=c) (h1 : -9223372036854775808≤c) (h2:c≤9223372036854775807):jP P .sub ty (.int .i64 a) (.int .i64 b)=some (.int .i64 c):=by
 show some (Value.int .i64 (IntKind.i64.wrap (a - b)))=_
 rw [hc,wrap_i64 h1 h2]
theorem qe9 {P:Program} {ty:TypeId} {a b c:Int} (hc:a*b=c) (h1 : -9223372036854775808≤c) (h2:c≤9223372036854775807):jP P .mul ty (.int .i64 a) (.int .i64 b)=some (.int .i64 c):=by
 show some (Value.int .i64 (IntKind.i64.wrap (a*b)))=_
 rw [hc,wrap_i64 h1 h2]
def ints (l:List Int):List Value:=l.map (Value.int .i64)
end Go.Proofs.Xx
namespace Go.Proofs.Xx
open Go
theorem pq (b o n c:Nat):wL (.slice (some ⟨b,o,none⟩) n c) (.slice (some ⟨b,o,none⟩) n c)=true:=by simp [wL,xE,wM]
theorem Rd.same {h:AH} {v:Value} {z n:Nat} {c:List Value} (r:Rd h v z n c):wL v v=true:=by
 rcases r with ⟨rfl,rfl,rfl⟩|⟨b,o,cap,cc,e,s,q,rfl,h1,h2⟩
 ·rfl
 ·exact pq _ _ _ _
section
variable {P:Program} {X:Extern} {inR:Bool} {sz:Nat} {L:Ks} {h:AH} {Q:KQ} {ops:Array Oper}
theorem qF (id:Nat) (w:KO P X sz ops ops.toList L h (Q .norm)) (hd:qa3 ops=true:=by decide +kernel):K P X inR sz (.region id ops true) L h Q:=fun t hk=>qhn hd (w t hk)
end
end Go.Proofs.Xx
namespace Go.Proofs.Xx
open Go
def Gr (h0 h:AH) (v:Value) (e:TypeId) (z n:Nat) (c:List Value):Prop :=
 (v = .slice none 0 0∧n=0∧c=[])∨∃ b slk,v = .slice (some ⟨b,0,none⟩) n n∧h.get b=some (.cells c e slk false)∧c.length=n*z∧h0.next≤b∧(slk=none∨slk=some z)
theorem Gr.rd {h0 h:AH} {v:Value} {e:TypeId} {z n:Nat} {c:List Value} (g:Gr h0 h v e z n c):Rd h v z n c:=by
 rcases g with ⟨rfl,rfl,rfl⟩|⟨b,slk,rfl,h1,h2,h3,h4⟩
 ·exact Rd.none_ h z
 ·exact .inr ⟨b,0,n,c,e,slk,false,rfl,h1,by rw [← h2];exact jf c⟩
theorem Gr.nil (h0 h:AH) (e:TypeId) (z:Nat):Gr h0 h (.slice none 0 0) e z 0 []:=.inl ⟨rfl,rfl,rfl⟩
theorem Gr.ext {h0 h h':AH} {v:Value} {e:TypeId} {z n:Nat} {c:List Value} (g:Gr h0 h v e z n c) (w:WfH h) (x:Ext h h'):Gr h0 h' v e z n c:=by
 rcases g with ⟨rfl,rfl,rfl⟩|⟨b,slk,rfl,h1,h2⟩
 ·exact Gr.nil h0 h' e z
 ·exact .inr ⟨b,slk,rfl,x.get w h1,h2⟩
theorem Rd.source {h:AH} {v:Value} {z n:Nat} {c:List Value} (r:Rd h v z n c):Q9 z v h=some (n,c):=by
 rcases r with ⟨rfl,rfl,rfl⟩|⟨b,o,cap,cc,e,s,q,rfl,h1,h2⟩
 ·rfl
 ·simp only [Q9,h1,h2]
theorem qhc {P:Program} {ty e:TypeId} {zc:List Value} (hs:qQ P ty=some e) (hz:qV P e=some zc) {x:Value} (hx:x.cells.toList.length=zc.length) (hzl:zc.length≤1000) (h:AH) :
 jr P ty 1 [(0,x)] h=some (.slice (some ⟨h.next,0,none⟩) 1 1,h.add (.cells x.cells.toList e none false)):=by
 have k1:Nat.ble (1*zc.length) 16777216=true:=zB3 (by omega);have k3:zg zc 1=zc:=by simp [zg]
 have k2:(Nat.beq x.cells.toList.length zc.length && Nat.ble (0*zc.length+zc.length) zc.length)=true:=by
  rw [hx];simp
 have k4:splice zc (0*zc.length) x.cells.toList=x.cells.toList:=by
  simp only [splice,Nat.zero_mul,List.take_zero,zC0,zG1];rw [hx,List.drop_length,zD7]
 simp only [jr,hs,hz,k1,k3,Y2,k2,k4]
theorem qhd {P:Program} {ty e:TypeId} {zc:List Value} (hs:qQ P ty=some e) (hz:qV P e=some zc) (h:AH) :
 jr P ty 0 [] h=some (.slice (some ⟨h.next,0,none⟩) 0 0,h.add (.cells [] e none false)):=by
 have k1:Nat.ble (0*zc.length) 16777216=true:=zB3 (by omega);simp only [jr,hs,hz,k1,Y2,zg]
section
variable {P:Program} {X:Extern} {inR:Bool} {sz:Nat} {L:Ks} {h:AH} {ops:Array Oper} {os:List Oper} {o:Oper} {R:Ks→AH→Prop}
def Xo (L:Ks):List (Nat×Operand)→Option (List (Nat×Value))
 | []=>some []
 | (i,o) :: r=>match kA L o,Xo L r with
  | some v,some vs=>some ((i,v) :: vs)
  | _,_=>none
theorem ku {L:Ks}:∀ {os:List (Nat×Operand)} {vs:List (Nat×Value)},Xo L os=some vs→jC L.tree os=some vs
 | [],vs,h=>h
 | (i,o) :: r,vs,h=>by
  simp only [Xo] at h;simp only [jC];split at h
  ·rename_i e1 e2;rw [qE e1,ku e2];exact h
  ·cases h
theorem VX {h':AH} {L':Ks} {ty:TypeId} {n:Nat} {ps:Array (Nat×Operand)} {vs:List (Nat×Value)} {v:Value} (ho:o.op = .buildSlice ty n ps) (hg:qo ops L.tree o.guard=some true) (hx:Xo L ps.toList=some vs)
 (hv:jr P ty n vs h=some (v,h')) (hp:qG sz L o.dst v=some L') (w:KO P X sz ops os L' h' R):KO P X sz ops (o :: os) L h R :=
 zo hg (by rw [ho];simp only [zX,ku hx,hv,Qa]) hp w
end
def Qn:Value→Prop
 | .slice _ n cap=>n≤cap
 | _=>True
end Go.Proofs.Xx
namespace Go.Proofs.Xx
open Go Go.RowKit
section
variable {H:Type} {enc:TypeId×Value→H} {P:Program} {W W':World}
theorem Jm {α β:Type} {f g:α→Option β}:∀ {l:List α} {r:List β},l.mapM f=some r→(∀ a b,a∈l→b∈r→f a=some b→g a=some b)→l.mapM g=some r:=by
 intro l;induction l with
 | nil=>intro r h _;simpa using h
 | cons a l ih =>
  intro r h hk;rw [List.mapM_cons] at h ⊢;cases hf:f a with
  | none=>rw [hf] at h;cases h
  | some b =>
   rw [hf] at h;cases hm:l.mapM f with
   | none=>rw [hm] at h;cases h
   | some r' =>
    rw [hm] at h;simp at h;subst h;rw [hk a b (by simp) (by simp) hf,ih hm fun x y hx hy=>hk x y (by simp [hx]) (by simp [hy])];rfl
theorem qa6 (hb:∀ k,k<W.heap.size→W'.heap[k]? = W.heap[k]?) {base n:Nat} {a:Addr} {cs:List Value} (h:W.cells? base a n=some cs):W'.cells? base a n=some cs:=by
 unfold World.cells? at h ⊢;split at h
 ·rename_i hba
  rw [if_pos hba];refine Jm h fun i v _ _ hv=>?_;have hlt:(a.add i).block<W.heap.size:=by
   rcases zA7 (a.add i).block W.heap.size with q|q
   ·exact q
   ·have:W.cell? (a.add i)=none:=by
     unfold World.cell?;rw [Array.getElem?_eq_none q]
    rw [this] at hv;cases hv
  rw [← hv];exact World.cell?_of_block (w:=W) (hb _ hlt)
 ·cases h
def wC (P:Program):List Field→Nat→Nat→Bool
 | [],at_,n=>Nat.beq at_ n
 | f :: r,at_,n=>Nat.beq f.offset at_ && wC P r (at_+P.cellsOf f.type) n
def QZ (P:Program):Nat→TypeId→Bool
 | 0,_=>false
 | m+1,t=>match P.underlying t with
  | some .bool|some .string=>Nat.beq (P.cellsOf t) 1
  | some (.int _)=>Nat.beq (P.cellsOf t) 1
  | some (.slice e)=>Nat.beq (P.cellsOf t) 1 && (QZ P m e && !Nat.beq (P.cellsOf e) 0)
  | some (.struct fs)=>fs.toList.all (fun f=>QZ P m f.type) && wC P fs.toList 0 (P.cellsOf t)
  | some (.array n e)=>QZ P m e && Nat.beq (P.cellsOf t) (n*P.cellsOf e)
  | _=>false
theorem qb5 (hb:∀ k,k<W.heap.size→W'.heap[k]? = W.heap[k]?) {base:Nat} {sp:Nat→Bool} {held:Bool}:∀ (fuel m:Nat) (t:TypeId) (cs:List Value) (x:DataW H×List MemPlace),QZ P m t=true →
 DataW.trod enc P W base (fun _=>true) held fuel t cs=some x→(∀ p∈x.2,sp p.block=true)→DataW.trod enc P W' base sp held fuel t cs=some x:=by
 intro fuel;induction fuel with
 | zero=>intro m t cs x _ h _;cases h
 | succ fuel ih =>
  intro m t cs x hp h hsp;cases m with
  | zero=>cases hp
  | succ m =>
  unfold QZ at hp;cases hu:P.underlying t with
  | none=>rw [hu] at hp;cases hp
  | some u =>
   rw [hu] at hp;cases u with
   | bool=>obtain ⟨b,rfl,rfl⟩:=DataW.trod_bool hu h;unfold DataW.trod;rw [hu]
   | int k =>
    obtain ⟨b,rfl,rfl,hwf⟩:=DataW.trod_int hu h;unfold DataW.trod;rw [hu];simp [hwf]
   | string =>
    obtain ⟨b,rfl,rfl,hs⟩:=DataW.trod_string hu h;unfold DataW.trod;rw [hu];simp [hs]
   | struct fs =>
    simp only [zA8,zC8] at hp;unfold DataW.trod at h ⊢;rw [hu] at h ⊢;simp only at h ⊢;split at h
    ·rename_i hc
     rw [if_pos hc];simp only [Option.map_eq_some_iff] at h ⊢;obtain ⟨xs,h1,rfl⟩:=h;refine ⟨xs,Jm h1 fun f y hf hy hq=>ih m _ _ _ (hp.1 f hf) hq fun p hp=>hsp p ?_,rfl⟩;simp only [zG9];exact ⟨y,hy,hp⟩
    ·cases h
   | array n e =>
    simp only [zA8] at hp;unfold DataW.trod at h ⊢;rw [hu] at h ⊢;simp only at h ⊢;split at h
    ·rename_i hc
     rw [if_pos hc];simp only [Option.map_eq_some_iff] at h ⊢;obtain ⟨xs,h1,rfl⟩:=h;refine ⟨xs,Jm h1 fun f y hf hy hq=>ih m _ _ _ hp.1 hq fun p hp=>hsp p ?_,rfl⟩;simp only [zG9];exact ⟨y,hy,hp⟩
    ·cases h
   | slice e =>
    simp only [zA8,zG3] at hp;have hz:P.cellsOf e≠0:=fun q=>by have:=hp.2.2;rw [q] at this;simp at this
    rcases DataW.trod_slice hu h with ⟨rfl,rfl⟩|⟨a,len,cap,-,-,-,-,rfl,-⟩
    ·unfold DataW.trod;rw [hu];rfl
    ·unfold DataW.trod at h ⊢;rw [hu] at h ⊢;simp only at h ⊢;split at h
     ·rename_i hc
      rw [if_pos hc];simp only [if_true,Option.map_eq_some_iff,Option.bind_eq_some_iff] at h ⊢;obtain ⟨elems,h1,rest,h2,rfl⟩:=h;have key:∀ i y,y∈elems ++ rest→(W.cells? base (a.add (i*P.cellsOf e)) (P.cellsOf e)).bind (DataW.trod enc P W base (fun _=>true) held fuel e)=some y →
       (W'.cells? base (a.add (i*P.cellsOf e)) (P.cellsOf e)).bind (DataW.trod enc P W' base sp held fuel e)=some y:=by
       intro i y hy hq;rw [Option.bind_eq_some_iff] at hq ⊢;obtain ⟨cs',q1,q2⟩:=hq;refine ⟨cs',qa6 hb q1,ih m _ _ _ hp.2.1 q2 fun p hp=>hsp p ?_⟩;simp only [zB8,zG9];exact .inr ⟨y,by simpa using hy,hp⟩
      refine ⟨elems,Jm h1 fun i y _ hy hq=>key i y (by simp [hy]) hq,rest,?_,rfl⟩;cases hs:sp a.block with
      | true =>
       simp only [if_true];exact Jm h2 fun i y _ hy hq=>key (len+i) y (by simp [hy]) hq
      | false =>
       simp only [zD9,if_false];cases rest with
       | nil=>rfl
       | cons y rest =>
        have hp':sp a.block=true:=by
         refine hsp (.cell a.block (a.off+0)) ?_;simp only [zB8];refine .inl ?_;unfold MemPlace.row;rw [zF1];exact ⟨0,zE3.2 (Nat.mul_pos (by simp only [zC4];omega) (by omega)),rfl⟩
        rw [hs] at hp';cases hp'
     ·cases h
   | _=>cases hp
theorem YI (hb:∀ k,k<W.heap.size→W'.heap[k]? = W.heap[k]?) {base:Nat} {sp:Nat→Bool} {held:Bool}:∀ (ts:List TypeId) (vs:List Value) (ds:List (DataW H)) (ps:List MemPlace),ts.all (QZ P 20)=true →
 DataW.TrodAll enc P W base (fun _=>true) held ts vs ds ps→(∀ p∈ps,sp p.block=true)→DataW.TrodAll enc P W' base sp held ts vs ds ps
 | [],[],[],ps,_,h,_=>h
 | t :: ts,v :: vs,d :: ds,ps,hp,h,hsp=>by
  simp only [List.all_cons,zA8] at hp;obtain ⟨p,q,⟨fuel,h1⟩,h2,rfl⟩:=h;exact ⟨p,q,⟨fuel,qb5 hb fuel 20 t _ _ hp.1 h1 fun x hx=>hsp x (by simp [hx])⟩,YI hb ts vs ds q hp.2 h2 fun x hx=>hsp x (by simp [hx]),rfl⟩
 | [],[],_ :: _,_,_,h,_=>h.elim
 | [],_ :: _,_,_,_,h,_=>h.elim
 | _ :: _,[],_,_,_,h,_=>h.elim
 | _ :: _,_ :: _,[],_,_,h,_=>h.elim
end
end Go.Proofs.Xx
namespace Go.Proofs.Xx
open Go Go.RowKit
section
variable {P:Program}
theorem Rel.qbU [Glob] {B:Bs} {e:Emb} {h:AH} {w:World} (r:Rel B e h w) {k sh:Nat} {cc:Array Value} {el:TypeId} {fr:Nat×Nat} {c:List Value} (hkB:k<B.lo) (hk:w.heap[k]? = some (.cells cc el fr)) (hsz:sh+c.length≤cc.size)
 (hc:∀ i v,c[i]? = some v→∃ v',cc[sh+i]? = some v'∧VR (e.put h.next ⟨k,sh,0⟩) v v') :
 Rel B (e.put h.next ⟨k,sh,0⟩) (h.add (.cells c el none true)) w∧e.le (e.put h.next ⟨k,sh,0⟩):=by
 have hle:=r.QL ⟨k,sh,0⟩;have hlt:k<w.heap.size:=(zB9.1 hk).1;refine ⟨⟨fun b M q=>?_,fun b hb=>?_,fun b M q=>?_,fun b M p q1 q2=>?_,fun b M p b' M' p' e1 e2 e3 e4 e5 e6 e7=>?_,fun b M p q1 q2 q3=>?_,r.base,r.keep,r.glob⟩,hle⟩
 ·by_cases hb:b=h.next
  ·subst hb;exact zG0 _
  ·rw [Emb.qZ _ _ hb] at q;exact Nat.lt_succ_of_lt (r.dom b M q)
 ·have hb':h.next+1≤b:=hb
  rw [AH.qW,if_neg (by omega)];exact r.wf b (by omega)
 ·by_cases hb:b=h.next
  ·subst hb;rw [Emb.qL] at q;cases q;exact hlt
  ·rw [Emb.qZ _ _ hb] at q;exact r.rng b M q
 ·rw [AH.qW] at q2;by_cases hb:b=h.next
  ·subst hb;rw [Emb.qL] at q1;cases q1;rw [if_pos rfl] at q2;cases q2
   exact ⟨cc,fr,hk,hsz,hc,(fun _=>⟨rfl,fun q=>by cases q⟩),(fun _ q=>by cases q),(fun q=>by cases q)⟩
  ·rw [Emb.qZ _ _ hb] at q1;rw [if_neg hb] at q2;exact (r.obj b M p q1 q2).mono hle
 ·rw [AH.qW] at e2 e4;by_cases hb':b'=h.next
  ·subst hb';rw [if_pos rfl] at e4;cases e4;cases e7
  ·rw [Emb.qZ _ _ hb'] at e3;rw [if_neg hb'] at e4;by_cases hb:b=h.next
   ·subst hb;rw [Emb.qL] at e1;cases e1
    rw [if_pos rfl] at e2;cases e2
    have:=r.own b' M' p' e3 e4 e7;simp only at e5;omega
   ·rw [Emb.qZ _ _ hb] at e1;rw [if_neg hb] at e2;exact r.inj b M p b' M' p' e1 e2 e3 e4 e5 e6 e7
 ·rw [AH.qW] at q2;by_cases hb:b=h.next
  ·subst hb;rw [if_pos rfl] at q2;cases q2;cases q3
  ·rw [Emb.qZ _ _ hb] at q1;rw [if_neg hb] at q2;exact r.own b M p q1 q2 q3
def Bs.of (w:World):Bs:=⟨w.heap.size,w.heap⟩
def RoH (h:AH):Prop:=∀ b o,h.get b=some o→Jc o=false
structure WRel [Glob] (w:World) (e:Emb) (h:AH):Prop where
 rel:Rel (Bs.of w) e h w
 ro:RoH h
theorem WRel.empty [Glob] {w:World} (hg:Glob.ok w.heap.size w.heap):WRel w (fun _=>none) ⟨.e,0,0⟩ :=
 ⟨⟨fun b L q=>(by cases q),fun b _=>Tr.kF b,fun b L q=>(by cases q),fun b L o q=>(by cases q),fun b L o b' L' o' q=>(by cases q),fun b L o q=>(by cases q),zA3 _,fun _ _=>rfl,hg⟩,
  fun b o q=>by rw [show (⟨.e,0,0⟩:AH).get b=none from Tr.kF b] at q;cases q⟩
theorem WRel.wfH [Glob] {w:World} {e:Emb} {h:AH} (r:WRel w e h):WfH h:=r.rel.wf
theorem WRel.qbU [Glob] {e:Emb} {h:AH} {w:World} (r:WRel w e h) {k sh:Nat} {cc:Array Value} {el:TypeId} {fr:Nat×Nat} {c:List Value} (hk:w.heap[k]? = some (.cells cc el fr)) (hsz:sh+c.length≤cc.size)
 (hc:∀ i v,c[i]? = some v→∃ v',cc[sh+i]? = some v'∧VR e v v') :
 ∃ e',WRel w e' (h.add (.cells c el none true))∧e.le e'∧Ext h (h.add (.cells c el none true))∧e' h.next=some ⟨k,sh,0⟩:=by
 have hle:=r.rel.QL ⟨k,sh,0⟩;obtain ⟨r1,r2⟩:=Rel.qbU (sh:=sh) (c:=c) r.rel (show k<w.heap.size from (zB9.1 hk).1) hk hsz (fun i v hi=>by obtain ⟨v',h1,h2⟩:=hc i v hi;exact ⟨v',h1,h2.mono hle⟩);refine ⟨_,⟨r1,fun b o q=>?_⟩,r2,(Ext.refl r.wfH).add _,Emb.qL _ _ _⟩;rw [AH.qW] at q;split at q
 ·cases q;rfl
 ·exact r.ro b o q
def AR (P:Program) (h:AH):Nat→TypeId→List Value→Prop
 | 0,_,_=>False
 | f+1,t,cs =>
  match P.underlying t,cs with
  | some .bool,[.bool _]=>True
  | some (.int k),[.int k' n]=>k'=k∧(Lit.int k n).wf=true
  | some .string,[.string s]=>s.size≤maxLen
  | some (.slice e),[v]=>∃ n c,Rd h v (P.cellsOf e) n c∧(n≤maxLen∧n*P.bytesOf e≤reachBytes)∧Qn v∧∀ i,i<n→AR P h f e ((c.drop (i*P.cellsOf e)).take (P.cellsOf e))
  | some (.struct fs),cs=>cs.length=P.cellsOf t∧∀ fd∈fs.toList,AR P h f fd.type ((cs.drop fd.offset).take (P.cellsOf fd.type))
  | some (.array n e),cs=>cs.length=P.cellsOf t∧∀ i,i<n→AR P h f e ((cs.drop (i*P.cellsOf e)).take (P.cellsOf e))
  | _,_=>False
theorem AR.ext {h h':AH} (w:WfH h) (x:Ext h h'):∀ (f:Nat) (t:TypeId) (cs:List Value),AR P h f t cs→AR P h' f t cs
 | 0,_,_,q=>q
 | f+1,t,cs,q=>by
  unfold AR at q ⊢;split at q
  ·exact q
  ·exact q
  ·exact q
  ·obtain ⟨n,c,h1,h2,hc,h3⟩:=q;exact ⟨n,c,h1.ext w x,h2,hc,fun i hi=>AR.ext w x f _ _ (h3 i hi)⟩
  ·exact ⟨q.1,fun fd hf=>AR.ext w x f _ _ (q.2 fd hf)⟩
  ·exact ⟨q.1,fun i hi=>AR.ext w x f _ _ (q.2 i hi)⟩
  ·exact q
section
variable {H:Type} {enc:TypeId×Value→H}
def Light (P:Program) (t:TypeId) (d:DataW H):Prop:=∀ n∈DataW.weights P t d,n≤reachBytes
theorem JV:∀ (ts:List TypeId) (ds:List (DataW H)) (j:Nat) (t:TypeId) (d:DataW H),ts[j]? = some t→ds[j]? = some d→∀ n∈DataW.weights P t d,n∈DataW.weightsEach P ts ds
 | [],_,_,_,_,q,_=>by simp at q
 | _ :: _,[],_,_,_,_,q=>by simp at q
 | t :: ts,d :: ds,0,_,_,q1,q2=>by
  simp only [List.getElem?_cons_zero,Option.some.injEq] at q1 q2;subst q1;subst q2;intro n hn;rw [DataW.weightsEach];exact List.mem_append_left _ hn
 | t :: ts,d :: ds,j+1,_,_,q1,q2=>by
  intro n hn;rw [DataW.weightsEach];exact List.mem_append_right _ (JV ts ds j _ _ (by simpa using q1) (by simpa using q2) n hn)
theorem weightsAll_mem (e:TypeId):∀ (ds:List (DataW H)) (j:Nat) (d:DataW H),ds[j]? = some d→∀ n∈DataW.weights P e d,n∈DataW.weightsAll P e ds
 | [],_,_,q=>by simp at q
 | d :: ds,0,_,q=>by
  simp only [List.getElem?_cons_zero,Option.some.injEq] at q;subst q;intro n hn;rw [DataW.weightsAll];exact List.mem_append_left _ hn
 | d :: ds,j+1,_,q=>by
  intro n hn;rw [DataW.weightsAll];exact List.mem_append_right _ (weightsAll_mem e ds j _ (by simpa using q) n hn)
theorem Light.field {t:TypeId} {fs:Array Field} {ds:List (DataW H)} (hu:P.underlying t=some (.struct fs)) (hl:Light P t (.agg ds)) {i:Nat} {f:Field} {d:DataW H} (hf:fs[i]? = some f) (hd:ds[i]? = some d):Light P f.type d:=fun n hn=>by
 refine hl n ?_;rw [DataW.weights,hu];exact JV _ _ i _ _ (by simp [hf]) hd n hn
theorem Light.item {t e:TypeId} {k:Nat} {ds:List (DataW H)} (hu:P.underlying t=some (.array k e)) (hl:Light P t (.agg ds)) {i:Nat} {d:DataW H} (hd:ds[i]? = some d):Light P e d:=fun n hn=>by
 refine hl n ?_;rw [DataW.weights,hu];exact weightsAll_mem e _ i _ hd n hn
theorem Light.elem {t e:TypeId} {ds rs:List (DataW H)} (hu:P.underlying t=some (.slice e)) (hl:Light P t (.slice ds rs)) {i:Nat} {d:DataW H} (hd:ds[i]? = some d):Light P e d:=fun n hn=>by
 refine hl n ?_;rw [DataW.weights,hu];exact List.mem_cons_of_mem _ (List.mem_append_left _ (weightsAll_mem e _ i _ hd n hn))
theorem Light.slice {t e:TypeId} {ds rs:List (DataW H)} (hu:P.underlying t=some (.slice e)) (hl:Light P t (.slice ds rs)):ds.length*P.bytesOf e≤reachBytes:=by
 have h1:=hl ((ds.length+rs.length)*P.bytesOf e) (by rw [DataW.weights,hu];exact List.mem_cons_self);exact zD0 (zD3 _ (Nat.le_add_right _ _)) h1
theorem GZ:∀ (fs:List Field) (a n:Nat),wC P fs a n=true→a≤n
 | [],a,n,h=>by have:=zA6 h;omega
 | f :: r,a,n,h=>by
  simp only [wC,zA8] at h;have:=GZ r _ n h.2;omega
def qeL [Glob] (enc:TypeId×Value→H) (P:Program) (w:World) (base:Nat) (sp:Nat→Bool) (held:Bool) (n:Nat) (t:TypeId) (cs:List Value):Prop:=∀ e h,WRel w e h→∃ e' h' r,WRel w e' h'∧e.le e'∧Ext h h'∧VRs e' r cs∧AR P h' n t r
theorem Wv [Glob] {w:World} {base n:Nat} {sp:Nat→Bool} {held:Bool} {cs:List Value}:∀ (fs:List Field) (a:Nat),wC P fs a cs.length=true →
 (∀ fd∈fs,qeL enc P w base sp held n fd.type ((cs.drop fd.offset).take (P.cellsOf fd.type)))→∀ e h,WRel w e h →
 ∃ e' h' r,WRel w e' h'∧e.le e'∧Ext h h'∧VRs e' r (cs.drop a)∧∀ fd∈fs,a≤fd.offset∧AR P h' n fd.type ((r.drop (fd.offset - a)).take (P.cellsOf fd.type))
 | [],a,ht,_,e,h,r=>by
  have:=zA6 ht;exact ⟨e,h,[],r,e.le_refl,Ext.refl r.wfH,by rw [this,List.drop_length];exact .nil,fun fd q=>by cases q⟩
 | f :: fs,a,ht,hk,e,h,r=>by
  simp only [wC,zA8] at ht;have hoff:=zA6 ht.1;have hle:=GZ fs _ _ ht.2;obtain ⟨e1,h1,c1,r1,l1,x1,v1,a1⟩:=hk f (by simp) e h r;obtain ⟨e2,h2,c2,r2,l2,x2,v2,a2⟩:=Wv fs _ ht.2 (fun fd q=>hk fd (by simp [q])) e1 h1 r1;have hc1:c1.length=P.cellsOf f.type:=by
   have:=v1.length;rw [zA9,zB4,hoff] at this;omega
  refine ⟨e2,h2,c1 ++ c2,r2,Emb.le_trans l1 l2,x1.trans x2,?_,?_⟩
  ·have:=(v1.mono l2).append v2;rw [hoff,← List.drop_drop,zH0] at this;exact this
  ·intro fd q;rcases zE8.1 q with rfl|q
   ·refine ⟨by omega,?_⟩;rw [hoff,zG6,List.drop_zero,List.take_append_of_le_length (by omega),zF8 (by omega)];exact a1.ext r1.wfH x2 _ _ _
   ·obtain ⟨q1,q2⟩:=a2 fd q;refine ⟨by omega,?_⟩;rw [show fd.offset - a=c1.length+(fd.offset - (a+P.cellsOf f.type)) by omega,← List.drop_drop,List.drop_left];exact q2
theorem yF [Glob] {w:World} {base n:Nat} {sp:Nat→Bool} {held:Bool} {ty:TypeId} {z:Nat} {cs:List Value}:∀ (k:Nat),k*z≤cs.length →
 (∀ i,i<k→qeL enc P w base sp held n ty ((cs.drop (i*z)).take z))→∀ e h,WRel w e h →
 ∃ e' h' r,WRel w e' h'∧e.le e'∧Ext h h'∧VRs e' r (cs.take (k*z))∧∀ i,i<k→AR P h' n ty ((r.drop (i*z)).take z)
 | 0,_,_,e,h,r=>⟨e,h,[],r,e.le_refl,Ext.refl r.wfH,by simp;exact .nil,fun i q=>by omega⟩
 | k+1,hk,ht,e,h,r=>by
  rw [zE1,Nat.one_mul] at hk;obtain ⟨e1,h1,c1,r1,l1,x1,v1,a1⟩:=yF k (by omega) (fun i q=>ht i (by omega)) e h r;obtain ⟨e2,h2,c2,r2,l2,x2,v2,a2⟩:=ht k (by omega) e1 h1 r1;have hc1:c1.length=k*z:=by
   have:=v1.length;rw [zA9] at this;omega
  have hc2:c2.length=z:=by
   have:=v2.length;rw [zA9,zB4] at this;omega
  refine ⟨e2,h2,c1 ++ c2,r2,Emb.le_trans l1 l2,x1.trans x2,?_,fun i hi=>?_⟩
  ·have:=(v1.mono l2).append v2;rw [zE1,Nat.one_mul,List.take_add];exact this
  ·by_cases hik:i<k
   ·have:(i+1)*z≤k*z:=zD3 z hik;rw [zE1,Nat.one_mul] at this;rw [List.drop_append_of_le_length (by omega),List.take_append_of_le_length (by rw [zB4];omega)];exact (a1 i hik).ext r1.wfH x2 _ _ _
   ·obtain rfl:i=k:=by omega
    rw [← hc1,List.drop_left,zF8 (by omega)];exact a2
theorem embed [Glob] {w:World} {base:Nat} {sp:Nat→Bool} (hsp:∀ b,sp b=true) {held:Bool} (hw:∃ (k:Nat) (cc:Array Value) (el:TypeId) (fr:Nat×Nat),w.heap[k]? = some (.cells cc el fr)):∀ (n m:Nat) (t:TypeId) (cs:List Value) (x:DataW H×List MemPlace),QZ P m t=true →
 DataW.trod enc P w base sp held n t cs=some x→Light P t x.1→qeL enc P w base sp held n t cs
 | 0,_,_,_,_,_,h,_=>by simp [DataW.trod] at h
 | _+1,0,_,_,_,h,_,_=>by cases h
 | n+1,m+1,t,cs,x,hp,h,hlt=>by
  intro e h0 r;unfold QZ at hp;cases hu:P.underlying t with
  | none=>rw [hu] at hp;cases hp
  | some u =>
   rw [hu] at hp;cases u with
   | bool =>
    obtain ⟨b,rfl,-⟩:=DataW.trod_bool hu h;exact ⟨e,h0,[.bool b],r,e.le_refl,Ext.refl r.wfH,.one (.bool b),by unfold AR;rw [hu];trivial⟩
   | int k =>
    obtain ⟨b,rfl,-,hwf⟩:=DataW.trod_int hu h;exact ⟨e,h0,[.int k b],r,e.le_refl,Ext.refl r.wfH,.one (.int k b),by unfold AR;rw [hu];exact ⟨rfl,hwf⟩⟩
   | string =>
    obtain ⟨s,rfl,-,hs⟩:=DataW.trod_string hu h;exact ⟨e,h0,[.string s],r,e.le_refl,Ext.refl r.wfH,.one (.string s),by unfold AR;rw [hu];exact hs⟩
   | struct fs =>
    simp only [zA8,zC8] at hp;obtain ⟨xs,n',hn,hxe,hlen,hxl,hf⟩:=DataW.trod_struct hu h;rw [hxe] at hlt;obtain rfl:n'=n:=by omega
    obtain ⟨e1,h1,c1,r1,l1,x1,v1,a1⟩:=Wv fs.toList 0 (by rw [hlen];exact hp.2) (fun fd hfd=>by
     obtain ⟨i,hi,rfl⟩:=List.getElem_of_mem hfd;have hg:fs[i]? = some fs.toList[i]:=by rw [← zC1];exact zA4 hi
     have h2:=hf i _ hg;have hix:i<xs.length:=by rw [hxl];simpa using hi
     rw [zA4 hix] at h2;exact embed hsp hw n' m _ _ _ (hp.1 _ (List.getElem_mem hi)) h2 (hlt.field hu hg (by rw [zH8,zA4 hix];rfl))) e h0 r
    refine ⟨e1,h1,c1,r1,l1,x1,by simpa using v1,?_⟩;unfold AR;rw [hu];have hl1:=v1.length;simp only [List.drop_zero] at hl1;exact ⟨by omega,fun fd hfd=>by have:=(a1 fd hfd).2;simpa using this⟩
   | array k el =>
    simp only [zA8] at hp;have hsz:=zA6 hp.2;obtain ⟨xs,n',hn,hxe,hlen,hxl,hf⟩:=DataW.trod_array hu h;rw [hxe] at hlt;obtain rfl:n'=n:=by omega
    obtain ⟨e1,h1,c1,r1,l1,x1,v1,a1⟩:=yF (z:=P.cellsOf el) (ty:=el) (cs:=cs) k (by omega) (fun i hi=>by
     have h2:=hf i hi;have hix:i<xs.length:=by omega
     rw [zA4 hix] at h2;exact embed hsp hw n' m _ _ _ hp.1 h2 (hlt.item hu (by rw [zH8,zA4 hix];rfl))) e h0 r
    rw [zF8 (by omega)] at v1;refine ⟨e1,h1,c1,r1,l1,x1,v1,?_⟩;unfold AR;rw [hu];exact ⟨by have:=v1.length;omega,a1⟩
   | slice el =>
    simp only [zA8,zG3] at hp;have hz:P.cellsOf el≠0:=fun q=>by have:=hp.2.2;rw [q] at this;simp at this
    rcases DataW.trod_slice hu h with ⟨rfl,-⟩|⟨a,len,cap,elems,rest,n',hn,rfl,hxe,hb,hl,hm,hlen,hel,hrest,-⟩
    ·refine ⟨e,h0,[.slice none 0 0],r,e.le_refl,Ext.refl r.wfH,.one .nilSlice,?_⟩;unfold AR;rw [hu];exact ⟨0,[],Rd.none_ _ _,⟨zB0 _,by rw [Nat.zero_mul];exact zB0 _⟩,zA3 _,fun i hi=>by omega⟩
    ·obtain rfl:n'=n:=by omega
     rw [hxe] at hlt;have hwt:len*P.bytesOf el≤reachBytes:=by have:=hlt.slice hu;rwa [zC5,hlen] at this
     obtain ⟨hr1,hr2⟩:=hrest (hsp _);rcases zF4 cap with hc0|hc0
     ·subst hc0;obtain rfl:len=0:=by omega
      obtain ⟨k,cc,el0,fr,hk⟩:=hw;obtain ⟨e1,r1,l1,x1,q1⟩:=r.qbU (sh:=0) (c:=[]) hk (by simp) (fun i v hi=>by simp at hi);refine ⟨e1,_,[.slice (some ⟨h0.next,0,none⟩) 0 0],r1,l1,x1,.one (.slice h0.next 0 a 0 0 ⟨k,0,0⟩ q1 (zA3 _) (.inr ⟨rfl,rfl⟩)),?_⟩;unfold AR;rw [hu];exact ⟨0,[],.inr ⟨h0.next,0,0,[],el0,none,true,rfl,by rw [AH.qW,if_pos rfl],by simp [zn]⟩,⟨zB0 _,by rw [Nat.zero_mul];exact zB0 _⟩,zA3 _,fun i hi=>by omega⟩
     ·
      have hfirst:∃ cs0 y,w.cells? base a (P.cellsOf el)=some cs0∧DataW.trod enc P w base sp held n' el cs0=some y:=by
       rcases zF4 len with h0'|h0'
       ·have h2:=hr2 0 (by omega);have hix:0<rest.length:=by omega
        rw [zA4 hix,h0',Option.bind_eq_some_iff] at h2;obtain ⟨cs0,q1,q2⟩:=h2;exact ⟨cs0,_,by simpa [Addr.add] using q1,q2⟩
       ·have h2:=hel 0 h0';have hix:0<elems.length:=by omega
        rw [zA4 hix,Option.bind_eq_some_iff] at h2;obtain ⟨cs0,q1,q2⟩:=h2;exact ⟨cs0,_,by simpa [Addr.add] using q1,q2⟩
      obtain ⟨cs0,y0,g1,-⟩:=hfirst;obtain ⟨-,g2,g3⟩:=World.cells?_some g1;have g4:=g3 0 (by omega);rw [zA4 (by omega)] at g4;obtain ⟨ab,ao,asp⟩:=a;simp only [Addr.add,if_true] at g4;unfold World.cell? at g4;simp only at g4;cases hblk:w.heap[ab]? with
      | none=>rw [hblk] at g4;cases g4
      | some ob =>
       rw [hblk] at g4;cases ob with
       | cells cc el0 fr =>
        simp only at g4;cases asp with
        | some s=>simp at g4
        | none =>
         simp only [Option.isSome_none,zD9,if_false] at g4;have hao:ao<cc.size:=(zB9.1 g4).1;have hcell:∀ (i:Nat) (v:Value),w.cell? ⟨ab,ao+i,none⟩=some v↔cc[ao+i]? = some v:=fun i v=>by
          unfold World.cell?;simp [hblk]
         have helem:∀ i,i<len→∃ y,DataW.trod enc P w base sp held n' el (((cc.toList.drop ao).drop (i*P.cellsOf el)).take (P.cellsOf el))=some y∧Light P el y.1∧ao+i*P.cellsOf el+P.cellsOf el≤cc.size:=by
          intro i hi;have h2:=hel i hi;have hix:i<elems.length:=by omega
          rw [zA4 hix,Option.bind_eq_some_iff] at h2;obtain ⟨ci,q1,q2⟩:=h2;obtain ⟨-,q3,q4⟩:=World.cells?_some q1;have hadd:∀ j,((⟨ab,ao,none⟩:Addr).add (i*P.cellsOf el)).add j=⟨ab,ao+(i*P.cellsOf el+j),none⟩:=fun j=>by rw [jI,jI,zF7]
          have hlast:ao+i*P.cellsOf el+P.cellsOf el≤cc.size:=by
           have q5:=q4 (P.cellsOf el - 1) (by omega);rw [zA4 (by omega),hadd,hcell] at q5;have:=(zB9.1 q5).1;omega
          refine ⟨elems[i],?_,hlt.elem hu (i:=i) (by rw [zH8,zA4 hix];rfl),hlast⟩;rw [← q2];congr 1
          refine List.ext_getElem? fun j=>?_;by_cases hj:j<P.cellsOf el
          ·rw [zC7,if_pos hj,zC3,zC3];have q5:=q4 j hj;have e2:ci[j]? = some (ci[j]'(by omega)):=zA4 (by omega);rw [e2,hadd,hcell] at q5;rw [e2,zC1];exact q5
          ·rw [zG5 (by rw [zA9];omega),zG5 (by omega)]
         have hfit:ao+len*P.cellsOf el≤cc.size:=by
          rcases zF4 len with h0'|h0'
          ·rw [h0',Nat.zero_mul];omega
          ·obtain ⟨-,-,-,q⟩:=helem (len - 1) (by omega);have:(len - 1)*P.cellsOf el+P.cellsOf el=len*P.cellsOf el:=by
            rw [← Nat.succ_mul];congr 1;omega
           omega
         obtain ⟨e1,h1,c1,r1,l1,x1,v1,a1⟩:=yF (z:=P.cellsOf el) (ty:=el) (cs:=cc.toList.drop ao) len (by simp;omega) (fun i hi=>by
          obtain ⟨y,q1,q2,-⟩:=helem i hi;exact embed hsp hw n' m _ _ _ hp.2.1 q1 q2) e h0 r
         have hc1:c1.length=len*P.cellsOf el:=by
          have:=v1.length;rw [zA9,zB4,zC2] at this;omega
         obtain ⟨e2,r2,l2,x2,q2⟩:=r1.qbU (sh:=ao) (c:=c1) hblk (by omega) (fun i v hi=>by
          obtain ⟨v',q1,q2⟩:=v1.get i v hi;refine ⟨v',?_,q2⟩;rw [zC7,zC3,zC1] at q1;split at q1
          ·exact q1
          ·cases q1)
         refine ⟨e2,_,[.slice (some ⟨h1.next,0,none⟩) len cap],r2,Emb.le_trans l1 l2,x1.trans x2,.one (.slice h1.next 0 ⟨ab,ao,none⟩ len cap ⟨ab,ao,0⟩ q2 hl (.inl rfl)),?_⟩;unfold AR;rw [hu];refine ⟨len,c1,.inr ⟨h1.next,0,cap,c1,el0,none,true,rfl,by rw [AH.qW,if_pos rfl],by rw [← hc1];exact jf c1⟩,⟨by omega,hwt⟩,hl,fun i hi=>(a1 i hi).ext r1.wfH x2 _ _ _⟩
       | _=>cases g4
   | _=>cases hp
end
end
end Go.Proofs.Xx
namespace Go.Proofs.Xx
open Go Go.RowKit Go.WideShapes Go.ChangeShapes
theorem VRs.WX {e:Emb} {r:List Value} {v:Value} (h:VRs e r [v]):∃ u,r=[u]∧VR e u v:=by
 cases h with
 | cons u v' s s' h1 h2=>cases h2;exact ⟨u,rfl,h1⟩
section
variable {P:Program}
def qeG (P:Program) (t:TypeId) (r:List Value):Value :=
 match P.underlying t with
 | some (.struct _)|some (.array _ _)=>.agg r.toArray
 | _=>r.headD .nilFunc
theorem qfL {w:World} {rc:Reach} {b0 m:Nat} {t:TypeId} {v:Value} {e:Emb} {r:List Value} (hp:QZ P m t=true) (hval:Value.okWide P w rc b0 t v) (hv:VRs e r v.cells.toList):VR e (qeG P t r) v:=by
 cases m with
 | zero=>cases hp
 | succ m =>
  unfold QZ at hp;unfold qeG;unfold Value.okWide at hval;cases hu:P.underlying t with
  | none=>rw [hu] at hp;cases hp
  | some u =>
   rw [hu] at hp hval;cases u with
   | struct fs =>
    obtain ⟨cs,rfl,-⟩:=hval;exact VR.agg (f:=e) r cs.toList (by simpa [Value.cells] using hv)
   | array n el =>
    obtain ⟨cs,rfl,-⟩:=hval;exact VR.agg (f:=e) r cs.toList (by simpa [Value.cells] using hv)
   | bool =>
    have:∃ b,v = .bool b:=by cases v<;>simp_all [Cell.okWide,Cell.ok]
    obtain ⟨b,rfl⟩:=this;obtain ⟨x,rfl,h1⟩:=VRs.WX (show VRs e r [.bool b] from hv);exact h1
   | int k =>
    have:∃ k' b,v = .int k' b:=by cases v<;>simp_all [Cell.okWide,Cell.ok]
    obtain ⟨k',b,rfl⟩:=this;obtain ⟨x,rfl,h1⟩:=VRs.WX (show VRs e r [.int k' b] from hv);exact h1
   | string =>
    have:∃ b,v = .string b:=by cases v<;>simp_all [Cell.okWide,Cell.ok]
    obtain ⟨b,rfl⟩:=this;obtain ⟨x,rfl,h1⟩:=VRs.WX (show VRs e r [.string b] from hv);exact h1
   | slice el =>
    have:∃ a l c,v = .slice a l c:=by cases v<;>simp_all [Cell.okWide,Cell.ok]
    obtain ⟨a,l,c,rfl⟩:=this;obtain ⟨x,rfl,h1⟩:=VRs.WX (show VRs e r [.slice a l c] from hv);exact h1
   | _=>cases hp
def ArgsR (P:Program) (h:AH):List TypeId→List Value→Prop
 | [],[]=>True
 | t :: ts,u :: us=>(∃ n r,AR P h n t r∧u=qeG P t r)∧ArgsR P h ts us
 | _,_=>False
theorem ArgsR.ext {h h':AH} (w:WfH h) (x:Ext h h'):∀ (ts:List TypeId) (us:List Value),ArgsR P h ts us→ArgsR P h' ts us
 | [],[],q=>q
 | t :: ts,u :: us,q=>⟨let ⟨n,r,h1,h2⟩:=q.1;⟨n,r,h1.ext w x _ _ _,h2⟩,ArgsR.ext w x ts us q.2⟩
 | [],_ :: _,q=>q.elim
 | _ :: _,[],q=>q.elim
theorem ArgsR.cons_inv {h:AH} {t:TypeId} {ts:List TypeId} {us:List Value} (a:ArgsR P h (t :: ts) us):∃ n r us',us=qeG P t r :: us'∧AR P h n t r∧ArgsR P h ts us':=by
 cases us with
 | nil=>exact a.elim
 | cons u us =>
  obtain ⟨⟨n,r,h1,rfl⟩,h2⟩:=a;exact ⟨n,r,us,rfl,h1,h2⟩
theorem ArgsR.jB {h:AH} {us:List Value} (a:ArgsR P h [] us):us=[]:=by
 cases us with
 | nil=>rfl
 | cons u us=>exact a.elim
section
variable {H:Type} {enc:TypeId×Value→H}
theorem kL [Glob] {w:World} {rc:Reach} {b0 base:Nat} {held:Bool} (hw:∃ (k:Nat) (cc:Array Value) (el:TypeId) (fr:Nat×Nat),w.heap[k]? = some (.cells cc el fr)):∀ (ts:List TypeId) (vs:List Value) (ds:List (DataW H)) (ps:List MemPlace),
 ts.all (QZ P 20)=true→(∀ (j:Nat) t v,ts[j]? = some t→vs[j]? = some v→Value.okWide P w rc b0 t v)→DataW.TrodAll enc P w base (fun _=>true) held ts vs ds ps→(∀ n∈DataW.weightsEach P ts ds,n≤reachBytes)→∀ e h,WRel w e h →
 ∃ e' h' us,WRel w e' h'∧e.le e'∧Ext h h'∧VRs e' us vs∧ArgsR P h' ts us
 | [],[],[],_,_,_,_,_,e,h,r=>⟨e,h,[],r,e.le_refl,Ext.refl r.wfH,.nil,trivial⟩
 | t :: ts,v :: vs,d :: ds,ps,hp,hval,hA,hz,e,h,r=>by
  rw [DataW.weightsEach] at hz;simp only [List.all_cons,zA8] at hp;obtain ⟨p,q,⟨fuel,h1⟩,h2,rfl⟩:=hA;obtain ⟨e1,g1,r1,w1,l1,x1,v1,a1⟩:=embed (fun _=>rfl) hw fuel 20 t _ _ hp.1 h1 (fun n hn=>hz n (List.mem_append_left _ hn)) e h r;obtain ⟨e2,g2,us,w2,l2,x2,v2,a2⟩:=kL hw ts vs ds q hp.2 (fun j t v q1 q2=>hval (j+1) t v (by simpa using q1) (by simpa using q2)) h2 (fun n hn=>hz n (List.mem_append_right _ hn)) e1 g1 w1;exact ⟨e2,g2,qeG P t r1 :: us,w2,Emb.le_trans l1 l2,x1.trans x2,.cons _ _ _ _ (qfL hp.1 (hval 0 t v rfl rfl) (v1.mono l2)) v2,⟨fuel,r1,a1.ext w1.wfH x2 _ _ _,rfl⟩,a2⟩
 | [],[],_ :: _,_,_,_,h,_,_,_,_=>h.elim
 | [],_ :: _,_,_,_,_,h,_,_,_,_=>h.elim
 | _ :: _,[],_,_,_,_,h,_,_,_,_=>h.elim
 | _ :: _,_ :: _,[],_,_,_,h,_,_,_,_=>h.elim
theorem wZ:∀ {ts us:List TypeId} {ds gs:List (DataW H)},(DataW.weightsEach P (ts ++ us) (ds ++ gs)).all (·≤reachBytes)=true→∀ n∈DataW.weightsEach P ts ds,n≤reachBytes
 | [],_,_,_,_=>fun n hn=>by simp [DataW.weightsEach] at hn
 | _ :: _,_,[],_,_=>fun n hn=>by simp [DataW.weightsEach] at hn
 | t :: ts,us,d :: ds,gs,hz=>fun n hn=>by
  rw [zC6,zC6,DataW.weightsEach,List.all_append,zA8] at hz;rw [DataW.weightsEach] at hn;rcases zB8.1 hn with q|q
  ·exact of_decide_eq_true (zC8.1 hz.1 n q)
  ·exact wZ hz.2 n q
theorem qcF [Glob] {X:Extern} (hm:P.follows .mixedOrders=true) (hX:Yf P X) (hN:∀ (f:FuncId) (fn:Func),P.funcs[f]? = some fn→fn.body.isSome=true→(fn.name == "runtime.NumGoroutine")=false)
 {f:FuncId} {fn:Func} {body:Code} (hfn:P.funcs[f]? = some fn) (hb:fn.body=some body) (hXn:∀ us h,X f us h=none) (hpl:fn.params.toList.all (QZ P 20)=true)
 (core:∀ h us,WfH h→ArgsR P h fn.params.toList us→Fn P X f us h (fun x _=>x = .bool true))
 {w:World} {rc:Reach} {b0:Nat} {args:Array Value} {ds:List (DataW H)} {ps:List MemPlace} (hg:Glob.ok w.heap.size w.heap) (hw:∃ (k:Nat) (cc:Array Value) (el:TypeId) (fr:Nat×Nat),w.heap[k]? = some (.cells cc el fr))
 (hval:∀ (j:Nat) t v,fn.params[j]? = some t→args[j]? = some v→Value.okWide P w rc b0 t v) (hA:DataW.TrodAll enc P w 0 (fun _=>true) true fn.params.toList args.toList ds ps) (hz:∀ n∈DataW.weightsEach P fn.params.toList ds,n≤reachBytes) :
 Calls P f args w fun e w'=>e = .returned (.bool true)∧Below w.heap.size w w':=by
 obtain ⟨e,h,us,r,-,-,v1,a1⟩:=kL (P:=P) hw fn.params.toList args.toList ds ps hpl (fun j t v q1 q2=>hval j t v (by simpa using q1) (by simpa using q2)) hA hz _ _ (WRel.empty hg);obtain ⟨n,v,h',hc,rfl⟩:=core h us r.wfH a1;obtain ⟨e',v',w',r1,t1,hv,hcalls⟩:=PY (JO hm hX hN n) hc (hXn us h) hfn hb r.rel v1;cases hv
 rw [Array.toArray_toList] at hcalls;refine hcalls.mono fun en w'' ⟨q1,q2⟩=>?_;subst q2;exact ⟨q1,t1.os,t1.tape,t1.output,t1.size,fun k hk=>r1.keep k hk⟩
end
end
end Go.Proofs.Xx
namespace Go.Proofs.Xx
open Go Go.RowKit Go.WideShapes Go.ChangeShapes
section
variable {H:Type} {enc:TypeId×Value→H} {P:Program}
theorem trodAll_length {W:World} {base:Nat} {sp:Nat→Bool} {held:Bool}:∀ {ts:List TypeId} {vs:List Value} {ds:List (DataW H)} {ps:List MemPlace},DataW.TrodAll enc P W base sp held ts vs ds ps→ds.length=ts.length
 | [],[],[],_,_=>rfl
 | t :: ts,v :: vs,d :: ds,ps,h=>by
  obtain ⟨p,q,_,h2,_⟩:=h;simp [trodAll_length h2]
 | [],[],_ :: _,_,h=>h.elim
 | [],_ :: _,_,_,h=>h.elim
 | _ :: _,[],_,_,h=>h.elim
 | _ :: _,_ :: _,[],_,h=>h.elim
theorem vS {f:Func} {s:ChangeSpec} {apart fresh handsOn again:Bool} {W W':World} {args:Array Value} {v:Value} {ds gs:List (DataW H)} {before pa pv:List MemPlace}
 (hW:DataW.Whole enc P f.params.toList s.vars apart W args.toList ds gs before)
 (hres:∀ (b:Nat) (sp:Nat→Bool) (hd:Bool),DataW.TrodAll enc P W' b sp hd f.resultTypes.toList (v.resultList f.resultTypes.size) (s.fn H (ds ++ gs)).results [])
 (hargs:∀ sp:Nat→Bool,(∀ p∈before,sp p.block=true)→DataW.TrodAll enc P W' 0 sp true f.params.toList args.toList (s.fn H (ds ++ gs)).args pa)
 (hvars:∀ sp:Nat→Bool,(∀ p∈before,sp p.block=true)→DataW.TrodVars enc P W' sp s.vars (s.fn H (ds ++ gs)).vars pv)
 (hps:before=pa ++ pv) (hb:Below W.heap.size W W')
 (hok:∀ (j:Nat) (t:TypeId) (r:Value),f.resultTypes[j]? = some t→(v.resultList f.resultTypes.size)[j]? = some r→Value.okWide P W' .any 0 t r) :
 s.post enc P f apart fresh handsOn again W args v W':=by
 have hlt:∀ p∈before,p.block<W.heap.size:=fun p hp=>hW.lt p hp;have hold:∀ p∈before,(fun b=>decide (b<W.heap.size)) p.block=true:=fun p hp=>by simpa using hlt p hp
 refine ⟨ds,gs,before,[],pa,pv,hW,hres _ _ _,hargs _ hold,hvars _ hold,World.keptBut_mono (fun p hp=>⟨hp,?_⟩) (hb.frame (·∈before)),fun _=>?_⟩
 ·rw [hps,zB8] at hp;exact Or.inr hp
 ·obtain ⟨_,_,_,_,_,hz,hn⟩:=hW;refine ⟨hok,_,_,([] ++ pa) ++ pv,⟨[] ++ pa,pv,trodAll_append (hargs _ (fun _ _=>rfl)) (hres _ _ _),hvars _ (fun _ _=>rfl),rfl,?_,?_⟩,?_⟩
  ·intro b off hp;have hin:MemPlace.cell b off∈before:=by rw [hps];simpa using hp
   rw [hb.frozen (hlt _ hin)];exact hz b off hin
  ·intro ha;have:=hn ha;rw [hps] at this;simpa using this
  ·intro p hp _;rw [hps];simpa using hp
end
end Go.Proofs.Xx
namespace Go.Proofs.Xx
open Go
abbrev Fp:=Nat→Prop
inductive Rs:Type 1 where
 | blk (b:Nat) (c:List Value) (e:TypeId)
 | sl {α:Type} (v:Value) (e:TypeId) (z:Nat) (enc:α→List Value) (l:List α)
 | rd {α:Type} (v:Value) (z:Nat) (enc:α→List Value) (l:List α)
 | mp {α:Type} (b:Nat) (enc:α→Value) (l:List (List UInt8×α))
 | any (p:AH→Fp→Prop)
abbrev zl {α:Type} (h:AH) (v:Value) (z:Nat) (enc:α→List Value) (l:List α):Prop:=Rd h v z l.length (l.flatMap enc)
def Rs.ok:Rs→AH→Fp→Prop
 | .blk b c e,h,fp=>h.get b=some (.cells c e none false)∧fp b
 | .sl v e z enc l,h,fp=>(v = .slice none 0 0∧l=[])∨∃ b o cc slk cap,v = .slice (some ⟨b,o,none⟩) l.length cap∧h.get b=some (.cells cc e slk false)∧fp b ∧
  zn cc o (l.length*z)=some (l.flatMap enc)∧(l.length≤cap∧o+cap*z≤cc.length)∧(slk=none∨slk=some z)
 | .rd v z enc l,h,fp=>(v = .slice none 0 0∧l=[])∨∃ b o cap cc e s r,v = .slice (some ⟨b,o,none⟩) l.length cap∧h.get b=some (.cells cc e s r)∧fp b∧zn cc o (l.length*z)=some (l.flatMap enc)
 | .mp b enc l,h,fp=>∃ es clock,h.get b=some (.map es clock)∧fp b∧es.map (fun e=>(e.1,e.2.1))=l.map (fun p=>(Value.string ⟨p.1.toArray⟩,enc p.2))∧(∀ e∈es,e.2.2<clock)∧(es.map (·.2.2)).Nodup
 | .any p,h,fp=>∀ h',(∀ b,fp b→h'.get b=h.get b)→p h' fp
theorem Rs.ok.local {r:Rs} {h h':AH} {fp:Fp} (k:r.ok h fp) (hs:∀ b,fp b→h'.get b=h.get b):r.ok h' fp:=by
 cases r with
 | blk b c e=>exact ⟨by rw [hs b k.2];exact k.1,k.2⟩
 | sl v e z enc l =>
  rcases k with k|⟨b,o,cc,slk,cap,h1,h2,h3,h4⟩
  ·exact .inl k
  ·exact .inr ⟨b,o,cc,slk,cap,h1,by rw [hs b h3];exact h2,h3,h4⟩
 | rd v z enc l =>
  rcases k with k|⟨b,o,cap,cc,e,s,r,h1,h2,h3,h4⟩
  ·exact .inl k
  ·exact .inr ⟨b,o,cap,cc,e,s,r,h1,by rw [hs b h3];exact h2,h3,h4⟩
 | mp b enc l =>
  obtain ⟨es,clock,h1,h2,h3⟩:=k;exact ⟨es,clock,by rw [hs b h2];exact h1,h2,h3⟩
 | any p=>exact fun h2 q=>k h2 fun b hb=>(q b hb).trans (hs b hb)
def Sep (lo:Nat) (h:AH):List Rs→Fp→Prop
 | [],_=>True
 | r :: rs,U=>∃ fp:Fp,r.ok h fp∧(∀ b,fp b→lo≤b∧b<h.next∧U b)∧Sep lo h rs (fun b=>U b∧¬ fp b)
theorem Sep.mono {lo:Nat} {h:AH}:∀ {rs:List Rs} {U U':Fp},(∀ b,U b→U' b)→Sep lo h rs U→Sep lo h rs U'
 | [],_,_,_,_=>trivial
 | r :: rs,U,U',hu,⟨fp,h1,h2,h3⟩=>⟨fp,h1,fun b hb=>⟨(h2 b hb).1,(h2 b hb).2.1,hu b (h2 b hb).2.2⟩,h3.mono fun b hb=>⟨hu b hb.1,hb.2⟩⟩
theorem Sep.frame {lo:Nat} {h h':AH}:∀ {rs:List Rs} {U:Fp},Sep lo h rs U→h.next≤h'.next→(∀ b,lo≤b→b<h.next→U b→h'.get b=h.get b)→Sep lo h' rs U
 | [],_,_,_,_=>trivial
 | r :: rs,U,⟨fp,h1,h2,h3⟩,hn,hs =>
  ⟨fp,h1.local fun b hb=>hs b (h2 b hb).1 (h2 b hb).2.1 (h2 b hb).2.2,fun b hb=>⟨(h2 b hb).1,zE4 (h2 b hb).2.1 hn,(h2 b hb).2.2⟩,h3.frame hn fun b q1 q2 q3=>hs b q1 q2 q3.1⟩
inductive At:List Rs→Rs→Prop where
 | here {r:Rs} {rs:List Rs}:At (r :: rs) r
 | there {r s:Rs} {rs:List Rs} (h:At rs r):At (s :: rs) r
inductive Ut:List Rs→Rs→Rs→List Rs→Prop where
 | here {r r':Rs} {rs:List Rs}:Ut (r :: rs) r r' (r' :: rs)
 | there {r r' s:Rs} {rs rs':List Rs} (h:Ut rs r r' rs'):Ut (s :: rs) r r' (s :: rs')
inductive Dt:List Rs→Rs→List Rs→Prop where
 | here {r:Rs} {rs:List Rs}:Dt (r :: rs) r rs
 | there {r s:Rs} {rs rs':List Rs} (h:Dt rs r rs'):Dt (s :: rs) r (s :: rs')
theorem At.ok {lo:Nat} {h:AH} {r:Rs} {rs:List Rs} (a:At rs r):∀ {U:Fp},Sep lo h rs U→∃ fp:Fp,r.ok h fp∧∀ b,fp b→lo≤b∧b<h.next∧U b:=by
 induction a with
 | here=>intro U ⟨fp,h1,h2,_⟩;exact ⟨fp,h1,h2⟩
 | there a ih =>
  intro U ⟨fq,_,_,h3⟩;obtain ⟨fp,q1,q2⟩:=ih h3;exact ⟨fp,q1,fun b hb=>⟨(q2 b hb).1,(q2 b hb).2.1,(q2 b hb).2.2.1⟩⟩
theorem Ut.ok {lo:Nat} {h h':AH} {r r':Rs} {rs rs':List Rs} (hlo:lo≤h.next) (hn:h.next≤h'.next) (u:Ut rs r r' rs'):∀ {U:Fp},Sep lo h rs U →
 ∃ fp:Fp,r.ok h fp∧(∀ b,fp b→lo≤b∧b<h.next∧U b)∧((∀ b,b<h.next→¬ fp b→h'.get b=h.get b)→(∃ fp':Fp,r'.ok h' fp'∧∀ b,fp' b→b<h'.next∧(fp b∨h.next≤b))→Sep lo h' rs' (fun b=>U b∨h.next≤b)):=by
 induction u with
 | here =>
  intro U ⟨fp,h1,h2,h3⟩;refine ⟨fp,h1,h2,fun hs ⟨fp',k1,k2⟩=>⟨fp',k1,fun b hb=>?_,?_⟩⟩
  ·rcases (k2 b hb).2 with q|q
   ·exact ⟨(h2 b q).1,(k2 b hb).1,.inl (h2 b q).2.2⟩
   ·exact ⟨by omega,(k2 b hb).1,.inr q⟩
  ·have aux:∀ {rs:List Rs} {V:Fp},Sep lo h rs V→(∀ b,V b→¬ fp b)→Sep lo h' rs (fun b=>V b∧b<h.next):=by
    intro rs;induction rs with
    | nil=>intro V _ _;trivial
    | cons s rs ih =>
     intro V ⟨fq,q1,q2,q3⟩ hv;refine ⟨fq,q1.local fun b hb=>hs b (q2 b hb).2.1 (hv b (q2 b hb).2.2),fun b hb=>⟨(q2 b hb).1,zE4 (q2 b hb).2.1 hn,(q2 b hb).2.2,(q2 b hb).2.1⟩,?_⟩;exact (ih q3 fun b hb=>hv b hb.1).mono fun b hb=>⟨⟨hb.1.1,hb.2⟩,hb.1.2⟩
   refine (aux h3 fun b hb=>hb.2).mono fun b hb=>⟨.inl hb.1.1,fun q=>?_⟩
   rcases (k2 b q).2 with q1|q1
   ·exact hb.1.2 q1
   ·omega
 | there a ih =>
  intro U ⟨fq,h1,h2,h3⟩;obtain ⟨fp,k1,k2,k3⟩:=ih h3;refine ⟨fp,k1,fun b hb=>⟨(k2 b hb).1,(k2 b hb).2.1,(k2 b hb).2.2.1⟩,fun hs he=>⟨fq,?_,fun b hb=>⟨(h2 b hb).1,zE4 (h2 b hb).2.1 hn,.inl (h2 b hb).2.2⟩,?_⟩⟩
  ·exact h1.local fun b hb=>hs b (h2 b hb).2.1 fun q=>(k2 b q).2.2.2 hb
  ·exact (k3 hs he).mono fun b hb=>by
    rcases hb with hb|hb
    ·exact ⟨.inl hb.1,hb.2⟩
    ·exact ⟨.inr hb,fun q=>by have:=(h2 b q).2.1;omega⟩
theorem Dt.sep {lo:Nat} {h:AH} {r:Rs} {rs rs':List Rs} (d:Dt rs r rs'):∀ {U:Fp},Sep lo h rs U→∃ fp:Fp,r.ok h fp∧(∀ b,fp b→lo≤b∧b<h.next∧U b)∧Sep lo h rs' (fun b=>U b∧¬ fp b):=by
 induction d with
 | here=>intro U ⟨fp,h1,h2,h3⟩;exact ⟨fp,h1,h2,h3⟩
 | there a ih =>
  intro U ⟨fq,h1,h2,h3⟩;obtain ⟨fp,k1,k2,k3⟩:=ih h3;exact ⟨fp,k1,fun b hb=>⟨(k2 b hb).1,(k2 b hb).2.1,(k2 b hb).2.2.1⟩,fq,h1,fun b hb=>⟨(h2 b hb).1,(h2 b hb).2.1,(h2 b hb).2.2,fun q=>(k2 b q).2.2.2 hb⟩,k3.mono fun b hb=>⟨⟨hb.1.1,hb.2⟩,hb.1.2⟩⟩
structure Hs (h0 h:AH) (rs:List Rs):Prop where
 ext:Ext h0 h
 sep:Sep h0.next h rs (fun _=>True)
theorem Hs.wf {h0 h:AH} {rs:List Rs} (S:Hs h0 h rs):WfH h:=S.ext.wf
theorem Hs.start {h:AH} (w:WfH h):Hs h h []:=⟨Ext.refl w,trivial⟩
theorem Hs.qx {h0 h h':AH} {rs:List Rs} (S:Hs h0 h rs) (x:Hs h h' []):Hs h0 h' rs:=⟨S.ext.trans x.ext,S.sep.frame x.ext.next fun b _ q _=>x.ext.old b q⟩
theorem Sep.join {h0 h h':AH} {rs:List Rs} (S:Hs h0 h rs) (x:Ext h h'):∀ {rs1:List Rs} {U:Fp},Sep h.next h' rs1 U→Sep h0.next h' rs (fun b=>b<h.next)→(∀ b,b<h.next→U b)→Sep h0.next h' (rs1 ++ rs) U
 | [],U,_,k,hu=>k.mono fun b hb=>hu b hb
 | r :: rs1,U,⟨fp,h1,h2,h3⟩,k,hu =>
  ⟨fp,h1,fun b hb=>⟨zD0 S.ext.next (h2 b hb).1,(h2 b hb).2⟩,Sep.join S x h3 k fun b hb=>⟨hu b hb,fun q=>by have:=(h2 b q).1;omega⟩⟩
theorem Hs.join {h0 h h':AH} {rs rs1:List Rs} (S:Hs h0 h rs) (x:Hs h h' rs1):Hs h0 h' (rs1 ++ rs):=by
 refine ⟨S.ext.trans x.ext,Sep.join S x.ext x.sep ?_ fun _ _=>trivial⟩;have aux:∀ {rs:List Rs} {V:Fp},Sep h0.next h rs V→Sep h0.next h' rs (fun b=>V b∧b<h.next):=by
  intro rs;induction rs with
  | nil=>intro V _;trivial
  | cons s rs ih =>
   intro V ⟨fq,q1,q2,q3⟩;exact ⟨fq,q1.local fun b hb=>x.ext.old b (q2 b hb).2.1,fun b hb=>⟨(q2 b hb).1,zE4 (q2 b hb).2.1 x.ext.next,(q2 b hb).2.2,(q2 b hb).2.1⟩,(ih q3).mono fun b hb=>⟨⟨hb.1.1,hb.2⟩,hb.1.2⟩⟩
 exact (aux S.sep).mono fun b hb=>hb.2
theorem Hs.QD {h0 h h':AH} {rs:List Rs} {r:Rs} (S:Hs h0 h rs) (x:Hs h h' [r]):Hs h0 h' (r :: rs):=S.join x
theorem Hs.qga {h0 h h':AH} {rs:List Rs} {r r':Rs} (S:Hs h0 h rs) (x:Hs h h' [r,r']):Hs h0 h' (r :: r' :: rs):=S.join x
theorem Hs.del {h0 h:AH} {rs rs':List Rs} {r:Rs} (S:Hs h0 h rs) (d:Dt rs r rs'):Hs h0 h rs':=by
 obtain ⟨fp,_,_,k⟩:=d.sep S.sep;exact ⟨S.ext,k.mono fun _ _=>trivial⟩
theorem Hs.front {h0 h:AH} {rs rs':List Rs} {r:Rs} (S:Hs h0 h rs) (d:Dt rs r rs'):Hs h0 h (r :: rs'):=by
 obtain ⟨fp,k1,k2,k3⟩:=d.sep S.sep;exact ⟨S.ext,fp,k1,k2,k3⟩
theorem Hs.drop {h0 h:AH} {rs:List Rs} (S:Hs h0 h rs):Hs h0 h []:=⟨S.ext,trivial⟩
theorem Hs.only {h0 h:AH} {rs rs':List Rs} {r:Rs} (S:Hs h0 h rs) (d:Dt rs r rs'):Hs h0 h [r]:=by
 obtain ⟨fp,k1,k2,k3⟩:=d.sep S.sep;exact ⟨S.ext,fp,k1,k2,trivial⟩
theorem Hs.tail {h0 h:AH} {rs:List Rs} {r:Rs} (S:Hs h0 h (r :: rs)):Hs h0 h rs:=S.del .here
theorem Hs.grow {h0 h h':AH} {rs:List Rs} {r:Rs} (S:Hs h0 h rs) (x:Ext h h') {fp:Fp} (k:r.ok h' fp) (kf:∀ b,fp b→h.next≤b∧b<h'.next):Hs h0 h' (r :: rs) :=
 S.QD ⟨x,fp,k,fun b hb=>⟨(kf b hb).1,(kf b hb).2,trivial⟩,trivial⟩
theorem Hs.turn {h0 h h':AH} {rs rs':List Rs} {r r':Rs} (S:Hs h0 h rs) (u:Ut rs r r' rs') (hn:h.next≤h'.next) (w':WfH h')
 (hk:∀ fp:Fp,r.ok h fp→(∀ b,fp b→h0.next≤b∧b<h.next)→(∀ b,b<h.next→¬ fp b→h'.get b=h.get b)∧∃ fp':Fp,r'.ok h' fp'∧∀ b,fp' b→b<h'.next∧(fp b∨h.next≤b)):Hs h0 h' rs':=by
 obtain ⟨fp,k1,k2,k3⟩:=u.ok (h':=h') S.ext.next hn S.sep
 obtain ⟨q1,q2⟩:=hk fp k1 fun b hb=>⟨(k2 b hb).1,(k2 b hb).2.1⟩
 refine ⟨⟨zD0 S.ext.next hn,fun b hb=>?_,w'⟩,(k3 q1 q2).mono fun _ _=>trivial⟩;rw [q1 b (zE4 hb S.ext.next) fun q=>by have:=(k2 b q).1;omega];exact S.ext.old b hb
theorem Rd.jZ {h0 h:AH} {rs:List Rs} {α:Type} {v:Value} {e:TypeId} {z:Nat} {enc:α→List Value} {l:List α} (S:Hs h0 h rs) (a:At rs (.sl v e z enc l)):zl h v z enc l:=by
 obtain ⟨fp,k,_⟩:=a.ok S.sep;rcases k with ⟨rfl,rfl⟩|⟨b,o,cc,slk,cap,h1,h2,h3,h4,h5⟩
 ·exact Rd.none_ h z
 ·exact .inr ⟨b,o,_,cc,e,slk,false,h1,h2,h4⟩
theorem Rd.qh8 {h0 h:AH} {rs:List Rs} {α:Type} {v:Value} {z:Nat} {enc:α→List Value} {l:List α} (S:Hs h0 h rs) (a:At rs (.rd v z enc l)):zl h v z enc l:=by
 obtain ⟨fp,k,_⟩:=a.ok S.sep;rcases k with ⟨rfl,rfl⟩|⟨b,o,cap,cc,e,s,r,h1,h2,h3,h4⟩
 ·exact Rd.none_ h z
 ·exact .inr ⟨b,o,cap,cc,e,s,r,h1,h2,h4⟩
theorem Rd.Kv {h0 h:AH} {rs:List Rs} {v:Value} {z n:Nat} {c:List Value} (S:Hs h0 h rs) (r:Rd h0 v z n c) (w:WfH h0):Rd h v z n c:=r.ext w S.ext
theorem XW {h0 h:AH} {rs:List Rs} {b:Nat} {c:List Value} {e:TypeId} (S:Hs h0 h rs) (a:At rs (.blk b c e)):h.get b=some (.cells c e none false):=by
 obtain ⟨fp,k,_⟩:=a.ok S.sep;exact k.1
theorem Hs.add {h0 h:AH} {rs:List Rs} (S:Hs h0 h rs) (c:List Value) (e:TypeId):Hs h0 (h.add (.cells c e none false)) (.blk h.next c e :: rs) :=
 S.grow (fp:=fun b=>b=h.next) ((Ext.refl S.wf).add _) ⟨by rw [AH.qW,if_pos rfl],rfl⟩ fun b hb=>by subst hb;exact ⟨zA3 _,zG0 _⟩
theorem Hs.put {h0 h:AH} {rs rs':List Rs} {b:Nat} {c c':List Value} {e:TypeId} (S:Hs h0 h rs) (u:Ut rs (.blk b c e) (.blk b c' e) rs'):Hs h0 (h.put b (.cells c' e none false)) rs':=by
 obtain ⟨fp,k,k2,-⟩:=u.ok (h':=h) S.ext.next (zA3 _) S.sep
 refine S.turn u (zA3 _) (S.wf.put (k2 b k.2).2.1 _) fun fq q1 q2=>⟨fun j _ hj=>?_,fun j=>j=b,⟨by rw [AH.get_put,if_pos rfl],rfl⟩,fun j hj=>?_⟩
 ·rw [AH.get_put,if_neg];intro q;subst q;exact hj q1.2
 ·subst hj;exact ⟨(q2 _ q1.2).2,.inl q1.2⟩
def yG (v:Value) (z k off:Nat):Value :=
 match v with
 | .slice (some ⟨b,o,_⟩) _ _=>.pointer (some ⟨b,o+k*z+off,none⟩)
 | _=>.nilFunc
theorem qX {α:Type} {enc:α→List Value} {z:Nat} (hz:∀ x,(enc x).length=z):∀ l:List α,(l.flatMap enc).length=l.length*z
 | []=>by simp
 | x :: l=>by rw [zG2,zB2,hz,qX hz l,zC4,zE1,Nat.one_mul,Nat.add_comm]
theorem xn {a m:List Value} {z:Nat} (h:a.length=z) (k:Nat):(a ++ m).take ((k+1)*z)=a ++ m.take (k*z):=by
 have e:(k+1)*z=z+k*z:=by rw [zE1,Nat.one_mul,Nat.add_comm]
 rw [e,List.take_append,zF8 (by omega),h,Nat.add_sub_cancel_left]
theorem yI {a m:List Value} {z:Nat} (h:a.length=z) (k:Nat):(a ++ m).drop ((k+1)*z)=m.drop (k*z):=by
 have e:(k+1)*z=z+k*z:=by rw [zE1,Nat.one_mul,Nat.add_comm]
 rw [e,List.drop_append,List.drop_of_length_le (by omega),h,Nat.add_sub_cancel_left,zC0]
theorem QN {α:Type} {enc:α→List Value} {z:Nat} (hz:∀ x,(enc x).length=z):∀ (l:List α) (k:Nat),(l.take k).flatMap enc=(l.flatMap enc).take (k*z)
 | [],k=>by simp
 | x :: l,0=>by simp
 | x :: l,k+1=>by rw [List.take_succ_cons,zG2,zG2,QN hz l k,xn (hz x)]
theorem QO {α:Type} {enc:α→List Value} {z:Nat} (hz:∀ x,(enc x).length=z):∀ (l:List α) (k:Nat),(l.drop k).flatMap enc=(l.flatMap enc).drop (k*z)
 | [],k=>by simp
 | x :: l,0=>by simp
 | x :: l,k+1=>by rw [List.drop_succ_cons,zG2,QO hz l k,yI (hz x)]
theorem X9 {α:Type} [Inhabited α] {enc:α→List Value} {z:Nat} (hz:∀ x,(enc x).length=z) (l:List α) {k:Nat} (hk:k<l.length):((l.flatMap enc).drop (k*z)).take z=enc (l.getD k default):=by
 rw [← QO hz,zG7 hk,zG2,List.take_append_of_le_length (by rw [hz];omega),zF8 (by rw [hz];omega)];rw [zA2,zA4 hk];rfl
theorem Wq {α:Type} {enc:α→List Value} {z:Nat} (hz:∀ x,(enc x).length=z):∀ (l:List α) (k:Nat) (x:α),k<l.length→(l.set k x).flatMap enc=splice (l.flatMap enc) (k*z) (enc x)
 | [],k,x,h=>by simp at h
 | y :: l,0,x,h=>by
  simp only [List.set_cons_zero,zG2,splice,Nat.zero_mul,List.take_zero,zC0,zG1];rw [hz,List.drop_append,hz,zG6,List.drop_zero,List.drop_of_length_le (by rw [hz];omega),zC0]
 | y :: l,k+1,x,h=>by
  have ih:=Wq hz l k x (by simpa using h);simp only [List.set_cons_succ,zG2];rw [ih];simp only [splice];have e:(k+1)*z+z=(k+1+1)*z:=by rw [zE1 (k+1) 1 z,Nat.one_mul]
  have e2:k*z+z=(k+1)*z:=by rw [zE1,Nat.one_mul]
  rw [hz,xn (hz y),e,yI (hz y),e2,zF2]
end Go.Proofs.Xx
