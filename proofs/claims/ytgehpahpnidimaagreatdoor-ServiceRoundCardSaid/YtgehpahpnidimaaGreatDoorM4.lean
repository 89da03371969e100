/-
  Rules for the checked run of code whose values are not known: what holds when it ends.
-/
import Derived.Test.YtgehpahpnidimaaGreatDoorM3
import Derived.IntWalk
set_option linter.unusedSectionVars false
set_option linter.unusedSimpArgs false
set_option linter.unusedVariables false
namespace Go.Proofs.Xx
open Go
section
variable (P:Program) (X:Extern)
def W (inR:Bool) (sz:Nat) (c:Code) (t:Tr Value) (h:AH) (Q:AX→Tr Value→AH→Prop):Prop:=∃ n x t' h',exec P X n inR sz c t h=some (x,t',h')∧Q x t' h'
def WO (sz:Nat) (ops:Array Oper) (os:List Oper) (t:Tr Value) (h:AH) (Q:Tr Value→AH→Prop):Prop:=∃ n t' h',JZ P X (exec P X n) sz ops os t h=some (t',h')∧Q t' h'
def Fn (f:FuncId) (args:List Value) (h:AH) (Q:Value→AH→Prop):Prop:=∃ n v h',jW P X (exec P X n) f args h=some (v,h')∧Q v h'
end
section
variable {P:Program} {X:Extern} {inR:Bool} {sz:Nat} {t:Tr Value} {h:AH} {Q:AX→Tr Value→AH→Prop}
theorem jU (n:Nat) (c:Code):exec P X (n+1) inR sz c t h=zg P X (exec P X n) inR sz c t h:=rfl
theorem W.mono {c:Code} {Q':AX→Tr Value→AH→Prop} (w:W P X inR sz c t h Q) (hq:∀ x t' h',Q x t' h'→Q' x t' h'):W P X inR sz c t h Q':=by
 obtain ⟨n,x,t',h',h1,h2⟩:=w;exact ⟨n,x,t',h',h1,hq _ _ _ h2⟩
theorem qe8 (hq:Q .norm t h):W P X inR sz .skip t h Q:=⟨1,_,_,_,rfl,hq⟩
theorem qfa {id:Nat} (hq:Q (.exit id) t h):W P X inR sz (.exit id) t h Q:=⟨1,_,_,_,rfl,hq⟩
theorem qgr (hq:Q .ret t h):W P X inR sz .ret t h Q:=⟨1,_,_,_,rfl,hq⟩
theorem qd6 {l:Nat} (hq:Q .norm t h):W P X inR sz (.label l) t h Q:=⟨1,_,_,_,rfl,hq⟩
def qfx (P:Program) (X:Extern) (inR:Bool) (sz:Nat) (b:Code) (Q:AX→Tr Value→AH→Prop):AX→Tr Value→AH→Prop
 | .norm,t,h=>W P X inR sz b t h Q
 | x,t,h=>Q x t h
theorem qgq {a b:Code} (w:W P X inR sz a t h (qfx P X inR sz b Q)):W P X inR sz (.seq a b) t h Q:=by
 obtain ⟨n,x,t',h',h1,h2⟩:=w;cases x with
 | norm =>
  obtain ⟨m,x2,t2,h3,h4,h5⟩:=h2;refine ⟨max n m+1,x2,t2,h3,?_,h5⟩;rw [jU];simp only [zg];rw [Zx (Nat.le_max_left n m) _ _ _ _ _ _ h1];exact Zx (Nat.le_max_right n m) _ _ _ _ _ _ h4
 | exit id =>
  refine ⟨n+1,_,_,_,?_,h2⟩;rw [jU];simp only [zg];rw [h1]
 | ret =>
  refine ⟨n+1,_,_,_,?_,h2⟩;rw [jU];simp only [zg];rw [h1]
theorem qfc {c:Operand} {a b:Code} {v:Bool} (hc:zI t c=some (.bool v)) (w:W P X inR sz (if v then a else b) t h Q):W P X inR sz (.cond c a b) t h Q:=by
 obtain ⟨n,x,t',h',h1,h2⟩:=w;refine ⟨n+1,x,t',h',?_,h2⟩;rw [jU];simp only [zg,hc];cases v<;>exact h1
def Pz (id:Nat) (Q:AX→Tr Value→AH→Prop):AX→Tr Value→AH→Prop
 | .exit id',t,h=>if id'=id then Q .norm t h else Q (.exit id') t h
 | x,t,h=>Q x t h
theorem qd7 {id:Nat} {body:Code} (w:W P X inR sz body t h (Pz id Q)):W P X inR sz (.block id body) t h Q:=by
 obtain ⟨n,x,t',h',h1,h2⟩:=w;cases x with
 | norm=>exact ⟨n+1,_,_,_,by rw [jU];simp only [zg];rw [h1],h2⟩
 | ret=>exact ⟨n+1,_,_,_,by rw [jU];simp only [zg];rw [h1],h2⟩
 | exit id' =>
  simp only [Pz] at h2;by_cases hid:id'=id
  ·subst hid;rw [if_pos rfl] at h2;refine ⟨n+1,_,_,_,?_,h2⟩;rw [jU];simp only [zg];rw [h1];simp
  ·rw [if_neg hid] at h2;refine ⟨n+1,_,_,_,?_,h2⟩;have:Nat.beq id' id=false:=by
    cases hb:Nat.beq id' id with
    | false=>rfl
    | true=>exact absurd (zA6 hb) hid
   rw [jU];simp only [zg];rw [h1];simp only [this]
theorem qd5 {body:Code} (w:W P X inR sz body t h Q):W P X inR sz (.scope body) t h Q:=by
 obtain ⟨n,x,t',h',h1,h2⟩:=w;exact ⟨n+1,_,_,_,by rw [jU];simp only [zg];exact h1,h2⟩
def qfR (I:Nat→Tr Value→AH→Prop) (m:Nat) (Q:AX→Tr Value→AH→Prop):AX→Tr Value→AH→Prop
 | .norm,t,h=>∃ k,k<m∧I k t h
 | x,t,h=>Q x t h
theorem qe9 {body:Code} (I:Nat→Tr Value→AH→Prop) (hb:∀ m t h,I m t h→W P X inR sz body t h (qfR I m Q)):∀ (m:Nat) (t:Tr Value) (h:AH),I m t h→W P X inR sz (.loop body) t h Q:=by
 intro m;induction m using Nat.strongRecOn with
 | _ m ih =>
  intro t h hi;obtain ⟨n,x,t',h',h1,h2⟩:=hb m t h hi;cases x with
  | norm =>
   obtain ⟨k,hk,hi'⟩:=h2;obtain ⟨n2,x2,t2,h3,h4,h5⟩:=ih k hk t' h' hi';refine ⟨max n n2+1,x2,t2,h3,?_,h5⟩;rw [jU];simp only [zg];rw [Zx (Nat.le_max_left n n2) _ _ _ _ _ _ h1];exact Zx (Nat.le_max_right n n2) _ _ _ _ _ _ h4
  | exit id=>exact ⟨n+1,_,_,_,by rw [jU];simp only [zg];rw [h1],h2⟩
  | ret=>exact ⟨n+1,_,_,_,by rw [jU];simp only [zg];rw [h1],h2⟩
theorem qcV {id:Nat} {ops:Array Oper} (w:WO P X sz ops ops.toList t h (Q .norm)):W P X inR sz (.region id ops false) t h Q:=by
 obtain ⟨n,t',h',h1,h2⟩:=w;exact ⟨n+1,_,_,_,by rw [jU];simp only [zg];rw [h1],h2⟩
variable {ops:Array Oper} {os:List Oper} {o:Oper} {R:Tr Value→AH→Prop}
theorem qff (hq:R t h):WO P X sz ops [] t h R:=⟨0,_,_,rfl,hq⟩
theorem qfd {t':Tr Value} {h':AH} {v:Value} (hg:qo ops t o.guard=some true) (ha:zD P t h o.op=some (.val v h')) (hp:JF sz t o.dst v=some t') (w:WO P X sz ops os t' h' R):WO P X sz ops (o :: os) t h R:=by
 obtain ⟨n,t2,h2,h1,h3⟩:=w;refine ⟨n,t2,h2,?_,h3⟩;simp only [JZ,hg,x9,ha,hp];exact h1
theorem qd8 {t':Tr Value} {h':AH} (hg:qo ops t o.guard=some true) (ha:zD P t h o.op=some (.skip h')) (hp:JF sz t o.dst (.tuple #[])=some t') (w:WO P X sz ops os t' h' R):WO P X sz ops (o :: os) t h R:=by
 obtain ⟨n,t2,h2,h1,h3⟩:=w;refine ⟨n,t2,h2,?_,h3⟩;simp only [JZ,hg,x9,ha,hp];exact h1
theorem qfe {t':Tr Value} (hg:qo ops t o.guard=some false) (hp:JF sz t o.dst (.tuple #[])=some t') (w:WO P X sz ops os t' h R):WO P X sz ops (o :: os) t h R:=by
 obtain ⟨n,t2,h2,h1,h3⟩:=w;refine ⟨n,t2,h2,?_,h3⟩;simp only [JZ,hg,hp];exact h1
theorem qd9 {f:FuncId} {args:List Value} {d:Tmp} (hg:qo ops t o.guard=some true) (ha:zD P t h o.op=some (.call f args)) (hd:o.dst=some d) (hs:Nat.blt d sz=true)
 (w:Fn P X f args h (fun v h'=>WO P X sz ops os (t.set d v) h' R)):WO P X sz ops (o :: os) t h R:=by
 obtain ⟨n,v,h1,hc,n2,t2,h2,h3,h4⟩:=w;refine ⟨max n n2,t2,h2,?_,h4⟩;simp only [JZ,hg,x9,ha,hd,JF,hs,XV (Zx (Nat.le_max_left n n2)) hc];exact ZT (Zx (Nat.le_max_right n n2)) _ _ _ _ h3
theorem Fn.mono {f:FuncId} {args:List Value} {R R':Value→AH→Prop} (w:Fn P X f args h R) (hr:∀ v h',R v h'→R' v h'):Fn P X f args h R':=by
 obtain ⟨n,v,h',h1,h2⟩:=w;exact ⟨n,v,h',h1,hr _ _ h2⟩
def qgE (P:Program) (rs:List ResultVar) (R:Value→AH→Prop):AX→Tr Value→AH→Prop
 | .exit _,_,_=>False
 | _,t,h=>∃ vs,jq P t h rs=some vs∧R (zL vs) h
theorem qee {f:FuncId} {fn:Func} {body:Code} {args:List Value} {R:Value→AH→Prop} (hX:X f args h=none) (hf:P.funcs[f]? = some fn) (hb:fn.body=some body)
 (w:W P X false (args.length+(fn.ntmps - args.length)) body (zX 0 args .e) h (qgE P fn.results.toList R)):Fn P X f args h R:=by
 obtain ⟨n,x,t',h',h1,h2⟩:=w;cases x with
 | exit id=>exact h2.elim
 | norm =>
  obtain ⟨vs,h3,h4⟩:=h2;refine ⟨n,_,_,?_,h4⟩;unfold jW;rw [hX,hf];simp only [hb];rw [h1];simp only [h3]
 | ret =>
  obtain ⟨vs,h3,h4⟩:=h2;refine ⟨n,_,_,?_,h4⟩;unfold jW;rw [hX,hf];simp only [hb];rw [h1];simp only [h3]
theorem Zn {f:FuncId} {args:List Value} {R:Value→AH→Prop} {v:Value} {h':AH} (hX:X f args h=some (v,h')) (hq:R v h'):Fn P X f args h R:=⟨0,v,h',by unfold jW;rw [hX],hq⟩
def Pq (ops:Array Oper):Bool :=
 XM ops (masks ops.toList []) [] && (J9 ops (masks ops.toList [])).isEmpty &&
  (List.range ops.size).all fun i=>qF ops [] i || match ops[i]? with|some o=>XU [] (masks ops.toList []) ((List.range ops.size).filter (qF ops [])) i o.op|none=>false
theorem Y1 {run:zl}:∀ (os:List Oper) (i:Nat) (t:Tr Value) (h:AH) (t':Tr Value) (h':AH),JZ P X run sz ops os t h=some (t',h')→∃ l,ZQ P X run sz ops [] false i os t h=some (l,t',h')
 | [],i,t,h,t',h',hr=>by cases hr;exact ⟨[],rfl⟩
 | o :: r,i,t,h,t',h',hr=>by
  simp only [JZ] at hr;split at hr
  ·rename_i hg
   split at hr
   ·rename_i v h1 ho
    split at hr
    ·rename_i t1 hp
     obtain ⟨l,hl⟩:=Y1 r (i+1) t1 h1 t' h' hr;exact ⟨⟨t,h,true,v⟩ :: l,by simp only [ZQ,hg,stepD,jO,ho,hp,hl,Xf]⟩
    ·cases hr
   ·cases hr
  ·rename_i hg
   split at hr
   ·rename_i t1 hp
    obtain ⟨l,hl⟩:=Y1 r (i+1) t1 h t' h' hr;exact ⟨⟨t,h,false,.tuple #[]⟩ :: l,by simp only [ZQ,hg,hp,hl,Xf]⟩
   ·cases hr
  ·cases hr
theorem qfb {id:Nat} (hd:Pq ops=true) (w:WO P X sz ops ops.toList t h (Q .norm)):W P X inR sz (.region id ops true) t h Q:=by
 obtain ⟨n,t',h',h1,h2⟩:=w;refine ⟨n+1,_,_,_,?_,h2⟩;unfold Pq at hd;rw [zA8,zA8,List.isEmpty_iff,zC8] at hd;obtain ⟨⟨hp,hf⟩,hs⟩:=hd;rw [jU];simp only [zg];obtain ⟨l,hl⟩:=Y1 ops.toList 0 t h t' h' h1;obtain ⟨q1,q2,q3,q4⟩:=Xm ops.toList 0 t h l t' h' hl;have:VS P X (exec P X n) sz ops t h=some (t',h'):=by
  unfold VS;simp only [hf,hp];unfold JY;rw [hl];simp only;have:(List.range ops.size).all (vV P ops [] (masks ops.toList []) [] ((List.range ops.size).filter (qF ops [])) (h :: ((List.range ops.size).filter (qF ops [])).map fun i=>hpAt l h' (i+1)) l)=true:=by
   rw [zC8];intro i hi;have hi':=zE3.1 hi;have h3:=hs i hi;unfold vV;have ho:ops[i]? = some ops[i]:=zE2 hi';obtain ⟨s,s1,-⟩:=q4 i _ (by rw [zC1];exact ho);rw [ho] at h3 ⊢;rw [s1];rw [zG9] at h3 ⊢;rcases h3 with h3|h3
   ·exact .inl h3
   ·refine .inr ?_;simp only at h3 ⊢;rw [h3];simp
  rw [this]
 rw [this]
end
end Go.Proofs.Xx
namespace Go.Proofs.Xx
open Go
abbrev Ks:=List (Nat×Value)
def Ks.get:Ks→Nat→Option Value
 | [],_=>none
 | (j,v) :: r,k=>match Nat.beq j k with|true=>some v|false=>Ks.get r k
def Ks.put (L:Ks) (k:Nat) (v:Value):Ks:=(k,v) :: L
def Kn (t:Tr Value) (L:Ks):Prop:=∀ k v,L.get k=some v→t.get k=some v
theorem Kn.put {t:Tr Value} {L:Ks} (h:Kn t L) (k:Nat) (v:Value):Kn (t.set k v) (L.put k v):=by
 intro j u hj;rw [Tr.get_set];simp only [Ks.put,Ks.get] at hj;split at hj
 ·rename_i e
  cases hj
  rw [if_pos (zA6 e).symm]
 ·rename_i e
  rw [if_neg]
  ·exact h j u hj
  ·intro q;subst q;simp at e
def Ks.le (L' L:Ks):Prop:=∀ k v,L'.get k=some v→L.get k=some v
theorem Kn.le {t:Tr Value} {L L':Ks} (h:Kn t L) (hl:Ks.le L' L):Kn t L':=fun k v hk=>h k v (hl k v hk)
theorem Ks.le_nil (L:Ks):Ks.le [] L:=fun k v h=>by cases h
theorem Ks.le_cons {L L':Ks} {k:Nat} {v:Value} (h:L.get k=some v) (hl:Ks.le L' L):Ks.le ((k,v) :: L') L:=by
 intro j u hj;simp only [Ks.get] at hj;split at hj
 ·rename_i e
  cases hj
  rw [← zA6 e];exact h
 ·exact hl j u hj
def kA (L:Ks):Operand→Option Value
 | .tmp k=>L.get k
 | .const v=>match Qs v with|true=>some v|false=>none
 | .global _=>none
 | .func f=>some (.func (.func f) #[] #[])
theorem qem {t:Tr Value} {L:Ks} (h:Kn t L) {o:Operand} {v:Value} (hk:kA L o=some v):zI t o=some v:=by
 cases o with
 | tmp k=>exact h k v hk
 | _=>exact hk
def Ks.tree:Ks→Tr Value
 | []=>.e
 | (k,v) :: r=>(Ks.tree r).set k v
theorem Ks.tree_get:∀ (L:Ks) (k:Nat),L.tree.get k=L.get k
 | [],k=>Tr.get_e k
 | (j,v) :: r,k=>by
  simp only [Ks.tree,Ks.get,Tr.get_set];by_cases hk:k=j
  ·subst hk;simp
  ·rw [if_neg hk,Ks.tree_get r k];have:Nat.beq j k=false:=by
    cases hb:Nat.beq j k with
    | false=>rfl
    | true=>exact absurd (zA6 hb).symm hk
   rw [this]
theorem Kn.tree (L:Ks):Kn L.tree L:=fun k v h=>by rw [Ks.tree_get];exact h
def TLe (u t:Tr Value):Prop:=∀ k v,u.get k=some v→t.get k=some v
section
variable {u t:Tr Value} (hl:TLe u t)
include hl
theorem qU {o:Operand} {v:Value} (h:zI u o=some v):zI t o=some v:=by
 cases o with
 | tmp k=>exact hl k v h
 | _=>exact h
theorem Yy:∀ {os:List Operand} {vs:List Value},zY u os=some vs→zY t os=some vs
 | [],vs,h=>h
 | o :: r,vs,h=>by
  simp only [zY] at h ⊢;split at h
  ·rename_i e1 e2;rw [qU hl e1,Yy e2];exact h
  ·cases h
theorem Jp:∀ {os:List (Nat×Operand)} {vs:List (Nat×Value)},jc u os=some vs→jc t os=some vs
 | [],vs,h=>h
 | (i,o) :: r,vs,h=>by
  simp only [jc] at h ⊢;split at h
  ·rename_i e1 e2;rw [qU hl e1,Jp e2];exact h
  ·cases h
theorem xx {o:Option Operand} {v:Option Value} (h:zH u o=some v):zH t o=some v:=by
 cases o with
 | none=>exact h
 | some o =>
  simp only [zH] at h ⊢;split at h
  ·rename_i e1;rw [qU hl e1];exact h
  ·cases h
theorem xM {P:Program} {h:AH} {op:Op} {n:JE} (ha:zD P u h op=some n):zD P t h op=some n:=by
 cases op<;>simp only [zD] at ha ⊢
 case move x=>cases e:zI u x with
  | none=>rw [e] at ha;cases ha
  | some v=>rw [qU hl e];rw [e] at ha;exact ha
 case assign x=>cases e:zI u x with
  | none=>rw [e] at ha;cases ha
  | some v=>rw [qU hl e];rw [e] at ha;exact ha
 case pick c a b =>
  cases e:zI u c with
  | none=>rw [e] at ha;cases ha
  | some v =>
   rw [qU hl e];rw [e] at ha;cases v with
   | bool q =>
    cases q with
    | true=>cases e2:zI u a with
     | none=>simp only [e2] at ha;cases ha
     | some v=>simp only [qU hl e2];simp only [e2] at ha;exact ha
    | false=>cases e2:zI u b with
     | none=>simp only [e2] at ha;cases ha
     | some v=>simp only [qU hl e2];simp only [e2] at ha;exact ha
   | _=>cases ha
 case alloc e=>exact ha
 case box a x=>cases e:zI u x with
  | none=>rw [e] at ha;cases ha
  | some v=>rw [qU hl e];rw [e] at ha;exact ha
 case build ty ps=>cases e:jc u ps.toList with
  | none=>rw [e] at ha;cases ha
  | some v=>rw [Jp hl e];rw [e] at ha;exact ha
 case buildSlice ty m ps=>cases e:jc u ps.toList with
  | none=>rw [e] at ha;cases ha
  | some v=>rw [Jp hl e];rw [e] at ha;exact ha
 case load a x=>cases e:zI u x with
  | none=>rw [e] at ha;cases ha
  | some v=>rw [qU hl e];rw [e] at ha;exact ha
 case nilCheck x=>cases e:zI u x with
  | none=>rw [e] at ha;cases ha
  | some v=>rw [qU hl e];rw [e] at ha;exact ha
 case unOp a b x=>cases e:zI u x with
  | none=>rw [e] at ha;cases ha
  | some v=>rw [qU hl e];rw [e] at ha;exact ha
 case convert a b x=>cases e:zI u x with
  | none=>rw [e] at ha;cases ha
  | some v=>rw [qU hl e];rw [e] at ha;exact ha
 case fieldAddr a x b=>cases e:zI u x with
  | none=>rw [e] at ha;cases ha
  | some v=>rw [qU hl e];rw [e] at ha;exact ha
 case field a x b=>cases e:zI u x with
  | none=>rw [e] at ha;cases ha
  | some v=>rw [qU hl e];rw [e] at ha;exact ha
 case extract x b=>cases e:zI u x with
  | none=>rw [e] at ha;cases ha
  | some v=>rw [qU hl e];rw [e] at ha;exact ha
 case store ty a x =>
  cases e:zI u a with
  | none=>rw [e] at ha;cases ha
  | some v=>cases e2:zI u x with
   | none=>rw [e,e2] at ha;cases ha
   | some v2=>rw [qU hl e,qU hl e2];rw [e,e2] at ha;exact ha
 case binOp op ty a x b =>
  cases e:zI u a with
  | none=>rw [e] at ha;cases ha
  | some v=>cases e2:zI u x with
   | none=>rw [e,e2] at ha;cases ha
   | some v2=>rw [qU hl e,qU hl e2];rw [e,e2] at ha;exact ha
 case indexAddr ty a x =>
  cases e:zI u a with
  | none=>rw [e] at ha;cases ha
  | some v=>cases e2:zI u x with
   | none=>rw [e,e2] at ha;cases ha
   | some v2=>rw [qU hl e,qU hl e2];rw [e,e2] at ha;exact ha
 case index ty a x =>
  cases e:zI u a with
  | none=>rw [e] at ha;cases ha
  | some v=>cases e2:zI u x with
   | none=>rw [e,e2] at ha;cases ha
   | some v2=>rw [qU hl e,qU hl e2];rw [e,e2] at ha;exact ha
 case makeSlice ty a x =>
  cases e:zI u a with
  | none=>rw [e] at ha;cases ha
  | some v=>cases e2:zI u x with
   | none=>rw [e,e2] at ha;cases ha
   | some v2=>rw [qU hl e,qU hl e2];rw [e,e2] at ha;exact ha
 case lookup ty m k ok =>
  cases e:zI u m with
  | none=>rw [e] at ha;cases ha
  | some v=>cases e2:zI u k with
   | none=>rw [e,e2] at ha;cases ha
   | some v2=>rw [qU hl e,qU hl e2];rw [e,e2] at ha;exact ha
 case mapEntry ty m k =>
  cases e:zI u m with
  | none=>rw [e] at ha;cases ha
  | some v=>cases e2:zI u k with
   | none=>rw [e,e2] at ha;cases ha
   | some v2=>rw [qU hl e,qU hl e2];rw [e,e2] at ha;exact ha
 case mapUpdate ty m k x =>
  cases e:zI u m with
  | none=>rw [e] at ha;cases ha
  | some v=>cases e2:zI u k with
   | none=>rw [e,e2] at ha;cases ha
   | some v2=>cases e3:zI u x with
    | none=>rw [e,e2,e3] at ha;cases ha
    | some v3=>rw [qU hl e,qU hl e2,qU hl e3];rw [e,e2,e3] at ha;exact ha
 case insert ty m k x =>
  cases e:zI u m with
  | none=>rw [e] at ha;cases ha
  | some v=>cases e2:zI u k with
   | none=>rw [e,e2] at ha;cases ha
   | some v2=>cases e3:zI u x with
    | none=>rw [e,e2,e3] at ha;cases ha
    | some v3=>rw [qU hl e,qU hl e2,qU hl e3];rw [e,e2,e3] at ha;exact ha
 case entryStore ty m k x =>
  cases e:zI u m with
  | none=>rw [e] at ha;cases ha
  | some v=>cases e2:zI u k with
   | none=>rw [e,e2] at ha;cases ha
   | some v2=>cases e3:zI u x with
    | none=>rw [e,e2,e3] at ha;cases ha
    | some v3=>rw [qU hl e,qU hl e2,qU hl e3];rw [e,e2,e3] at ha;exact ha
 case makeMap ty rs=>exact ha
 case makeFunc fn a b =>
  cases fn<;>simp only at ha ⊢
  case func f =>
   cases e:zY u a.toList with
   | none=>rw [e] at ha;cases ha
   | some v=>cases e2:zY u b.toList with
    | none=>rw [e,e2] at ha;cases ha
    | some v2=>rw [Yy hl e,Yy hl e2];rw [e,e2] at ha;exact ha
  all_goals cases ha
 case slice ty x a b c =>
  cases e:zI u x with
  | none=>rw [e] at ha;cases ha
  | some v=>cases e1:zH u a with
   | none=>rw [e,e1] at ha;cases ha
   | some v1=>cases e2:zH u b with
    | none=>rw [e,e1,e2] at ha;cases ha
    | some v2=>cases e3:zH u c with
     | none=>rw [e,e1,e2,e3] at ha;cases ha
     | some v3=>rw [qU hl e,xx hl e1,xx hl e2,xx hl e3];rw [e,e1,e2,e3] at ha;exact ha
 case call c =>
  obtain ⟨callee,args,argTypes⟩:=c;simp only at ha ⊢;cases e:zY u args.toList with
  | none=>rw [e] at ha;cases ha
  | some vs =>
   rw [Yy hl e];rw [e] at ha;cases callee with
   | builtin b=>exact ha
   | value f =>
    simp only at ha ⊢;cases e2:zI u f with
    | none=>rw [e2] at ha;cases ha
    | some v=>rw [qU hl e2];rw [e2] at ha;exact ha
   | invoke a b=>exact ha
 all_goals cases ha
theorem jP {ops:Array Oper} {g:Option (Nat×Bool)} {b:Bool} (h:qo ops u g=some b):qo ops t g=some b:=by
 unfold qo at h ⊢;split at h
 ·exact h
 ·rename_i j want
  (try simp only)
  split at h
  ·rename_i o ho
   (try rw [ho])
   (try simp only)
   split at h
   ·rename_i d hd
    (try rw [hd])
    (try simp only)
    cases hg:u.get d with
    | none=>rw [hg] at h;cases h
    | some v=>rw [hl d v hg];rw [hg] at h;exact h
   ·cases h
  ·cases h
theorem JV {P:Program} {h:AH}:∀ {rs:List ResultVar} {vs:List Value},jq P u h rs=some vs→jq P t h rs=some vs
 | [],vs,hr=>hr
 | r :: rs,vs,hr=>by
  simp only [jq] at hr ⊢;have key:∀ v,Jh P u h r=some v→Jh P t h r=some v:=by
   intro v hv;cases r with
   | tmp k=>exact hl k v hv
   | cell a ty =>
    simp only [Jh] at hv ⊢;cases e:u.get a with
    | none=>rw [e] at hv;cases hv
    | some p=>rw [hl a p e];rw [e] at hv;exact hv
  split at hr
  ·rename_i e1 e2
   rw [key _ e1,JV e2];exact hr
  ·cases hr
end
theorem Kn.tle {t:Tr Value} {L:Ks} (h:Kn t L):TLe L.tree t:=fun k v hk=>h k v (by rw [← Ks.tree_get];exact hk)
end Go.Proofs.Xx
namespace Go.Proofs.Xx
open Go
abbrev KQ:=AX→Ks→AH→Prop
section
variable (P:Program) (X:Extern)
def K (inR:Bool) (sz:Nat) (c:Code) (L:Ks) (h:AH) (Q:KQ):Prop:=∀ t,Kn t L→W P X inR sz c t h (fun x t' h'=>∃ L',Kn t' L'∧Q x L' h')
def KO (sz:Nat) (ops:Array Oper) (os:List Oper) (L:Ks) (h:AH) (R:Ks→AH→Prop):Prop:=∀ t,Kn t L→WO P X sz ops os t h (fun t' h'=>∃ L',Kn t' L'∧R L' h')
end
section
variable {P:Program} {X:Extern} {inR:Bool} {sz:Nat} {L:Ks} {h:AH} {Q:KQ}
theorem K.mono {c:Code} {Q':KQ} (w:K P X inR sz c L h Q) (hq:∀ x L' h',Q x L' h'→Q' x L' h'):K P X inR sz c L h Q' :=
 fun t hk=>(w t hk).mono fun x t' h' ⟨L',h1,h2⟩=>⟨L',h1,hq _ _ _ h2⟩
theorem K.le {c:Code} {L':Ks} (hl:Ks.le L' L) (w:K P X inR sz c L' h Q):K P X inR sz c L h Q:=fun t hk=>w t (hk.le hl)
theorem qj (hq:Q .norm L h):K P X inR sz .skip L h Q:=fun t hk=>qe8 ⟨L,hk,hq⟩
theorem qA {id:Nat} (hq:Q (.exit id) L h):K P X inR sz (.exit id) L h Q:=fun t hk=>qfa ⟨L,hk,hq⟩
theorem qw (hq:Q .ret L h):K P X inR sz .ret L h Q:=fun t hk=>qgr ⟨L,hk,hq⟩
theorem qQ {l:Nat} (hq:Q .norm L h):K P X inR sz (.label l) L h Q:=fun t hk=>qd6 ⟨L,hk,hq⟩
def yH (P:Program) (X:Extern) (inR:Bool) (sz:Nat) (b:Code) (Q:KQ):KQ
 | .norm,L,h=>K P X inR sz b L h Q
 | x,L,h=>Q x L h
theorem qg {a b:Code} (w:K P X inR sz a L h (yH P X inR sz b Q)):K P X inR sz (.seq a b) L h Q:=fun t hk =>
 qgq ((w t hk).mono fun x t' h' ⟨L',h1,h2⟩=>by
  cases x with
  | norm=>exact h2 t' h1
  | exit id=>exact ⟨L',h1,h2⟩
  | ret=>exact ⟨L',h1,h2⟩)
theorem qfk {c:Operand} {a b:Code} {v:Bool} (hc:kA L c=some (.bool v)) (w:K P X inR sz (if v then a else b) L h Q):K P X inR sz (.cond c a b) L h Q:=fun t hk =>
 qfc (qem hk hc) (w t hk)
def PD (id:Nat) (Q:KQ):KQ
 | .exit id',L,h=>if id'=id then Q .norm L h else Q (.exit id') L h
 | x,L,h=>Q x L h
theorem qec {id:Nat} {body:Code} (w:K P X inR sz body L h (PD id Q)):K P X inR sz (.block id body) L h Q:=fun t hk =>
 qd7 ((w t hk).mono fun x t' h' ⟨L',h1,h2⟩=>by
  cases x with
  | norm=>exact ⟨L',h1,h2⟩
  | exit id' =>
   simp only [PD] at h2;simp only [Pz];split
   ·rename_i e;rw [if_pos e] at h2;exact ⟨L',h1,h2⟩
   ·rename_i e;rw [if_neg e] at h2;exact ⟨L',h1,h2⟩
  | ret=>exact ⟨L',h1,h2⟩)
theorem qP {body:Code} (w:K P X inR sz body L h Q):K P X inR sz (.scope body) L h Q:=fun t hk=>qd5 (w t hk)
def qfS (I:Nat→Ks→AH→Prop) (m:Nat) (Q:KQ):KQ
 | .norm,L,h=>∃ k L',k<m∧I k L' h∧Ks.le L' L
 | x,L,h=>Q x L h
theorem qfj {body:Code} (I:Nat→Ks→AH→Prop) (hb:∀ m L h,I m L h→K P X inR sz body L h (qfS I m Q)) (m:Nat) {L0:Ks} (hi:I m L0 h) (hl:Ks.le L0 L):K P X inR sz (.loop body) L h Q:=fun t hk =>
 qe9 (Q:=fun x t' h'=>∃ L',Kn t' L'∧Q x L' h') (fun m t h=>∃ L,Kn t L∧I m L h) (fun m t h ⟨L,k1,k2⟩=>(hb m L h k2 t k1).mono fun x t' h' ⟨L',h1,h2⟩=>by
  cases x with
  | norm=>obtain ⟨k,L2,h3,h4,h5⟩:=h2;exact ⟨k,h3,L2,h1.le h5,h4⟩
  | exit id=>exact ⟨L',h1,h2⟩
  | ret=>exact ⟨L',h1,h2⟩) m t h ⟨L0,hk.le hl,hi⟩
theorem qc (id:Nat) {ops:Array Oper} (w:KO P X sz ops ops.toList L h (Q .norm)):K P X inR sz (.region id ops false) L h Q:=fun t hk=>qcV (w t hk)
variable {ops:Array Oper} {os:List Oper} {o:Oper} {R:Ks→AH→Prop}
theorem qf (hq:R L h):KO P X sz ops [] L h R:=fun t hk=>qff ⟨L,hk,hq⟩
theorem KO.mono {R':Ks→AH→Prop} (w:KO P X sz ops os L h R') (hq:∀ L' h',R' L' h'→R L' h'):KO P X sz ops os L h R:=fun t hk=>by
 obtain ⟨n,t',h',h1,L',h2,h3⟩:=w t hk;exact ⟨n,t',h',h1,L',h2,hq _ _ h3⟩
def qE (sz:Nat) (L:Ks) (d:Option Tmp) (v:Value):Option Ks :=
 match d with
 | none=>some L
 | some k=>match Nat.blt k sz with
  | true=>some (L.put k v)
  | false=>none
theorem Xn {t:Tr Value} {L L':Ks} {d:Option Tmp} {v:Value} (hk:Kn t L) (hp:qE sz L d v=some L'):∃ t',JF sz t d v=some t'∧Kn t' L':=by
 unfold qE at hp;unfold JF;split at hp
 ·cases hp;exact ⟨t,rfl,hk⟩
 ·split at hp
  ·rename_i e;cases hp;exact ⟨_,by simp only [e],hk.put _ _⟩
  ·cases hp
theorem qW {L':Ks} {h':AH} {v:Value} (hg:qo ops L.tree o.guard=some true) (ha:zD P L.tree h o.op=some (.val v h')) (hp:qE sz L o.dst v=some L') (w:KO P X sz ops os L' h' R):KO P X sz ops (o :: os) L h R:=fun t hk=>by
 obtain ⟨t',h1,h2⟩:=Xn hk hp;exact qfd (jP hk.tle hg) (xM hk.tle ha) h1 (w t' h2)
theorem kS {L':Ks} {h':AH} (hg:qo ops L.tree o.guard=some true) (ha:zD P L.tree h o.op=some (.skip h')) (hp:qE sz L o.dst (.tuple #[])=some L') (w:KO P X sz ops os L' h' R):KO P X sz ops (o :: os) L h R:=fun t hk=>by
 obtain ⟨t',h1,h2⟩:=Xn hk hp;exact qd8 (jP hk.tle hg) (xM hk.tle ha) h1 (w t' h2)
theorem qfl {L':Ks} (hg:qo ops L.tree o.guard=some false) (hp:qE sz L o.dst (.tuple #[])=some L') (w:KO P X sz ops os L' h R):KO P X sz ops (o :: os) L h R:=fun t hk=>by
 obtain ⟨t',h1,h2⟩:=Xn hk hp;exact qfe (jP hk.tle hg) h1 (w t' h2)
theorem QM {f:FuncId} {args:List Value} {d:Tmp} (hg:qo ops L.tree o.guard=some true) (ha:zD P L.tree h o.op=some (.call f args)) (hd:o.dst=some d) (hs:Nat.blt d sz=true)
 (w:Fn P X f args h (fun v h'=>KO P X sz ops os (L.put d v) h' R)):KO P X sz ops (o :: os) L h R:=fun t hk =>
 qd9 (jP hk.tle hg) (xM hk.tle ha) hd hs (w.mono fun v h' q=>q _ (hk.put d v))
theorem qB {L:Ks} {o:Operand} {v:Value} (hk:kA L o=some v):zI L.tree o=some v:=qem (Kn.tree L) hk
theorem qcY {L':Ks} {x:Operand} {ty:TypeId} {a v:Value} (ho:o.op = .call { callee:=.builtin .len,args:=#[x],argTypes:=#[ty] }) (hg:qo ops L.tree o.guard=some true) (hx:kA L x=some a)
 (hv:PI P ty a=some v) (hp:qE sz L o.dst v=some L') (w:KO P X sz ops os L' h R):KO P X sz ops (o :: os) L h R :=
 qW hg (by rw [ho];simp only [zD,zY,qB hx,zO,hv,qH]) hp w
theorem qcZ {L':Ks} {x i:Operand} {ty:TypeId} {a b v:Value} (ho:o.op = .indexAddr ty x i) (hg:qo ops L.tree o.guard=some true) (hx:kA L x=some a) (hi:kA L i=some b)
 (hv:jb P ty a b=some v) (hp:qE sz L o.dst v=some L') (w:KO P X sz ops os L' h R):KO P X sz ops (o :: os) L h R :=
 qW hg (by rw [ho];simp only [zD,qB hx,qB hi,hv,qH]) hp w
theorem kT {L':Ks} {x:Operand} {ty:TypeId} {a v:Value} (ho:o.op = .load ty x) (hg:qo ops L.tree o.guard=some true) (hx:kA L x=some a)
 (hv:ZE P ty a h=some v) (hp:qE sz L o.dst v=some L') (w:KO P X sz ops os L' h R):KO P X sz ops (o :: os) L h R :=
 qW hg (by rw [ho];simp only [zD,qB hx,hv,qH]) hp w
theorem zN {L':Ks} {op:BinOp} {x y:Operand} {ty ty2:TypeId} {a b v:Value} (ho:o.op = .binOp op ty x y ty2) (hg:qo ops L.tree o.guard=some true) (hx:kA L x=some a) (hy:kA L y=some b)
 (hv:Qe P op ty a b=some v) (hp:qE sz L o.dst v=some L') (w:KO P X sz ops os L' h R):KO P X sz ops (o :: os) L h R :=
 qW hg (by rw [ho];simp only [zD,qB hx,qB hy,hv,qH]) hp w
theorem Gz {h':AH} {L':Ks} {x y:Operand} {ty:TypeId} {a b:Value} (ho:o.op = .store ty x y) (hg:qo ops L.tree o.guard=some true) (hx:kA L x=some a) (hy:kA L y=some b)
 (hv:Jr P ty a b h=some h') (hp:qE sz L o.dst (.tuple #[])=some L') (w:KO P X sz ops os L' h' R):KO P X sz ops (o :: os) L h R :=
 kS hg (by rw [ho];simp only [zD,qB hx,qB hy,hv]) hp w
theorem qed {h':AH} {L':Ks} {x y:Operand} {ty:TypeId} {a b v:Value} (ho:o.op = .makeSlice ty x y) (hg:qo ops L.tree o.guard=some true) (hx:kA L x=some a) (hy:kA L y=some b)
 (hv:Qd P ty a b h=some (v,h')) (hp:qE sz L o.dst v=some L') (w:KO P X sz ops os L' h' R):KO P X sz ops (o :: os) L h R :=
 qW hg (by rw [ho];simp only [zD,qB hx,qB hy,hv,ji]) hp w
theorem vH {h':AH} {L':Ks} {x y:Operand} {tys:Array TypeId} {a b v:Value} (ho:o.op = .call { callee:=.builtin .append,args:=#[x,y],argTypes:=tys }) (hg:qo ops L.tree o.guard=some true) (hx:kA L x=some a) (hy:kA L y=some b)
 (hv:zC P tys.toList a b h=some (v,h')) (hp:qE sz L o.dst v=some L') (w:KO P X sz ops os L' h' R):KO P X sz ops (o :: os) L h R :=
 qW hg (by rw [ho];simp only [zD,zY,qB hx,qB hy,zO,hv,ji]) hp w
def qdD (L:Ks):List Operand→Option (List Value)
 | []=>some []
 | o :: r=>match kA L o,qdD L r with
  | some v,some vs=>some (v :: vs)
  | _,_=>none
theorem qaf {L:Ks}:∀ {os:List Operand} {vs:List Value},qdD L os=some vs→zY L.tree os=some vs
 | [],vs,h=>h
 | o :: r,vs,h=>by
  simp only [qdD] at h;simp only [zY];split at h
  ·rename_i e1 e2;rw [qB e1,qaf e2];exact h
  ·cases h
theorem qx {f:FuncId} {args:Array Operand} {tys:Array TypeId} {vs:List Value} {d:Tmp} (ho:o.op = .call { callee:=.value (.func f),args:=args,argTypes:=tys }) (hg:qo ops L.tree o.guard=some true) (ha:qdD L args.toList=some vs)
 (hd:o.dst=some d) (hs:Nat.blt d sz=true) (w:Fn P X f vs h (fun v h'=>KO P X sz ops os (L.put d v) h' R)):KO P X sz ops (o :: os) L h R :=
 QM hg (by rw [ho];simp [zD,qaf ha,zI]) hd hs w
def qgF (P:Program) (rs:List ResultVar) (R:Value→AH→Prop):KQ
 | .exit _,_,_=>False
 | _,L,h=>∃ vs,jq P L.tree h rs=some vs∧R (zL vs) h
def qb8:Nat→List Value→Ks
 | _,[]=>[]
 | k,v :: r=>(k,v) :: qb8 (k+1) r
theorem KE:∀ (vs:List Value) (k j:Nat) (v:Value),(qb8 k vs).get j=some v→k≤j∧vs[j - k]? = some v
 | [],k,j,v,h=>by cases h
 | u :: r,k,j,v,h=>by
  simp only [qb8,Ks.get] at h;split at h
  ·rename_i e
   cases h
   have:=zA6 e;subst this;exact ⟨zA3 _,by simp⟩
  ·obtain ⟨h1,h2⟩:=KE r (k+1) j v h;refine ⟨by omega,?_⟩;rw [show j - k=(j - (k+1))+1 by omega,zH5];exact h2
theorem XA:∀ (vs:List Value) (k:Nat) (t:Tr Value) (j:Nat),(zX k vs t).get j=if k≤j∧j<k+vs.length then vs[j - k]? else t.get j
 | [],k,t,j=>by simp [zX];intro h1 h2;omega
 | v :: r,k,t,j=>by
  simp only [zX];rw [XA r (k+1) _ j,Tr.get_set];by_cases hj:j=k
  ·subst hj;rw [if_neg (by omega),if_pos rfl,if_pos ⟨zA3 _,by simp⟩];simp
  ·by_cases h1:k+1≤j∧j<k+1+r.length
   ·rw [if_pos h1,if_pos (by simp;omega),show j - k=(j - (k+1))+1 by omega,zH5]
   ·rw [if_neg h1,if_neg hj,if_neg (by simp;omega)]
theorem Kn.enter (vs:List Value):Kn (zX 0 vs .e) (qb8 0 vs):=by
 intro j v hj;obtain ⟨h1,h2⟩:=KE vs 0 j v hj;rw [XA,if_pos ⟨zB0 _,by have:=(zD6.1 h2).1;omega⟩];exact h2
theorem qM {f:FuncId} {fn:Func} {body:Code} {args:List Value} {R:Value→AH→Prop} (hX:X f args h=none) (hf:P.funcs[f]? = some fn) (hb:fn.body=some body) {n:Nat} (hn:args.length+(fn.ntmps - args.length)=n)
 (w:K P X false n body (qb8 0 args) h (qgF P fn.results.toList R)):Fn P X f args h R:=by
 subst hn;refine qee hX hf hb ((w _ (Kn.enter args)).mono fun x t' h' ⟨L',h1,h2⟩=>?_);cases x with
 | exit id=>exact h2.elim
 | norm=>obtain ⟨vs,h3,h4⟩:=h2;exact ⟨vs,JV h1.tle h3,h4⟩
 | ret=>obtain ⟨vs,h3,h4⟩:=h2;exact ⟨vs,JV h1.tle h3,h4⟩
end
end Go.Proofs.Xx
namespace Go.Proofs.Xx
open Go
def WfH (h:AH):Prop:=∀ b,h.next≤b→h.get b=none
theorem WfH.lt {h:AH} (w:WfH h) {b:Nat} {o:jV} (hg:h.get b=some o):b<h.next:=by
 rcases zA7 b h.next with q|q
 ·exact q
 ·rw [w b q] at hg;cases hg
theorem WfH.add {h:AH} (w:WfH h) (o:jV):WfH (h.add o):=fun b hb=>by
 have hb':h.next+1≤b:=hb
 rw [AH.get_add,if_neg (by omega)];exact w b (by omega)
theorem WfH.put {h:AH} (w:WfH h) {b:Nat} (hb:b<h.next) (o:jV):WfH (h.put b o):=fun k hk=>by
 have hk':h.next≤k:=hk
 rw [AH.get_put,if_neg (by omega)];exact w k hk'
structure Ext (h h':AH):Prop where
 next:h.next≤h'.next
 old:∀ b,b<h.next→h'.get b=h.get b
 wf:WfH h'
theorem Ext.refl {h:AH} (w:WfH h):Ext h h:=⟨zA3 _,fun _ _=>rfl,w⟩
theorem Ext.trans {a b c:AH} (x:Ext a b) (y:Ext b c):Ext a c:=⟨zD0 x.next y.next,fun k hk=>(y.old k (zE4 hk x.next)).trans (x.old k hk),y.wf⟩
theorem Ext.add {h0 h:AH} (x:Ext h0 h) (o:jV):Ext h0 (h.add o) :=
 ⟨zD0 x.next (Nat.le_succ _),fun b hb=>by rw [AH.get_add,if_neg (by have:=x.next;omega)];exact x.old b hb,x.wf.add o⟩
theorem Ext.put {h0 h:AH} (x:Ext h0 h) {b:Nat} (h1:h0.next≤b) (h2:b<h.next) (o:jV):Ext h0 (h.put b o) :=
 ⟨x.next,fun k hk=>by rw [AH.get_put,if_neg (by omega)];exact x.old k hk,x.wf.put h2 o⟩
theorem Ext.get {h0 h:AH} (x:Ext h0 h) (w:WfH h0) {b:Nat} {o:jV} (hg:h0.get b=some o):h.get b=some o:=(x.old b (w.lt hg)).trans hg
theorem G7 {c xs:List Value} {o n k:Nat} (h:qX c o n=some xs) (hk:k<n):c[o+k]? = xs[k]?:=by
 unfold qX at h;simp only at h;split at h
 ·cases h
  rw [zC7,if_pos hk,zC3]
 ·cases h
theorem Je {c xs:List Value} {o n:Nat} (h:qX c o n=some xs):xs.length=n:=by
 unfold qX at h;simp only at h;split at h
 ·rename_i e;cases h;exact zA6 e
 ·cases h
theorem Q8 {c:List Value} {o n:Nat} (h:o+n≤c.length):qX c o n=some ((c.drop o).take n):=by
 unfold qX;simp only;have:((c.drop o).take n).length=n:=by rw [zA9,zB4];omega
 rw [this];simp
theorem zT (c:List Value):qX c 0 c.length=some c:=by rw [Q8 (by omega)];simp
theorem QA {c xs:List Value} {o n:Nat} (h:qX c o n=some xs):xs=(c.drop o).take n∧o+n≤c.length∨n=0∧xs=[]:=by
 have hl:=Je h;unfold qX at h;simp only at h;split at h
 ·rename_i e
  cases h
  rw [zA9,zB4] at hl;rcases zF4 n with q|q
  ·right;subst q;simp
  ·left;exact ⟨rfl,by omega⟩
 ·cases h
theorem jG {c xs:List Value} {o n i m:Nat} (h:qX c o n=some xs) (him:i+m≤n):qX c (o+i) m=some ((xs.drop i).take m):=by
 rcases QA h with ⟨rfl,hle⟩|⟨rfl,rfl⟩
 ·rw [Q8 (by omega),List.drop_take,List.take_take,List.drop_drop];congr 2;omega
 ·have:m=0:=by omega
  subst this;simp [qX]
def Rd (h:AH) (v:Value) (z n:Nat) (c:List Value):Prop :=
 (v = .slice none 0 0∧n=0∧c=[])∨∃ b o cap cc e s r,v = .slice (some ⟨b,o,none⟩) n cap∧h.get b=some (.cells cc e s r)∧qX cc o (n*z)=some c
theorem Rd.none_ (h:AH) (z:Nat):Rd h (.slice none 0 0) z 0 []:=.inl ⟨rfl,rfl,rfl⟩
theorem Rd.length {h:AH} {v:Value} {z n:Nat} {c:List Value} (r:Rd h v z n c):c.length=n*z:=by
 rcases r with ⟨rfl,rfl,rfl⟩|⟨b,o,cap,cc,e,s,q,rfl,h1,h2⟩
 ·simp
 ·exact Je h2
theorem Rd.ext {h h':AH} {v:Value} {z n:Nat} {c:List Value} (r:Rd h v z n c) (w:WfH h) (x:Ext h h'):Rd h' v z n c:=by
 rcases r with ⟨rfl,rfl,rfl⟩|⟨b,o,cap,cc,e,s,q,rfl,h1,h2⟩
 ·exact Rd.none_ h' z
 ·exact .inr ⟨b,o,cap,cc,e,s,q,rfl,x.get w h1,h2⟩
section
variable {P:Program} {ty e:TypeId} (hu:P.underlying ty=some (.slice e))
include hu
theorem Rd.len {h:AH} {v:Value} {z n:Nat} {c:List Value} (r:Rd h v z n c):PI P ty v=some (.int .i64 n):=by
 rcases r with ⟨rfl,rfl,rfl⟩|⟨b,o,cap,cc,e',s,q,rfl,h1,h2⟩<;>simp [PI,hu]
end
structure Own (h:AH) (v:Value) (b:Nat) (e:TypeId) (z n:Nat) (c:List Value):Prop where
 val:v = .slice (some ⟨b,0,none⟩) n n
 obj:h.get b=some (.cells c e none false)
 len:c.length=n*z
theorem Own.rd {h:AH} {v:Value} {b:Nat} {e:TypeId} {z n:Nat} {c:List Value} (o:Own h v b e z n c):Rd h v z n c :=
 .inr ⟨b,0,n,c,e,none,false,o.val,o.obj,by rw [← o.len];exact zT c⟩
theorem qcc {P:Program} {ty e:TypeId} {z:List Value} {by_:Nat} {h:AH} (w:WfH h) (hu:qK P ty=some e) (hz:qN P e=some z) (hb:jK P e=some by_) {n:Nat} (hn:n*(by_+1)≤140737488355328) :
 ∃ v h',Qd P ty (.int .i64 n) (.int .i64 n) h=some (v,h')∧Own h' v h.next e z.length n (zeroRow z n)∧Ext h h':=by
 refine ⟨.slice (some ⟨h.next,0,none⟩) n n,h.add (.cells (zeroRow z n) e none false),?_,⟨rfl,by rw [AH.get_add,if_pos rfl],jE z n⟩,(Ext.refl w).add _⟩;show Qd P ty (.int .i64 (Int.ofNat n)) (.int .i64 (Int.ofNat n)) h=_
 have h1:Nat.ble n n=true:=zB3 (zA3 _);have h2:Nat.ble (n*(by_+1)) 140737488355328=true:=zB3 hn;simp only [Qd,hu,hz,hb,h1,h2,zF9]
theorem Own.set {P:Program} {ty e:TypeId} (hu:P.underlying ty=some (.slice e)) (hz:zq P e=some 1) {h:AH} {v:Value} {b n:Nat} {c:List Value} (o:Own h v b e 1 n c) {ik:IntKind} {k:Nat} (hk:k<n) {x:Value} (hx:one? x=true) (hc:x.cells=#[x]) :
 ∃ p,jb P ty v (.int ik k)=some p∧Jr P e p x h=some (h.put b (.cells (c.set k x) e none false))∧Own (h.put b (.cells (c.set k x) e none false)) v b e 1 n (c.set k x):=by
 have hkc:k<c.length:=by have:=o.len;omega
 refine ⟨.pointer (some ⟨b,0+k*1,none⟩),?_,?_,⟨o.val,by rw [AH.get_put,if_pos rfl],by rw [zF5];exact o.len⟩⟩
 ·have:Nat.blt k n=true:=by rw [Nat.blt_eq];exact hk
  rw [o.val];show jb P ty _ (.int ik (Int.ofNat k))=_
  simp only [jb,hu,hz,this]
 ·simp only [Jr,QK,o.obj,hz,hc];have h1:Nat.ble (0+k*1+1) c.length=true:=zB3 (by omega);have h2:splice c (0+k*1) [x]=c.set k x:=by
   simp only [splice,zG1,Nat.mul_one,zC4,List.length_nil,zC6,zC0];rw [List.set_eq_take_append_cons_drop,if_pos hkc]
  have h3:putCells h b (0+k*1) c e none [x]=some (h.put b (.cells (c.set k x) e none false)):=by
   unfold putCells;rw [h2];have:([x].all one? && Nat.ble (0+k*1+[x].length) c.length)=true:=by
    rw [show [x].all one? = true by simp [hx],show [x].length=1 from rfl,h1];rfl
   rw [this]
  exact h3
theorem wrap_i64 {n:Int} (h1 : -9223372036854775808≤n) (h2:n≤9223372036854775807):IntKind.i64.wrap n=n:=IntWalk.i64_in _ (by omega)
theorem qd1 {P:Program} {ty:TypeId} {a b c:Int} (hc:a+b=c) (h1 : -9223372036854775808≤c) (h2:c≤9223372036854775807):Qe P .add ty (.int .i64 a) (.int .i64 b)=some (.int .i64 c):=by
 show some (Value.int .i64 (IntKind.i64.wrap (a+b)))=_
 rw [hc,wrap_i64 h1 h2]
theorem qdg {P:Program} {ty:TypeId} {a b c:Int} (hc:a - b=c) (h1 : -9223372036854775808≤c) (h2:c≤9223372036854775807):Qe P .sub ty (.int .i64 a) (.int .i64 b)=some (.int .i64 c):=by
 show some (Value.int .i64 (IntKind.i64.wrap (a - b)))=_
 rw [hc,wrap_i64 h1 h2]
theorem qdx {P:Program} {ty:TypeId} {a b c:Int} (hc:a*b=c) (h1 : -9223372036854775808≤c) (h2:c≤9223372036854775807):Qe P .mul ty (.int .i64 a) (.int .i64 b)=some (.int .i64 c):=by
 show some (Value.int .i64 (IntKind.i64.wrap (a*b)))=_
 rw [hc,wrap_i64 h1 h2]
def ints (l:List Int):List Value:=l.map (Value.int .i64)
end Go.Proofs.Xx
namespace Go.Proofs.Xx
open Go
theorem gZ (b o n c:Nat):yN (.slice (some ⟨b,o,none⟩) n c) (.slice (some ⟨b,o,none⟩) n c)=true:=by simp [yN,WH,yO]
theorem Rd.same {h:AH} {v:Value} {z n:Nat} {c:List Value} (r:Rd h v z n c):yN v v=true:=by
 rcases r with ⟨rfl,rfl,rfl⟩|⟨b,o,cap,cc,e,s,q,rfl,h1,h2⟩
 ·rfl
 ·exact gZ _ _ _ _
section
variable {P:Program} {X:Extern} {inR:Bool} {sz:Nat} {L:Ks} {h:AH} {Q:KQ} {ops:Array Oper}
theorem zi (id:Nat) (w:KO P X sz ops ops.toList L h (Q .norm)) (hd:Pq ops=true:=by decide +kernel):K P X inR sz (.region id ops true) L h Q:=fun t hk=>qfb hd (w t hk)
end
end Go.Proofs.Xx
namespace Go.Proofs.Xx
open Go
def Gr (h0 h:AH) (v:Value) (e:TypeId) (z n:Nat) (c:List Value):Prop :=
 (v = .slice none 0 0∧n=0∧c=[])∨∃ b slk,v = .slice (some ⟨b,0,none⟩) n n∧h.get b=some (.cells c e slk false)∧c.length=n*z∧h0.next≤b∧(slk=none∨slk=some z)
theorem Gr.rd {h0 h:AH} {v:Value} {e:TypeId} {z n:Nat} {c:List Value} (g:Gr h0 h v e z n c):Rd h v z n c:=by
 rcases g with ⟨rfl,rfl,rfl⟩|⟨b,slk,rfl,h1,h2,h3,h4⟩
 ·exact Rd.none_ h z
 ·exact .inr ⟨b,0,n,c,e,slk,false,rfl,h1,by rw [← h2];exact zT c⟩
theorem Gr.nil (h0 h:AH) (e:TypeId) (z:Nat):Gr h0 h (.slice none 0 0) e z 0 []:=.inl ⟨rfl,rfl,rfl⟩
theorem Gr.ext {h0 h h':AH} {v:Value} {e:TypeId} {z n:Nat} {c:List Value} (g:Gr h0 h v e z n c) (w:WfH h) (x:Ext h h'):Gr h0 h' v e z n c:=by
 rcases g with ⟨rfl,rfl,rfl⟩|⟨b,slk,rfl,h1,h2⟩
 ·exact Gr.nil h0 h' e z
 ·exact .inr ⟨b,slk,rfl,x.get w h1,h2⟩
theorem Rd.source {h:AH} {v:Value} {z n:Nat} {c:List Value} (r:Rd h v z n c):QL z v h=some (n,c):=by
 rcases r with ⟨rfl,rfl,rfl⟩|⟨b,o,cap,cc,e,s,q,rfl,h1,h2⟩
 ·rfl
 ·simp only [QL,h1,h2]
theorem qe1 {P:Program} {ty e:TypeId} {zc:List Value} (hs:qK P ty=some e) (hz:qN P e=some zc) {x:Value} (hx:x.cells.toList.length=zc.length) (hzl:zc.length≤1000) (h:AH) :
 zZ P ty 1 [(0,x)] h=some (.slice (some ⟨h.next,0,none⟩) 1 1,h.add (.cells x.cells.toList e none false)):=by
 have k1:Nat.ble (1*zc.length) 16777216=true:=zB3 (by omega);have k3:zeroRow zc 1=zc:=by simp [zeroRow]
 have k2:(Nat.beq x.cells.toList.length zc.length && Nat.ble (0*zc.length+zc.length) zc.length)=true:=by
  rw [hx];simp
 have k4:splice zc (0*zc.length) x.cells.toList=x.cells.toList:=by
  simp only [splice,Nat.zero_mul,List.take_zero,zC0,zG1];rw [hx,List.drop_length,zD7]
 simp only [zZ,hs,hz,k1,k3,Yw,k2,k4]
theorem qe2 {P:Program} {ty e:TypeId} {zc:List Value} (hs:qK P ty=some e) (hz:qN P e=some zc) (h:AH) :
 zZ P ty 0 [] h=some (.slice (some ⟨h.next,0,none⟩) 0 0,h.add (.cells [] e none false)):=by
 have k1:Nat.ble (0*zc.length) 16777216=true:=zB3 (by omega);simp only [zZ,hs,hz,k1,Yw,zeroRow]
section
variable {P:Program} {X:Extern} {inR:Bool} {sz:Nat} {L:Ks} {h:AH} {ops:Array Oper} {os:List Oper} {o:Oper} {R:Ks→AH→Prop}
def J5 (L:Ks):List (Nat×Operand)→Option (List (Nat×Value))
 | []=>some []
 | (i,o) :: r=>match kA L o,J5 L r with
  | some v,some vs=>some ((i,v) :: vs)
  | _,_=>none
theorem yY {L:Ks}:∀ {os:List (Nat×Operand)} {vs:List (Nat×Value)},J5 L os=some vs→jc L.tree os=some vs
 | [],vs,h=>h
 | (i,o) :: r,vs,h=>by
  simp only [J5] at h;simp only [jc];split at h
  ·rename_i e1 e2;rw [qB e1,yY e2];exact h
  ·cases h
theorem Vu {h':AH} {L':Ks} {ty:TypeId} {n:Nat} {ps:Array (Nat×Operand)} {vs:List (Nat×Value)} {v:Value} (ho:o.op = .buildSlice ty n ps) (hg:qo ops L.tree o.guard=some true) (hx:J5 L ps.toList=some vs)
 (hv:zZ P ty n vs h=some (v,h')) (hp:qE sz L o.dst v=some L') (w:KO P X sz ops os L' h' R):KO P X sz ops (o :: os) L h R :=
 qW hg (by rw [ho];simp only [zD,yY hx,hv,ji]) hp w
end
def zV:Value→Prop
 | .slice _ n cap=>n≤cap
 | _=>True
end Go.Proofs.Xx
namespace Go.Proofs.Xx
open Go
abbrev Fp:=Nat→Prop
inductive Rs:Type 1 where
 | blk (b:Nat) (c:List Value) (e:TypeId)
 | sl {α:Type} (v:Value) (e:TypeId) (z:Nat) (enc:α→List Value) (l:List α)
 | rd {α:Type} (v:Value) (z:Nat) (enc:α→List Value) (l:List α)
 | mp {α:Type} (b:Nat) (enc:α→Value) (l:List (List UInt8×α))
 | any (p:AH→Fp→Prop)
abbrev zo {α:Type} (h:AH) (v:Value) (z:Nat) (enc:α→List Value) (l:List α):Prop:=Rd h v z l.length (l.flatMap enc)
def Rs.ok:Rs→AH→Fp→Prop
 | .blk b c e,h,fp=>h.get b=some (.cells c e none false)∧fp b
 | .sl v e z enc l,h,fp=>(v = .slice none 0 0∧l=[])∨∃ b o cc slk cap,v = .slice (some ⟨b,o,none⟩) l.length cap∧h.get b=some (.cells cc e slk false)∧fp b ∧
  qX cc o (l.length*z)=some (l.flatMap enc)∧(l.length≤cap∧o+cap*z≤cc.length)∧(slk=none∨slk=some z)
 | .rd v z enc l,h,fp=>(v = .slice none 0 0∧l=[])∨∃ b o cap cc e s r,v = .slice (some ⟨b,o,none⟩) l.length cap∧h.get b=some (.cells cc e s r)∧fp b∧qX cc o (l.length*z)=some (l.flatMap enc)
 | .mp b enc l,h,fp=>∃ es clock,h.get b=some (.map es clock)∧fp b∧es.map (fun e=>(e.1,e.2.1))=l.map (fun p=>(Value.string ⟨p.1.toArray⟩,enc p.2))∧(∀ e∈es,e.2.2<clock)∧(es.map (·.2.2)).Nodup
 | .any p,h,fp=>∀ h',(∀ b,fp b→h'.get b=h.get b)→p h' fp
theorem Rs.ok.local {r:Rs} {h h':AH} {fp:Fp} (k:r.ok h fp) (hs:∀ b,fp b→h'.get b=h.get b):r.ok h' fp:=by
 cases r with
 | blk b c e=>exact ⟨by rw [hs b k.2];exact k.1,k.2⟩
 | sl v e z enc l =>
  rcases k with k|⟨b,o,cc,slk,cap,h1,h2,h3,h4⟩
  ·exact .inl k
  ·exact .inr ⟨b,o,cc,slk,cap,h1,by rw [hs b h3];exact h2,h3,h4⟩
 | rd v z enc l =>
  rcases k with k|⟨b,o,cap,cc,e,s,r,h1,h2,h3,h4⟩
  ·exact .inl k
  ·exact .inr ⟨b,o,cap,cc,e,s,r,h1,by rw [hs b h3];exact h2,h3,h4⟩
 | mp b enc l =>
  obtain ⟨es,clock,h1,h2,h3⟩:=k;exact ⟨es,clock,by rw [hs b h2];exact h1,h2,h3⟩
 | any p=>exact fun h2 q=>k h2 fun b hb=>(q b hb).trans (hs b hb)
def Sep (lo:Nat) (h:AH):List Rs→Fp→Prop
 | [],_=>True
 | r :: rs,U=>∃ fp:Fp,r.ok h fp∧(∀ b,fp b→lo≤b∧b<h.next∧U b)∧Sep lo h rs (fun b=>U b∧¬ fp b)
theorem Sep.mono {lo:Nat} {h:AH}:∀ {rs:List Rs} {U U':Fp},(∀ b,U b→U' b)→Sep lo h rs U→Sep lo h rs U'
 | [],_,_,_,_=>trivial
 | r :: rs,U,U',hu,⟨fp,h1,h2,h3⟩=>⟨fp,h1,fun b hb=>⟨(h2 b hb).1,(h2 b hb).2.1,hu b (h2 b hb).2.2⟩,h3.mono fun b hb=>⟨hu b hb.1,hb.2⟩⟩
theorem Sep.frame {lo:Nat} {h h':AH}:∀ {rs:List Rs} {U:Fp},Sep lo h rs U→h.next≤h'.next→(∀ b,lo≤b→b<h.next→U b→h'.get b=h.get b)→Sep lo h' rs U
 | [],_,_,_,_=>trivial
 | r :: rs,U,⟨fp,h1,h2,h3⟩,hn,hs =>
  ⟨fp,h1.local fun b hb=>hs b (h2 b hb).1 (h2 b hb).2.1 (h2 b hb).2.2,fun b hb=>⟨(h2 b hb).1,zE4 (h2 b hb).2.1 hn,(h2 b hb).2.2⟩,h3.frame hn fun b q1 q2 q3=>hs b q1 q2 q3.1⟩
inductive At:List Rs→Rs→Prop where
 | here {r:Rs} {rs:List Rs}:At (r :: rs) r
 | there {r s:Rs} {rs:List Rs} (h:At rs r):At (s :: rs) r
inductive Ut:List Rs→Rs→Rs→List Rs→Prop where
 | here {r r':Rs} {rs:List Rs}:Ut (r :: rs) r r' (r' :: rs)
 | there {r r' s:Rs} {rs rs':List Rs} (h:Ut rs r r' rs'):Ut (s :: rs) r r' (s :: rs')
inductive Dt:List Rs→Rs→List Rs→Prop where
 | here {r:Rs} {rs:List Rs}:Dt (r :: rs) r rs
 | there {r s:Rs} {rs rs':List Rs} (h:Dt rs r rs'):Dt (s :: rs) r (s :: rs')
theorem At.ok {lo:Nat} {h:AH} {r:Rs} {rs:List Rs} (a:At rs r):∀ {U:Fp},Sep lo h rs U→∃ fp:Fp,r.ok h fp∧∀ b,fp b→lo≤b∧b<h.next∧U b:=by
 induction a with
 | here=>intro U ⟨fp,h1,h2,_⟩;exact ⟨fp,h1,h2⟩
 | there a ih =>
  intro U ⟨fq,_,_,h3⟩;obtain ⟨fp,q1,q2⟩:=ih h3;exact ⟨fp,q1,fun b hb=>⟨(q2 b hb).1,(q2 b hb).2.1,(q2 b hb).2.2.1⟩⟩
theorem Ut.ok {lo:Nat} {h h':AH} {r r':Rs} {rs rs':List Rs} (hlo:lo≤h.next) (hn:h.next≤h'.next) (u:Ut rs r r' rs'):∀ {U:Fp},Sep lo h rs U →
 ∃ fp:Fp,r.ok h fp∧(∀ b,fp b→lo≤b∧b<h.next∧U b)∧((∀ b,b<h.next→¬ fp b→h'.get b=h.get b)→(∃ fp':Fp,r'.ok h' fp'∧∀ b,fp' b→b<h'.next∧(fp b∨h.next≤b))→Sep lo h' rs' (fun b=>U b∨h.next≤b)):=by
 induction u with
 | here =>
  intro U ⟨fp,h1,h2,h3⟩;refine ⟨fp,h1,h2,fun hs ⟨fp',k1,k2⟩=>⟨fp',k1,fun b hb=>?_,?_⟩⟩
  ·rcases (k2 b hb).2 with q|q
   ·exact ⟨(h2 b q).1,(k2 b hb).1,.inl (h2 b q).2.2⟩
   ·exact ⟨by omega,(k2 b hb).1,.inr q⟩
  ·have aux:∀ {rs:List Rs} {V:Fp},Sep lo h rs V→(∀ b,V b→¬ fp b)→Sep lo h' rs (fun b=>V b∧b<h.next):=by
    intro rs;induction rs with
    | nil=>intro V _ _;trivial
    | cons s rs ih =>
     intro V ⟨fq,q1,q2,q3⟩ hv;refine ⟨fq,q1.local fun b hb=>hs b (q2 b hb).2.1 (hv b (q2 b hb).2.2),fun b hb=>⟨(q2 b hb).1,zE4 (q2 b hb).2.1 hn,(q2 b hb).2.2,(q2 b hb).2.1⟩,?_⟩;exact (ih q3 fun b hb=>hv b hb.1).mono fun b hb=>⟨⟨hb.1.1,hb.2⟩,hb.1.2⟩
   refine (aux h3 fun b hb=>hb.2).mono fun b hb=>⟨.inl hb.1.1,fun q=>?_⟩
   rcases (k2 b q).2 with q1|q1
   ·exact hb.1.2 q1
   ·omega
 | there a ih =>
  intro U ⟨fq,h1,h2,h3⟩;obtain ⟨fp,k1,k2,k3⟩:=ih h3;refine ⟨fp,k1,fun b hb=>⟨(k2 b hb).1,(k2 b hb).2.1,(k2 b hb).2.2.1⟩,fun hs he=>⟨fq,?_,fun b hb=>⟨(h2 b hb).1,zE4 (h2 b hb).2.1 hn,.inl (h2 b hb).2.2⟩,?_⟩⟩
  ·exact h1.local fun b hb=>hs b (h2 b hb).2.1 fun q=>(k2 b q).2.2.2 hb
  ·exact (k3 hs he).mono fun b hb=>by
    rcases hb with hb|hb
    ·exact ⟨.inl hb.1,hb.2⟩
    ·exact ⟨.inr hb,fun q=>by have:=(h2 b q).2.1;omega⟩
theorem Dt.sep {lo:Nat} {h:AH} {r:Rs} {rs rs':List Rs} (d:Dt rs r rs'):∀ {U:Fp},Sep lo h rs U→∃ fp:Fp,r.ok h fp∧(∀ b,fp b→lo≤b∧b<h.next∧U b)∧Sep lo h rs' (fun b=>U b∧¬ fp b):=by
 induction d with
 | here=>intro U ⟨fp,h1,h2,h3⟩;exact ⟨fp,h1,h2,h3⟩
 | there a ih =>
  intro U ⟨fq,h1,h2,h3⟩;obtain ⟨fp,k1,k2,k3⟩:=ih h3;exact ⟨fp,k1,fun b hb=>⟨(k2 b hb).1,(k2 b hb).2.1,(k2 b hb).2.2.1⟩,fq,h1,fun b hb=>⟨(h2 b hb).1,(h2 b hb).2.1,(h2 b hb).2.2,fun q=>(k2 b q).2.2.2 hb⟩,k3.mono fun b hb=>⟨⟨hb.1.1,hb.2⟩,hb.1.2⟩⟩
structure Hs (h0 h:AH) (rs:List Rs):Prop where
 ext:Ext h0 h
 sep:Sep h0.next h rs (fun _=>True)
theorem Hs.wf {h0 h:AH} {rs:List Rs} (S:Hs h0 h rs):WfH h:=S.ext.wf
theorem Hs.start {h:AH} (w:WfH h):Hs h h []:=⟨Ext.refl w,trivial⟩
theorem Hs.join0 {h0 h h':AH} {rs:List Rs} (S:Hs h0 h rs) (x:Hs h h' []):Hs h0 h' rs:=⟨S.ext.trans x.ext,S.sep.frame x.ext.next fun b _ q _=>x.ext.old b q⟩
theorem Sep.join {h0 h h':AH} {rs:List Rs} (S:Hs h0 h rs) (x:Ext h h'):∀ {rs1:List Rs} {U:Fp},Sep h.next h' rs1 U→Sep h0.next h' rs (fun b=>b<h.next)→(∀ b,b<h.next→U b)→Sep h0.next h' (rs1 ++ rs) U
 | [],U,_,k,hu=>k.mono fun b hb=>hu b hb
 | r :: rs1,U,⟨fp,h1,h2,h3⟩,k,hu =>
  ⟨fp,h1,fun b hb=>⟨zD0 S.ext.next (h2 b hb).1,(h2 b hb).2⟩,Sep.join S x h3 k fun b hb=>⟨hu b hb,fun q=>by have:=(h2 b q).1;omega⟩⟩
theorem Hs.join {h0 h h':AH} {rs rs1:List Rs} (S:Hs h0 h rs) (x:Hs h h' rs1):Hs h0 h' (rs1 ++ rs):=by
 refine ⟨S.ext.trans x.ext,Sep.join S x.ext x.sep ?_ fun _ _=>trivial⟩;have aux:∀ {rs:List Rs} {V:Fp},Sep h0.next h rs V→Sep h0.next h' rs (fun b=>V b∧b<h.next):=by
  intro rs;induction rs with
  | nil=>intro V _;trivial
  | cons s rs ih =>
   intro V ⟨fq,q1,q2,q3⟩;exact ⟨fq,q1.local fun b hb=>x.ext.old b (q2 b hb).2.1,fun b hb=>⟨(q2 b hb).1,zE4 (q2 b hb).2.1 x.ext.next,(q2 b hb).2.2,(q2 b hb).2.1⟩,(ih q3).mono fun b hb=>⟨⟨hb.1.1,hb.2⟩,hb.1.2⟩⟩
 exact (aux S.sep).mono fun b hb=>hb.2
theorem Hs.join1 {h0 h h':AH} {rs:List Rs} {r:Rs} (S:Hs h0 h rs) (x:Hs h h' [r]):Hs h0 h' (r :: rs):=S.join x
theorem Hs.join2 {h0 h h':AH} {rs:List Rs} {r r':Rs} (S:Hs h0 h rs) (x:Hs h h' [r,r']):Hs h0 h' (r :: r' :: rs):=S.join x
theorem Hs.del {h0 h:AH} {rs rs':List Rs} {r:Rs} (S:Hs h0 h rs) (d:Dt rs r rs'):Hs h0 h rs':=by
 obtain ⟨fp,_,_,k⟩:=d.sep S.sep;exact ⟨S.ext,k.mono fun _ _=>trivial⟩
theorem Hs.front {h0 h:AH} {rs rs':List Rs} {r:Rs} (S:Hs h0 h rs) (d:Dt rs r rs'):Hs h0 h (r :: rs'):=by
 obtain ⟨fp,k1,k2,k3⟩:=d.sep S.sep;exact ⟨S.ext,fp,k1,k2,k3⟩
theorem Hs.drop {h0 h:AH} {rs:List Rs} (S:Hs h0 h rs):Hs h0 h []:=⟨S.ext,trivial⟩
theorem Hs.only {h0 h:AH} {rs rs':List Rs} {r:Rs} (S:Hs h0 h rs) (d:Dt rs r rs'):Hs h0 h [r]:=by
 obtain ⟨fp,k1,k2,k3⟩:=d.sep S.sep;exact ⟨S.ext,fp,k1,k2,trivial⟩
theorem Hs.tail {h0 h:AH} {rs:List Rs} {r:Rs} (S:Hs h0 h (r :: rs)):Hs h0 h rs:=S.del .here
theorem Hs.grow {h0 h h':AH} {rs:List Rs} {r:Rs} (S:Hs h0 h rs) (x:Ext h h') {fp:Fp} (k:r.ok h' fp) (kf:∀ b,fp b→h.next≤b∧b<h'.next):Hs h0 h' (r :: rs) :=
 S.join1 ⟨x,fp,k,fun b hb=>⟨(kf b hb).1,(kf b hb).2,trivial⟩,trivial⟩
theorem Hs.turn {h0 h h':AH} {rs rs':List Rs} {r r':Rs} (S:Hs h0 h rs) (u:Ut rs r r' rs') (hn:h.next≤h'.next) (w':WfH h')
 (hk:∀ fp:Fp,r.ok h fp→(∀ b,fp b→h0.next≤b∧b<h.next)→(∀ b,b<h.next→¬ fp b→h'.get b=h.get b)∧∃ fp':Fp,r'.ok h' fp'∧∀ b,fp' b→b<h'.next∧(fp b∨h.next≤b)):Hs h0 h' rs':=by
 obtain ⟨fp,k1,k2,k3⟩:=u.ok (h':=h') S.ext.next hn S.sep
 obtain ⟨q1,q2⟩:=hk fp k1 fun b hb=>⟨(k2 b hb).1,(k2 b hb).2.1⟩
 refine ⟨⟨zD0 S.ext.next hn,fun b hb=>?_,w'⟩,(k3 q1 q2).mono fun _ _=>trivial⟩;rw [q1 b (zE4 hb S.ext.next) fun q=>by have:=(k2 b q).1;omega];exact S.ext.old b hb
theorem Rd.of_sl {h0 h:AH} {rs:List Rs} {α:Type} {v:Value} {e:TypeId} {z:Nat} {enc:α→List Value} {l:List α} (S:Hs h0 h rs) (a:At rs (.sl v e z enc l)):zo h v z enc l:=by
 obtain ⟨fp,k,_⟩:=a.ok S.sep;rcases k with ⟨rfl,rfl⟩|⟨b,o,cc,slk,cap,h1,h2,h3,h4,h5⟩
 ·exact Rd.none_ h z
 ·exact .inr ⟨b,o,_,cc,e,slk,false,h1,h2,h4⟩
theorem Rd.of_rd {h0 h:AH} {rs:List Rs} {α:Type} {v:Value} {z:Nat} {enc:α→List Value} {l:List α} (S:Hs h0 h rs) (a:At rs (.rd v z enc l)):zo h v z enc l:=by
 obtain ⟨fp,k,_⟩:=a.ok S.sep;rcases k with ⟨rfl,rfl⟩|⟨b,o,cap,cc,e,s,r,h1,h2,h3,h4⟩
 ·exact Rd.none_ h z
 ·exact .inr ⟨b,o,cap,cc,e,s,r,h1,h2,h4⟩
theorem Rd.of_base {h0 h:AH} {rs:List Rs} {v:Value} {z n:Nat} {c:List Value} (S:Hs h0 h rs) (r:Rd h0 v z n c) (w:WfH h0):Rd h v z n c:=r.ext w S.ext
theorem YD {h0 h:AH} {rs:List Rs} {b:Nat} {c:List Value} {e:TypeId} (S:Hs h0 h rs) (a:At rs (.blk b c e)):h.get b=some (.cells c e none false):=by
 obtain ⟨fp,k,_⟩:=a.ok S.sep;exact k.1
theorem Hs.add {h0 h:AH} {rs:List Rs} (S:Hs h0 h rs) (c:List Value) (e:TypeId):Hs h0 (h.add (.cells c e none false)) (.blk h.next c e :: rs) :=
 S.grow (fp:=fun b=>b=h.next) ((Ext.refl S.wf).add _) ⟨by rw [AH.get_add,if_pos rfl],rfl⟩ fun b hb=>by subst hb;exact ⟨zA3 _,zG0 _⟩
theorem Hs.put {h0 h:AH} {rs rs':List Rs} {b:Nat} {c c':List Value} {e:TypeId} (S:Hs h0 h rs) (u:Ut rs (.blk b c e) (.blk b c' e) rs'):Hs h0 (h.put b (.cells c' e none false)) rs':=by
 obtain ⟨fp,k,k2,-⟩:=u.ok (h':=h) S.ext.next (zA3 _) S.sep
 refine S.turn u (zA3 _) (S.wf.put (k2 b k.2).2.1 _) fun fq q1 q2=>⟨fun j _ hj=>?_,fun j=>j=b,⟨by rw [AH.get_put,if_pos rfl],rfl⟩,fun j hj=>?_⟩
 ·rw [AH.get_put,if_neg];intro q;subst q;exact hj q1.2
 ·subst hj;exact ⟨(q2 _ q1.2).2,.inl q1.2⟩
def Vd (v:Value) (z k off:Nat):Value :=
 match v with
 | .slice (some ⟨b,o,_⟩) _ _=>.pointer (some ⟨b,o+k*z+off,none⟩)
 | _=>.nilFunc
theorem qO {α:Type} {enc:α→List Value} {z:Nat} (hz:∀ x,(enc x).length=z):∀ l:List α,(l.flatMap enc).length=l.length*z
 | []=>by simp
 | x :: l=>by rw [zG2,zB2,hz,qO hz l,zC4,zE1,Nat.one_mul,Nat.add_comm]
theorem Wu {a m:List Value} {z:Nat} (h:a.length=z) (k:Nat):(a ++ m).take ((k+1)*z)=a ++ m.take (k*z):=by
 have e:(k+1)*z=z+k*z:=by rw [zE1,Nat.one_mul,Nat.add_comm]
 rw [e,List.take_append,zF8 (by omega),h,Nat.add_sub_cancel_left]
theorem xC {a m:List Value} {z:Nat} (h:a.length=z) (k:Nat):(a ++ m).drop ((k+1)*z)=m.drop (k*z):=by
 have e:(k+1)*z=z+k*z:=by rw [zE1,Nat.one_mul,Nat.add_comm]
 rw [e,List.drop_append,List.drop_of_length_le (by omega),h,Nat.add_sub_cancel_left,zC0]
theorem jQ {α:Type} {enc:α→List Value} {z:Nat} (hz:∀ x,(enc x).length=z):∀ (l:List α) (k:Nat),(l.take k).flatMap enc=(l.flatMap enc).take (k*z)
 | [],k=>by simp
 | x :: l,0=>by simp
 | x :: l,k+1=>by rw [List.take_succ_cons,zG2,zG2,jQ hz l k,Wu (hz x)]
theorem Qv {α:Type} {enc:α→List Value} {z:Nat} (hz:∀ x,(enc x).length=z):∀ (l:List α) (k:Nat),(l.drop k).flatMap enc=(l.flatMap enc).drop (k*z)
 | [],k=>by simp
 | x :: l,0=>by simp
 | x :: l,k+1=>by rw [List.drop_succ_cons,zG2,Qv hz l k,xC (hz x)]
theorem Xz {α:Type} [Inhabited α] {enc:α→List Value} {z:Nat} (hz:∀ x,(enc x).length=z) (l:List α) {k:Nat} (hk:k<l.length):((l.flatMap enc).drop (k*z)).take z=enc (l.getD k default):=by
 rw [← Qv hz,zG7 hk,zG2,List.take_append_of_le_length (by rw [hz];omega),zF8 (by rw [hz];omega)];rw [zA2,zA4 hk];rfl
theorem VL {α:Type} {enc:α→List Value} {z:Nat} (hz:∀ x,(enc x).length=z):∀ (l:List α) (k:Nat) (x:α),k<l.length→(l.set k x).flatMap enc=splice (l.flatMap enc) (k*z) (enc x)
 | [],k,x,h=>by simp at h
 | y :: l,0,x,h=>by
  simp only [List.set_cons_zero,zG2,splice,Nat.zero_mul,List.take_zero,zC0,zG1];rw [hz,List.drop_append,hz,zG6,List.drop_zero,List.drop_of_length_le (by rw [hz];omega),zC0]
 | y :: l,k+1,x,h=>by
  have ih:=VL hz l k x (by simpa using h);simp only [List.set_cons_succ,zG2];rw [ih];simp only [splice];have e:(k+1)*z+z=(k+1+1)*z:=by rw [zE1 (k+1) 1 z,Nat.one_mul]
  have e2:k*z+z=(k+1)*z:=by rw [zE1,Nat.one_mul]
  rw [hz,Wu (hz y),e,xC (hz y),e2,zF2]
end Go.Proofs.Xx
namespace Go.Proofs.Xx
open Go
def eI (x:Int):List Value:=[.int .i64 x]
def eB (x:Bool):List Value:=[.bool x]
def str (s:List UInt8):Value:=.string ⟨s.toArray⟩
def eS (s:List UInt8):List Value:=[str s]
def eV (v:Value):List Value:=[v]
def eU (x:Nat):List Value:=[.int .u8 x]
def Yz (c:List Value):List Value:=c
theorem qbz (s:ByteArray):str s.data.toList = .string s:=by cases s;rfl
def Gm (op:BinOp) (a b:Int):Option Prop :=
 match op with
 | .eql=>some (a=b)
 | .neq=>some (a≠b)
 | .lss=>some (a<b)
 | .leq=>some (a≤b)
 | .gtr=>some (a > b)
 | .geq=>some (a≥b)
 | _=>none
theorem Gl {P:Program} {op:BinOp} {ty:TypeId} {k:IntKind} {a b:Int} {p:Prop} (h:Gm op a b=some p):∀ v:Bool,(p↔v=true)→Qe P op ty (.int k a) (.int k b)=some (.bool v):=by
 intro v hv;have key:∀ q:Prop,∀ d:Bool,(q↔d=true)→(q↔v=true)→d=v:=fun q d h1 h2=>by
  cases d<;>cases v<;>simp_all
 cases op<;>simp only [Gm,Option.some.injEq] at h<;>try (cases h;done)
 all_goals (subst h)
 all_goals (simp only [Qe,decide_true,cmpInt,Option.some.injEq,Value.bool.injEq])
 ·exact key _ _ (by simp) hv
 ·exact key _ _ (by simp) hv
 ·exact key _ _ (by simp) hv
 ·exact key _ _ (by simp) hv
 ·exact key _ _ (by simp) hv
 ·exact key _ _ (by simp) hv
section
variable {P:Program} {X:Extern} {inR:Bool} {sz:Nat} {L:Ks} {h h0:AH} {rs:List Rs} {ops:Array Oper} {os:List Oper} {o:Oper} {R:Ks→AH→Prop} {Q:KQ}
theorem qi {c:Operand} {a b:Code} {v:Bool} (hc:kA L c=some (.bool v)) (w:K P X inR sz (match v with|true=>a|false=>b) L h Q):K P X inR sz (.cond c a b) L h Q:=by
 refine qfk hc ?_;cases v<;>exact w
def qcL (id:Nat) (Q:KQ):KQ
 | .exit id',L,h=>match Nat.beq id' id with|true=>Q .norm L h|false=>Q (.exit id') L h
 | x,L,h=>Q x L h
theorem qp {id:Nat} {body:Code} (w:K P X inR sz body L h (qcL id Q)):K P X inR sz (.block id body) L h Q:=by
 refine qec (w.mono fun x L' h' q=>?_);cases x with
 | norm=>exact q
 | ret=>exact q
 | exit id' =>
  simp only [qcL] at q;simp only [PD];by_cases e:id'=id
  ·subst e;rw [if_pos rfl];rw [show Nat.beq id' id'=true by simp] at q;exact q
  ·rw [if_neg e];rw [show Nat.beq id' id=false by rw [Bool.eq_false_iff];intro q;exact e (zA6 q)] at q;exact q
def qfQ {σ:Type} (I:σ→AH→Prop) (m:σ→Nat) (sl:σ→Ks) (s:σ) (Q:KQ):KQ
 | .norm,L,h=>∃ s',m s'<m s∧I s' h∧Ks.le (sl s') L
 | x,L,h=>Q x L h
theorem qL {σ:Type} {body:Code} (I:σ→AH→Prop) (m:σ→Nat) (sl:σ→Ks) (s0:σ) (hl:Ks.le (sl s0) L) (hi:I s0 h) (hb:∀ s h,I s h→K P X inR sz body (sl s) h (qfQ I m sl s Q)):K P X inR sz (.loop body) L h Q:=by
 refine qfj (fun k L h=>∃ s,m s=k∧L=sl s∧I s h) ?_ (m s0) ⟨s0,rfl,rfl,hi⟩ hl;rintro k L h ⟨s,rfl,rfl,hs⟩;refine (hb s h hs).mono fun x L' h' q=>?_;cases x with
 | norm=>obtain ⟨s',q1,q2,q3⟩:=q;exact ⟨m s',sl s',q1,⟨s',rfl,rfl,q2⟩,q3⟩
 | exit id=>exact q
 | ret=>exact q
theorem qgm {L':Ks} {x y:Operand} {ty ty2:TypeId} {a b:Int} (ho:o.op = .binOp .add ty x y ty2) (hg:qo ops L.tree o.guard=some true) (hx:kA L x=some (.int .i64 a)) (hy:kA L y=some (.int .i64 b))
 (hb : -9223372036854775808≤a+b∧a+b≤9223372036854775807) (hp:qE sz L o.dst (.int .i64 (a+b))=some L') (w:KO P X sz ops os L' h R):KO P X sz ops (o :: os) L h R :=
 zN ho hg hx hy (qd1 rfl hb.1 hb.2) hp w
theorem qgb {L':Ks} {x y:Operand} {ty ty2:TypeId} {a b:Int} (ho:o.op = .binOp .sub ty x y ty2) (hg:qo ops L.tree o.guard=some true) (hx:kA L x=some (.int .i64 a)) (hy:kA L y=some (.int .i64 b))
 (hb : -9223372036854775808≤a - b∧a - b≤9223372036854775807) (hp:qE sz L o.dst (.int .i64 (a - b))=some L') (w:KO P X sz ops os L' h R):KO P X sz ops (o :: os) L h R :=
 zN ho hg hx hy (qdg rfl hb.1 hb.2) hp w
theorem qge {L':Ks} {x y:Operand} {ty ty2:TypeId} {a b:Int} (ho:o.op = .binOp .mul ty x y ty2) (hg:qo ops L.tree o.guard=some true) (hx:kA L x=some (.int .i64 a)) (hy:kA L y=some (.int .i64 b))
 (hb : -9223372036854775808≤a*b∧a*b≤9223372036854775807) (hp:qE sz L o.dst (.int .i64 (a*b))=some L') (w:KO P X sz ops os L' h R):KO P X sz ops (o :: os) L h R :=
 zN ho hg hx hy (qdx rfl hb.1 hb.2) hp w
theorem qgd {L':Ks} {x y:Operand} {ty ty2:TypeId} {a b:Int} (ho:o.op = .binOp .quo ty x y ty2) (hg:qo ops L.tree o.guard=some true) (hx:kA L x=some (.int .i64 a)) (hy:kA L y=some (.int .i64 b))
 (hb:0≤a∧a≤9223372036854775807∧0<b) (hp:qE sz L o.dst (.int .i64 (a / b))=some L') (w:KO P X sz ops os L' h R):KO P X sz ops (o :: os) L h R :=
 zN ho hg hx hy (by
  have h1:¬ b=0:=by omega
  have h2:a.tdiv b=a / b:=by rw [Int.tdiv_eq_ediv_of_nonneg hb.1]
  have h3:a / b≤a:=Int.ediv_le_self b hb.1;have h4:0≤a / b:=Int.ediv_nonneg hb.1 (by omega);simp only [Qe,decide_true,decide_eq_false h1,h2];rw [wrap_i64 (by omega) (by omega)]) hp w
theorem qgc {L':Ks} {x y:Operand} {ty ty2:TypeId} {a b:Int} (ho:o.op = .binOp .rem ty x y ty2) (hg:qo ops L.tree o.guard=some true) (hx:kA L x=some (.int .i64 a)) (hy:kA L y=some (.int .i64 b))
 (hb:0≤a∧0<b) (hp:qE sz L o.dst (.int .i64 (a % b))=some L') (w:KO P X sz ops os L' h R):KO P X sz ops (o :: os) L h R :=
 zN ho hg hx hy (by
  have h1:¬ b=0:=by omega
  have h2:a.tmod b=a % b:=Int.tmod_eq_emod_of_nonneg hb.1;simp only [Qe,decide_true,decide_eq_false h1,h2]) hp w
theorem qgg {L':Ks} {x y:Operand} {tys:Array TypeId} {k k':IntKind} {a b:Int} (ho:o.op = .call { callee:=.builtin .min,args:=#[x,y],argTypes:=tys }) (hg:qo ops L.tree o.guard=some true) (hx:kA L x=some (.int k a)) (hy:kA L y=some (.int k' b))
 (hp:qE sz L o.dst (.int k (min a b))=some L') (w:KO P X sz ops os L' h R):KO P X sz ops (o :: os) L h R :=
 qW hg (by
  rw [ho];simp only [zD,zY,qB hx,qB hy,zO,Yu,lesser,qH];have:(if b<a then b else a)=min a b:=by rw [Int.min_def];split<;>split<;>omega
  rw [this]) hp w
theorem qgh {L':Ks} {x y:Operand} {tys:Array TypeId} {k k':IntKind} {a b:Int} (ho:o.op = .call { callee:=.builtin .max,args:=#[x,y],argTypes:=tys }) (hg:qo ops L.tree o.guard=some true) (hx:kA L x=some (.int k a)) (hy:kA L y=some (.int k' b))
 (hp:qE sz L o.dst (.int k (max a b))=some L') (w:KO P X sz ops os L' h R):KO P X sz ops (o :: os) L h R :=
 qW hg (by
  rw [ho];simp only [zD,zY,qB hx,qB hy,zO,Yu,greater,qH];have:(if b > a then b else a)=max a b:=by rw [Int.max_def];split<;>split<;>omega
  rw [this]) hp w
theorem qgk {L':Ks} {op:BinOp} {x y:Operand} {ty ty2:TypeId} {k:IntKind} {a b:Int} {p:Prop} (ho:o.op = .binOp op ty x y ty2) (hg:qo ops L.tree o.guard=some true) (hx:kA L x=some (.int k a)) (hy:kA L y=some (.int k b))
 (hc:Gm op a b=some p) (hq:p) (hp:qE sz L o.dst (.bool true)=some L') (w:KO P X sz ops os L' h R):KO P X sz ops (o :: os) L h R :=
 zN ho hg hx hy (Gl hc true (by simp [hq])) hp w
theorem qgl {L':Ks} {op:BinOp} {x y:Operand} {ty ty2:TypeId} {k:IntKind} {a b:Int} {p:Prop} (ho:o.op = .binOp op ty x y ty2) (hg:qo ops L.tree o.guard=some true) (hx:kA L x=some (.int k a)) (hy:kA L y=some (.int k b))
 (hc:Gm op a b=some p) (hq:¬ p) (hp:qE sz L o.dst (.bool false)=some L') (w:KO P X sz ops os L' h R):KO P X sz ops (o :: os) L h R :=
 zN ho hg hx hy (Gl hc false (by simp [hq])) hp w
theorem qgY {L1 L2:Ks} {op:BinOp} {x y:Operand} {ty ty2:TypeId} {k:IntKind} {a b:Int} {p:Prop} (ho:o.op = .binOp op ty x y ty2) (hg:qo ops L.tree o.guard=some true) (hx:kA L x=some (.int k a)) (hy:kA L y=some (.int k b))
 (hc:Gm op a b=some p) (hp1:qE sz L o.dst (.bool true)=some L1) (hp2:qE sz L o.dst (.bool false)=some L2) (w1:p→KO P X sz ops os L1 h R) (w2:¬ p→KO P X sz ops os L2 h R):KO P X sz ops (o :: os) L h R:=by
 by_cases hq:p
 ·exact qgk ho hg hx hy hc hq hp1 (w1 hq)
 ·exact qgl ho hg hx hy hc hq hp2 (w2 hq)
theorem kz {k:IntKind} {n:Int} (h:k.min≤n∧n≤k.max):k.wrap n=n:=by
 cases k<;>simp only [IntKind.min,IntKind.max,IntKind.wrap,IntKind.signed,IntKind.bits] at *<;>first|(simp at h ⊢;omega)|skip
end
end Go.Proofs.Xx
namespace Go.Proofs.Xx
open Go
def ZX (P:Program) (ty:TypeId) (c:List Value) (k:Nat):Option Value :=
 match QF P ty with
 | some true=>match zq P ty with
  | some n=>match qX c k n with
   | some xs=>some (.agg xs.toArray)
   | none=>none
  | none=>none
 | some false=>c[k]?
 | none=>none
def ZG (P:Program) (ty:TypeId) (c:List Value) (k:Nat) (v:Value):Option (List Value) :=
 match zq P ty with
 | some n=>match Nat.beq v.cells.toList.length n && (v.cells.toList.all one? && Nat.ble (k+v.cells.toList.length) c.length) with
  | true=>some (splice c k v.cells.toList)
  | false=>none
 | none=>none
def Qx (P:Program) (ty:TypeId):Option Nat:=match P.underlying ty with|some (.slice e)=>zq P e | _=>none
theorem qch {P:Program} {ty:TypeId} {cc c:List Value} {a n k:Nat} {v:Value} (ht:qX cc a n=some c) (h:ZX P ty c k=some v):ZX P ty cc (a+k)=some v:=by
 unfold ZX at h ⊢;have hl:=Je ht;split at h
 ·rename_i h1
  (try rw [h1])
  (try simp only)
  split at h
  ·rename_i m h2
   (try rw [h2])
   (try simp only)
   split at h
   ·rename_i xs h3
    have h4:=QA h3;have h5:qX cc (a+k) m=some xs:=by
     rcases h4 with ⟨h4,h6⟩|⟨rfl,rfl⟩
     ·rw [jG ht (by omega),h4]
     ·simp [qX]
    rw [h5];exact h
   ·cases h
  ·cases h
 ·rename_i h1
  (try rw [h1])
  (try simp only)
  have hk:k<n:=by have:=(zD6.1 h).1;omega
  rw [G7 ht hk];exact h
 ·cases h
theorem ZC {P:Program} {ty:TypeId} {h:AH} {b k:Nat} {c:List Value} {e:TypeId} {s:Option Nat} {r:Bool} (hg:h.get b=some (.cells c e s r)):ZE P ty (.pointer (some ⟨b,k,none⟩)) h=ZX P ty c k:=by
 simp only [ZE,QK,hg,ZX];rfl
theorem Jf {c xs:List Value} {o:Nat} (h:o+xs.length≤c.length) (j:Nat):(splice c o xs)[j]? = if j<o then c[j]? else if j<o+xs.length then xs[j - o]? else c[j]?:=by
 simp only [splice];rw [zF0,zA9,zE5 (by omega)];by_cases h1:j<o
 ·rw [if_pos h1,if_pos h1,zC7,if_pos h1]
 ·rw [if_neg h1,if_neg h1,zF0];by_cases h2:j<o+xs.length
  ·rw [if_pos h2,if_pos (by omega)]
  ·rw [if_neg h2,if_neg (by omega),zC3];congr 1;omega
theorem QZ {c xs:List Value} {o:Nat} (h:o+xs.length≤c.length):(splice c o xs).length=c.length:=by
 simp only [splice,zB2,zA9,zB4];omega
theorem yK {cc uc:List Value} {o n a z off:Nat} (h1:o+n≤cc.length) (h2:a+z≤n) (h3:off+uc.length≤z) :
 qX (splice cc (o+a+off) uc) o n=some (splice ((cc.drop o).take n) a (splice ((((cc.drop o).take n).drop a).take z) off uc)):=by
 have e1:o+a+off+uc.length≤cc.length:=by omega
 have l1:((cc.drop o).take n).length=n:=by rw [zA9,zB4];omega
 have l2:((((cc.drop o).take n).drop a).take z).length=z:=by rw [zA9,zB4,l1];omega
 have e2:off+uc.length≤((((cc.drop o).take n).drop a).take z).length:=by omega
 have e3:a+(splice ((((cc.drop o).take n).drop a).take z) off uc).length≤((cc.drop o).take n).length:=by rw [QZ e2];omega
 rw [Q8 (by rw [QZ e1];exact h1)];congr 1
 refine List.ext_getElem? fun j=>?_;rw [Jf e3,QZ e2,l2,zC7,zC3,Jf e1];by_cases hj:j<n
 ·rw [if_pos hj];have base:((cc.drop o).take n)[j]? = cc[o+j]?:=by rw [zC7,if_pos hj,zC3]
  by_cases q1:j<a
  ·rw [if_pos q1,if_pos (by omega),base]
  ·rw [if_neg q1];by_cases q2:j<a+z
   ·rw [if_pos q2,Jf e2];have piece:((((cc.drop o).take n).drop a).take z)[j - a]? = cc[o+j]?:=by
     rw [zC7,if_pos (by omega),zC3,show a+(j - a)=j by omega,base]
    by_cases q3:j - a<off
    ·rw [if_pos q3,if_pos (by omega),piece]
    ·rw [if_neg q3,if_neg (by omega)];by_cases q4:j - a<off+uc.length
     ·rw [if_pos q4,if_pos (by omega)];congr 1;omega
     ·rw [if_neg q4,if_neg (by omega),piece]
   ·rw [if_neg q2,if_neg (by omega),if_neg (by omega),base]
 ·rw [if_neg hj,if_neg (by omega),if_neg (by omega),zG5 (by omega)]
theorem XC {P:Program} {ty:TypeId} {h:AH} {b k:Nat} {c c':List Value} {e:TypeId} {s:Option Nat} {v:Value} (hg:h.get b=some (.cells c e s false)) (hs:ZG P ty c k v=some c') :
 Jr P ty (.pointer (some ⟨b,k,none⟩)) v h=some (h.put b (.cells c' e s false)):=by
 unfold ZG at hs;split at hs
 ·rename_i n hn
  split at hs
  ·rename_i hc
   cases hs
   rw [zA8] at hc;simp only [Jr,QK,hg,hn,hc.1,putCells,hc.2]
  ·cases hs
 ·cases hs
section
variable {P:Program} {X:Extern} {inR:Bool} {sz:Nat} {L:Ks} {h h0:AH} {rs:List Rs} {ops:Array Oper} {os:List Oper} {o:Oper} {R:Ks→AH→Prop} {Q:KQ}
theorem qfP {x:Operand} {e:TypeId} {v:Value} {c:List Value} {d:Tmp} (S:Hs h0 h rs) (ho:o.op = .box e x) (hg:qo ops L.tree o.guard=some true) (hx:kA L x=some v) (hc:v.cells.toList=c) (hd:o.dst=some d) (hs:Nat.blt d sz=true)
 (w:∀ b h',Hs h0 h' (.blk b c e :: rs)→KO P X sz ops os (L.put d (.pointer (some ⟨b,0,none⟩))) h' R):KO P X sz ops (o :: os) L h R:=by
 subst hc;refine qW (v:=.pointer (some ⟨h.next,0,none⟩)) (h':=h.add (.cells v.cells.toList e none false)) hg ?_ ?_ (w _ _ (S.add _ _))
 ·rw [ho];simp only [zD,qB hx,kH]
 ·simp only [qE,hd,hs]
theorem qdz {e:TypeId} {v:Value} {c:List Value} {d:Tmp} (S:Hs h0 h rs) (ho:o.op = .alloc e) (hg:qo ops L.tree o.guard=some true) (hz:Xu P e=some v) (hpl:Qs v=true) (hc:v.cells.toList=c) (hd:o.dst=some d) (hs:Nat.blt d sz=true)
 (w:∀ b h',Hs h0 h' (.blk b c e :: rs)→KO P X sz ops os (L.put d (.pointer (some ⟨b,0,none⟩))) h' R):KO P X sz ops (o :: os) L h R:=by
 subst hc;refine qW (v:=.pointer (some ⟨h.next,0,none⟩)) (h':=h.add (.cells v.cells.toList e none false)) hg ?_ ?_ (w _ _ (S.add _ _))
 ·rw [ho];simp only [zD,hz,hpl,kH]
 ·simp only [qE,hd,hs]
theorem qfO {L':Ks} {x:Operand} {ty e:TypeId} {b k:Nat} {c:List Value} {v:Value} (S:Hs h0 h rs) (ho:o.op = .load ty x) (hg:qo ops L.tree o.guard=some true) (hx:kA L x=some (.pointer (some ⟨b,k,none⟩))) (hi:At rs (.blk b c e))
 (hv:ZX P ty c k=some v) (hp:qE sz L o.dst v=some L') (w:KO P X sz ops os L' h R):KO P X sz ops (o :: os) L h R :=
 kT ho hg hx (by rw [ZC (YD S hi)];exact hv) hp w
theorem qfM {L':Ks} {rs':List Rs} {x y:Operand} {ty e:TypeId} {b k:Nat} {c c':List Value} {v:Value} (S:Hs h0 h rs) (ho:o.op = .store ty x y) (hg:qo ops L.tree o.guard=some true) (hx:kA L x=some (.pointer (some ⟨b,k,none⟩))) (hy:kA L y=some v)
 (hi:Ut rs (.blk b c e) (.blk b c' e) rs') (hv:ZG P ty c k v=some c') (hp:qE sz L o.dst (.tuple #[])=some L') (w:∀ h',Hs h0 h' rs'→KO P X sz ops os L' h' R):KO P X sz ops (o :: os) L h R:=by
 have hg2:h.get b=some (.cells c e none false):=by
  obtain ⟨fp,k1,-⟩:=hi.ok (h':=h) S.ext.next (zA3 _) S.sep
  exact k1.1
 exact Gz ho hg hx hy (XC hg2 hv) hp (w _ (S.put hi))
theorem qei {L':Ks} {x:Operand} {ty:TypeId} {v:Value} {z n:Nat} {c:List Value} (ho:o.op = .call { callee:=.builtin .len,args:=#[x],argTypes:=#[ty] }) (hg:qo ops L.tree o.guard=some true) (hx:kA L x=some v) (hu:(qK P ty).isSome=true)
 (hr:Rd h v z n c) (hp:qE sz L o.dst (.int .i64 n)=some L') (w:KO P X sz ops os L' h R):KO P X sz ops (o :: os) L h R:=by
 obtain ⟨e,he⟩:=Option.isSome_iff_exists.1 hu;have he':P.underlying ty=some (.slice e):=by
  unfold qK at he;split at he
  ·cases he;assumption
  ·cases he
 exact qcY ho hg hx (hr.len he') hp w
theorem qeC {h:AH} {ty:TypeId} {v:Value} {z n:Nat} {c:List Value} {ik:IntKind} {a:Int} (hu:Qx P ty=some z) (hr:Rd h v z n c) (ha:0≤a∧a<n):jb P ty v (.int ik a)=some (Vd v z a.toNat 0):=by
 unfold Qx at hu;split at hu
 ·rename_i e he
  obtain ⟨k,rfl⟩:=zH4 ha.1;have hk:k<n:=by omega
  rcases hr with ⟨rfl,rfl,rfl⟩|⟨b,o,cap,cc,e',s,q,rfl,h1,h2⟩
  ·omega
  ·have:Nat.blt k n=true:=by rw [Nat.blt_eq];exact hk
   show jb P ty _ (.int ik (Int.ofNat k))=_
   simp only [jb,he,hu,this,Vd,zA0,Nat.add_zero]
 ·cases hu
theorem qek {L':Ks} {x i:Operand} {ty:TypeId} {v:Value} {ik:IntKind} {a:Int} {z n:Nat} {c:List Value} (ho:o.op = .indexAddr ty x i) (hg:qo ops L.tree o.guard=some true) (hx:kA L x=some v) (hi:kA L i=some (.int ik a)) (hu:Qx P ty=some z)
 (hr:Rd h v z n c) (ha:0≤a∧a<n) (hp:qE sz L o.dst (Vd v z a.toNat 0)=some L') (w:KO P X sz ops os L' h R):KO P X sz ops (o :: os) L h R :=
 qcZ ho hg hx hi (qeC hu hr ha) hp w
theorem qce {L':Ks} {x:Operand} {ty:TypeId} {fs:Array Field} {fd:Field} {v:Value} {z k off f m n:Nat} {c:List Value} (ho:o.op = .fieldAddr ty x f) (hg:qo ops L.tree o.guard=some true) (hx:kA L x=some (Vd v z k off)) (hu:P.underlying ty=some (.struct fs)) (hf:fs[f]? = some fd) (hm:zq P fd.type=some (m+1))
 (hr:Rd h v z n c) (hk:k<n) (hp:qE sz L o.dst (Vd v z k (off+fd.offset))=some L') (w:KO P X sz ops os L' h R):KO P X sz ops (o :: os) L h R:=by
 refine qW hg ?_ hp w;rw [ho];rcases hr with ⟨rfl,rfl,rfl⟩|⟨b,o',cap,cc,e',s,q,rfl,h1,h2⟩
 ·omega
 ·simp only [zD,qB hx,Vd,Jt,hu,hf,hm,qH,zF7]
theorem qeB {α:Type} [Inhabited α] {h:AH} {ty:TypeId} {v u:Value} {z k off:Nat} {enc:α→List Value} {l:List α} (hr:zo h v z enc l) (hz:∀ x,(enc x).length=z) (hk:k<l.length) (hv:ZX P ty (enc (l.getD k default)) off=some u):ZE P ty (Vd v z k off) h=some u:=by
 rcases hr with ⟨rfl,h1,h2⟩|⟨b,o',cap,cc,e',s,q,rfl,h1,h2⟩
 ·rw [h1] at hk;omega
 ·simp only [Vd];rw [ZC h1];have hkz:k*z+z≤l.length*z:=by
   have:(k+1)*z≤l.length*z:=zD3 z hk;rw [zE1,Nat.one_mul] at this;exact this
  have h3:=jG h2 (i:=k*z) (m:=z) hkz;rw [Xz hz l hk] at h3;exact qch h3 hv
theorem qej {α:Type} [Inhabited α] {L':Ks} {x:Operand} {ty:TypeId} {v u:Value} {z k off:Nat} {enc:α→List Value} {l:List α} (ho:o.op = .load ty x) (hg:qo ops L.tree o.guard=some true) (hx:kA L x=some (Vd v z k off))
 (hr:zo h v z enc l) (hz:∀ x,(enc x).length=z) (hk:k<l.length) (hv:ZX P ty (enc (l.getD k default)) off=some u) (hp:qE sz L o.dst u=some L') (w:KO P X sz ops os L' h R):KO P X sz ops (o :: os) L h R :=
 kT ho hg hx (qeB hr hz hk hv) hp w
theorem qbF {α:Type} [Inhabited α] {rs':List Rs} {ty e:TypeId} {v u:Value} {z k off:Nat} {enc:α→List Value} {l:List α} {y:α} (S:Hs h0 h rs) (hi:Ut rs (.sl v e z enc l) (.sl v e z enc (l.set k y)) rs') (hz:∀ x,(enc x).length=z) (hk:k<l.length)
 (hv:ZG P ty (enc (l.getD k default)) off u=some (enc y)):∃ h',Jr P ty (Vd v z k off) u h=some h'∧Hs h0 h' rs':=by
 obtain ⟨fp,k1,k2,-⟩:=hi.ok (h':=h) S.ext.next (zA3 _) S.sep
 rcases k1 with ⟨rfl,rfl⟩|⟨b,o',cc,slk,cap,h1,h2,h3,h4,h5,h6⟩
 ·simp at hk
 subst h1;have hkz:k*z+z≤l.length*z:=by
  have:(k+1)*z≤l.length*z:=zD3 z hk;rw [zE1,Nat.one_mul] at this;exact this
 obtain ⟨he,hlen⟩:l.flatMap enc=(cc.drop o').take (l.length*z)∧o'+l.length*z≤cc.length:=by
  rcases QA h4 with q|⟨q1,q2⟩
  ·exact q
  ·have hm:=zD3 z h5.1;exact ⟨by rw [q2,q1];simp,by omega⟩
 have hpc:=Xz hz l hk;unfold ZG at hv;split at hv
 rotate_left
 ·cases hv
 rename_i n hn
 split at hv
 rotate_left
 ·cases hv
 rename_i hc
 simp only [Option.some.injEq] at hv;rw [zA8,zA8] at hc;have hfit:=zB6 hc.2.2;rw [hz] at hfit;have hst:ZG P ty cc (o'+k*z+off) u=some (splice cc (o'+k*z+off) u.cells.toList):=by
  unfold ZG;rw [hn];simp only [hc.1,hc.2.1,Bool.true_and];rw [zB3 (by omega)]
 refine ⟨_,XC h2 hst,?_⟩;refine S.turn hi (zA3 _) (S.wf.put (k2 b h3).2.1 _) fun fq q1 q2=>?_;have hb:fq b:=by
  rcases q1 with ⟨q,-⟩|⟨b',o2,cc2,sl2,cap2,q3,q4,q5,-⟩
  ·cases q
  ·cases q3;exact q5
 refine ⟨fun j _ hj=>by rw [AH.get_put,if_neg];intro q;subst q;exact hj hb,fun j=>j=b,.inr ⟨b,o',_,slk,cap,by rw [zF5],by rw [AH.get_put,if_pos rfl],rfl,?_,?_,h6⟩,fun j hj=>by subst hj;exact ⟨(k2 _ h3).2.1,.inl hb⟩⟩
 ·rw [zF5,VL hz l k y hk,← hv,← hpc,he];exact yK hlen hkz hfit
 ·rw [zF5,QZ (by omega)];exact h5
theorem qfL {α:Type} [Inhabited α] {L':Ks} {rs':List Rs} {x yo:Operand} {ty e:TypeId} {v u:Value} {z k off:Nat} {enc:α→List Value} {l:List α} {y:α} (S:Hs h0 h rs) (ho:o.op = .store ty x yo) (hg:qo ops L.tree o.guard=some true) (hx:kA L x=some (Vd v z k off)) (hy:kA L yo=some u)
 (hi:Ut rs (.sl v e z enc l) (.sl v e z enc (l.set k y)) rs') (hz:∀ x,(enc x).length=z) (hk:k<l.length) (hv:ZG P ty (enc (l.getD k default)) off u=some (enc y)) (hp:qE sz L o.dst (.tuple #[])=some L')
 (w:∀ h',Hs h0 h' rs'→KO P X sz ops os L' h' R):KO P X sz ops (o :: os) L h R:=by
 obtain ⟨h',q1,q2⟩:=qbF S hi hz hk hv;exact Gz ho hg hx hy q1 hp (w h' q2)
end
end Go.Proofs.Xx
