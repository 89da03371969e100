/-
  The rules of the operations,over resources.
-/
import Derived.Test.YtnponmgkfkdkaaaGreatDoorM4
set_option linter.unusedSectionVars false
set_option linter.unusedSimpArgs false
set_option linter.unusedVariables false
namespace Go.Proofs.Xx
open Go
def eI (x:Int):List Value:=[.int .i64 x]
def eB (x:Bool):List Value:=[.bool x]
def str (s:List UInt8):Value:=.string ⟨s.toArray⟩
def eS (s:List UInt8):List Value:=[str s]
def eV (v:Value):List Value:=[v]
def eU (x:Nat):List Value:=[.int .u8 x]
def Xw (c:List Value):List Value:=c
theorem qdn (s:ByteArray):str s.data.toList = .string s:=by cases s;rfl
def PV (op:BinOp) (a b:Int):Option Prop :=
 match op with
 | .eql=>some (a=b)
 | .neq=>some (a≠b)
 | .lss=>some (a<b)
 | .leq=>some (a≤b)
 | .gtr=>some (a > b)
 | .geq=>some (a≥b)
 | _=>none
theorem PU {P:Program} {op:BinOp} {ty:TypeId} {k:IntKind} {a b:Int} {p:Prop} (h:PV op a b=some p):∀ v:Bool,(p↔v=true)→jP P op ty (.int k a) (.int k b)=some (.bool v):=by
 intro v hv;have key:∀ q:Prop,∀ d:Bool,(q↔d=true)→(q↔v=true)→d=v:=fun q d h1 h2=>by
  cases d<;>cases v<;>simp_all
 cases op<;>simp only [PV,Option.some.injEq] at h<;>try (cases h;done)
 all_goals (subst h)
 all_goals (simp only [jP,decide_true,cmpInt,Option.some.injEq,Value.bool.injEq])
 ·exact key _ _ (by simp) hv
 ·exact key _ _ (by simp) hv
 ·exact key _ _ (by simp) hv
 ·exact key _ _ (by simp) hv
 ·exact key _ _ (by simp) hv
 ·exact key _ _ (by simp) hv
section
variable {P:Program} {X:Extern} {inR:Bool} {sz:Nat} {L:Ks} {h h0:AH} {rs:List Rs} {ops:Array Oper} {os:List Oper} {o:Oper} {R:Ks→AH→Prop} {Q:KQ}
theorem qh {c:Operand} {a b:Code} {v:Bool} (hc:kA L c=some (.bool v)) (w:K P X inR sz (match v with|true=>a|false=>b) L h Q):K P X inR sz (.cond c a b) L h Q:=by
 refine qhu hc ?_;cases v<;>exact w
def qey (id:Nat) (Q:KQ):KQ
 | .exit id',L,h=>match Nat.beq id' id with|true=>Q .norm L h|false=>Q (.exit id') L h
 | x,L,h=>Q x L h
theorem ql {id:Nat} {body:Code} (w:K P X inR sz body L h (qey id Q)):K P X inR sz (.block id body) L h Q:=by
 refine qfT (w.mono fun x L' h' q=>?_);cases x with
 | norm=>exact q
 | ret=>exact q
 | exit id' =>
  simp only [qey] at q;simp only [qba];by_cases e:id'=id
  ·subst e;rw [if_pos rfl];rw [show Nat.beq id' id'=true by simp] at q;exact q
  ·rw [if_neg e];rw [show Nat.beq id' id=false by rw [Bool.eq_false_iff];intro q;exact e (zA6 q)] at q;exact q
def qig {σ:Type} (I:σ→AH→Prop) (m:σ→Nat) (sl:σ→Ks) (s:σ) (Q:KQ):KQ
 | .norm,L,h=>∃ s',m s'<m s∧I s' h∧Ks.le (sl s') L
 | x,L,h=>Q x L h
theorem qB {σ:Type} {body:Code} (I:σ→AH→Prop) (m:σ→Nat) (sl:σ→Ks) (s0:σ) (hl:Ks.le (sl s0) L) (hi:I s0 h) (hb:∀ s h,I s h→K P X inR sz body (sl s) h (qig I m sl s Q)):K P X inR sz (.loop body) L h Q:=by
 refine qht (fun k L h=>∃ s,m s=k∧L=sl s∧I s h) ?_ (m s0) ⟨s0,rfl,rfl,hi⟩ hl;rintro k L h ⟨s,rfl,rfl,hs⟩;refine (hb s h hs).mono fun x L' h' q=>?_;cases x with
 | norm=>obtain ⟨s',q1,q2,q3⟩:=q;exact ⟨m s',sl s',q1,⟨s',rfl,rfl,q2⟩,q3⟩
 | exit id=>exact q
 | ret=>exact q
theorem qiS {L':Ks} {x y:Operand} {ty ty2:TypeId} {a b:Int} (ho:o.op = .binOp .add ty x y ty2) (hg:qo ops L.tree o.guard=some true) (hx:kA L x=some (.int .i64 a)) (hy:kA L y=some (.int .i64 b))
 (hb : -9223372036854775808≤a+b∧a+b≤9223372036854775807) (hp:qG sz L o.dst (.int .i64 (a+b))=some L') (w:KO P X sz ops os L' h R):KO P X sz ops (o :: os) L h R :=
 zN ho hg hx hy (qbT rfl hb.1 hb.2) hp w
theorem qiH {L':Ks} {x y:Operand} {ty ty2:TypeId} {a b:Int} (ho:o.op = .binOp .sub ty x y ty2) (hg:qo ops L.tree o.guard=some true) (hx:kA L x=some (.int .i64 a)) (hy:kA L y=some (.int .i64 b))
 (hb : -9223372036854775808≤a - b∧a - b≤9223372036854775807) (hp:qG sz L o.dst (.int .i64 (a - b))=some L') (w:KO P X sz ops os L' h R):KO P X sz ops (o :: os) L h R :=
 zN ho hg hx hy (qeV rfl hb.1 hb.2) hp w
theorem qiK {L':Ks} {x y:Operand} {ty ty2:TypeId} {a b:Int} (ho:o.op = .binOp .mul ty x y ty2) (hg:qo ops L.tree o.guard=some true) (hx:kA L x=some (.int .i64 a)) (hy:kA L y=some (.int .i64 b))
 (hb : -9223372036854775808≤a*b∧a*b≤9223372036854775807) (hp:qG sz L o.dst (.int .i64 (a*b))=some L') (w:KO P X sz ops os L' h R):KO P X sz ops (o :: os) L h R :=
 zN ho hg hx hy (qe9 rfl hb.1 hb.2) hp w
theorem qiJ {L':Ks} {x y:Operand} {ty ty2:TypeId} {a b:Int} (ho:o.op = .binOp .quo ty x y ty2) (hg:qo ops L.tree o.guard=some true) (hx:kA L x=some (.int .i64 a)) (hy:kA L y=some (.int .i64 b))
 (hb:0≤a∧a≤9223372036854775807∧0<b) (hp:qG sz L o.dst (.int .i64 (a / b))=some L') (w:KO P X sz ops os L' h R):KO P X sz ops (o :: os) L h R :=
 zN ho hg hx hy (by
  have h1:¬ b=0:=by omega
  have h2:a.tdiv b=a / b:=by rw [Int.tdiv_eq_ediv_of_nonneg hb.1]
  have h3:a / b≤a:=Int.ediv_le_self b hb.1;have h4:0≤a / b:=Int.ediv_nonneg hb.1 (by omega);simp only [jP,decide_true,decide_eq_false h1,h2];rw [wrap_i64 (by omega) (by omega)]) hp w
theorem qiI {L':Ks} {x y:Operand} {ty ty2:TypeId} {a b:Int} (ho:o.op = .binOp .rem ty x y ty2) (hg:qo ops L.tree o.guard=some true) (hx:kA L x=some (.int .i64 a)) (hy:kA L y=some (.int .i64 b))
 (hb:0≤a∧0<b) (hp:qG sz L o.dst (.int .i64 (a % b))=some L') (w:KO P X sz ops os L' h R):KO P X sz ops (o :: os) L h R :=
 zN ho hg hx hy (by
  have h1:¬ b=0:=by omega
  have h2:a.tmod b=a % b:=Int.tmod_eq_emod_of_nonneg hb.1;simp only [jP,decide_true,decide_eq_false h1,h2]) hp w
theorem qiM {L':Ks} {x y:Operand} {tys:Array TypeId} {k k':IntKind} {a b:Int} (ho:o.op = .call { callee:=.builtin .min,args:=#[x,y],argTypes:=tys }) (hg:qo ops L.tree o.guard=some true) (hx:kA L x=some (.int k a)) (hy:kA L y=some (.int k' b))
 (hp:qG sz L o.dst (.int k (min a b))=some L') (w:KO P X sz ops os L' h R):KO P X sz ops (o :: os) L h R :=
 zo hg (by
  rw [ho];simp only [zX,jA,qE hx,qE hy,jk,Y0,lesser,qM];have:(if b<a then b else a)=min a b:=by rw [Int.min_def];split<;>split<;>omega
  rw [this]) hp w
theorem qiN {L':Ks} {x y:Operand} {tys:Array TypeId} {k k':IntKind} {a b:Int} (ho:o.op = .call { callee:=.builtin .max,args:=#[x,y],argTypes:=tys }) (hg:qo ops L.tree o.guard=some true) (hx:kA L x=some (.int k a)) (hy:kA L y=some (.int k' b))
 (hp:qG sz L o.dst (.int k (max a b))=some L') (w:KO P X sz ops os L' h R):KO P X sz ops (o :: os) L h R :=
 zo hg (by
  rw [ho];simp only [zX,jA,qE hx,qE hy,jk,Y0,greater,qM];have:(if b > a then b else a)=max a b:=by rw [Int.max_def];split<;>split<;>omega
  rw [this]) hp w
theorem qiQ {L':Ks} {op:BinOp} {x y:Operand} {ty ty2:TypeId} {k:IntKind} {a b:Int} {p:Prop} (ho:o.op = .binOp op ty x y ty2) (hg:qo ops L.tree o.guard=some true) (hx:kA L x=some (.int k a)) (hy:kA L y=some (.int k b))
 (hc:PV op a b=some p) (hq:p) (hp:qG sz L o.dst (.bool true)=some L') (w:KO P X sz ops os L' h R):KO P X sz ops (o :: os) L h R :=
 zN ho hg hx hy (PU hc true (by simp [hq])) hp w
theorem qiR {L':Ks} {op:BinOp} {x y:Operand} {ty ty2:TypeId} {k:IntKind} {a b:Int} {p:Prop} (ho:o.op = .binOp op ty x y ty2) (hg:qo ops L.tree o.guard=some true) (hx:kA L x=some (.int k a)) (hy:kA L y=some (.int k b))
 (hc:PV op a b=some p) (hq:¬ p) (hp:qG sz L o.dst (.bool false)=some L') (w:KO P X sz ops os L' h R):KO P X sz ops (o :: os) L h R :=
 zN ho hg hx hy (PU hc false (by simp [hq])) hp w
theorem qjz {L1 L2:Ks} {op:BinOp} {x y:Operand} {ty ty2:TypeId} {k:IntKind} {a b:Int} {p:Prop} (ho:o.op = .binOp op ty x y ty2) (hg:qo ops L.tree o.guard=some true) (hx:kA L x=some (.int k a)) (hy:kA L y=some (.int k b))
 (hc:PV op a b=some p) (hp1:qG sz L o.dst (.bool true)=some L1) (hp2:qG sz L o.dst (.bool false)=some L2) (w1:p→KO P X sz ops os L1 h R) (w2:¬ p→KO P X sz ops os L2 h R):KO P X sz ops (o :: os) L h R:=by
 by_cases hq:p
 ·exact qiQ ho hg hx hy hc hq hp1 (w1 hq)
 ·exact qiR ho hg hx hy hc hq hp2 (w2 hq)
theorem Gg {k:IntKind} {n:Int} (h:k.min≤n∧n≤k.max):k.wrap n=n:=by
 cases k<;>simp only [IntKind.min,IntKind.max,IntKind.wrap,IntKind.signed,IntKind.bits] at *<;>first|(simp at h ⊢;omega)|skip
end
end Go.Proofs.Xx
namespace Go.Proofs.Xx
open Go
def Jn (P:Program) (ty:TypeId) (c:List Value) (k:Nat):Option Value :=
 match Q3 P ty with
 | some true=>match zI P ty with
  | some n=>match zn c k n with
   | some xs=>some (.agg xs.toArray)
   | none=>none
  | none=>none
 | some false=>c[k]?
 | none=>none
def Z9 (P:Program) (ty:TypeId) (c:List Value) (k:Nat) (v:Value):Option (List Value) :=
 match zI P ty with
 | some n=>match Nat.beq v.cells.toList.length n && (v.cells.toList.all one? && Nat.ble (k+v.cells.toList.length) c.length) with
  | true=>some (splice c k v.cells.toList)
  | false=>none
 | none=>none
def Zn (P:Program) (ty:TypeId):Option Nat:=match P.underlying ty with|some (.slice e)=>zI P e | _=>none
theorem qd3 {P:Program} {ty:TypeId} {cc c:List Value} {a n k:Nat} {v:Value} (ht:zn cc a n=some c) (h:Jn P ty c k=some v):Jn P ty cc (a+k)=some v:=by
 unfold Jn at h ⊢;have hl:=JA ht;split at h
 ·rename_i h1
  (try rw [h1])
  (try simp only)
  split at h
  ·rename_i m h2
   (try rw [h2])
   (try simp only)
   split at h
   ·rename_i xs h3
    have h4:=QU h3;have h5:zn cc (a+k) m=some xs:=by
     rcases h4 with ⟨h4,h6⟩|⟨rfl,rfl⟩
     ·rw [Qx ht (by omega),h4]
     ·simp [zn]
    rw [h5];exact h
   ·cases h
  ·cases h
 ·rename_i h1
  (try rw [h1])
  (try simp only)
  have hk:k<n:=by have:=(zD6.1 h).1;omega
  rw [qas ht hk];exact h
 ·cases h
theorem Z7 {P:Program} {ty:TypeId} {h:AH} {b k:Nat} {c:List Value} {e:TypeId} {s:Option Nat} {r:Bool} (hg:h.get b=some (.cells c e s r)):Z8 P ty (.pointer (some ⟨b,k,none⟩)) h=Jn P ty c k:=by
 simp only [Z8,Q8,hg,Jn];rfl
theorem JC {c xs:List Value} {o:Nat} (h:o+xs.length≤c.length) (j:Nat):(splice c o xs)[j]? = if j<o then c[j]? else if j<o+xs.length then xs[j - o]? else c[j]?:=by
 simp only [splice];rw [zF0,zA9,zE5 (by omega)];by_cases h1:j<o
 ·rw [if_pos h1,if_pos h1,zC7,if_pos h1]
 ·rw [if_neg h1,if_neg h1,zF0];by_cases h2:j<o+xs.length
  ·rw [if_pos h2,if_pos (by omega)]
  ·rw [if_neg h2,if_neg (by omega),zC3];congr 1;omega
theorem Zr {c xs:List Value} {o:Nat} (h:o+xs.length≤c.length):(splice c o xs).length=c.length:=by
 simp only [splice,zB2,zA9,zB4];omega
theorem wH {cc uc:List Value} {o n a z off:Nat} (h1:o+n≤cc.length) (h2:a+z≤n) (h3:off+uc.length≤z) :
 zn (splice cc (o+a+off) uc) o n=some (splice ((cc.drop o).take n) a (splice ((((cc.drop o).take n).drop a).take z) off uc)):=by
 have e1:o+a+off+uc.length≤cc.length:=by omega
 have l1:((cc.drop o).take n).length=n:=by rw [zA9,zB4];omega
 have l2:((((cc.drop o).take n).drop a).take z).length=z:=by rw [zA9,zB4,l1];omega
 have e2:off+uc.length≤((((cc.drop o).take n).drop a).take z).length:=by omega
 have e3:a+(splice ((((cc.drop o).take n).drop a).take z) off uc).length≤((cc.drop o).take n).length:=by rw [Zr e2];omega
 rw [Jf (by rw [Zr e1];exact h1)];congr 1
 refine List.ext_getElem? fun j=>?_;rw [JC e3,Zr e2,l2,zC7,zC3,JC e1];by_cases hj:j<n
 ·rw [if_pos hj];have base:((cc.drop o).take n)[j]? = cc[o+j]?:=by rw [zC7,if_pos hj,zC3]
  by_cases q1:j<a
  ·rw [if_pos q1,if_pos (by omega),base]
  ·rw [if_neg q1];by_cases q2:j<a+z
   ·rw [if_pos q2,JC e2];have piece:((((cc.drop o).take n).drop a).take z)[j - a]? = cc[o+j]?:=by
     rw [zC7,if_pos (by omega),zC3,show a+(j - a)=j by omega,base]
    by_cases q3:j - a<off
    ·rw [if_pos q3,if_pos (by omega),piece]
    ·rw [if_neg q3,if_neg (by omega)];by_cases q4:j - a<off+uc.length
     ·rw [if_pos q4,if_pos (by omega)];congr 1;omega
     ·rw [if_neg q4,if_neg (by omega),piece]
   ·rw [if_neg q2,if_neg (by omega),if_neg (by omega),base]
 ·rw [if_neg hj,if_neg (by omega),if_neg (by omega),zG5 (by omega)]
theorem Yc {P:Program} {ty:TypeId} {h:AH} {b k:Nat} {c c':List Value} {e:TypeId} {s:Option Nat} {v:Value} (hg:h.get b=some (.cells c e s false)) (hs:Z9 P ty c k v=some c') :
 JR P ty (.pointer (some ⟨b,k,none⟩)) v h=some (h.put b (.cells c' e s false)):=by
 unfold Z9 at hs;split at hs
 ·rename_i n hn
  split at hs
  ·rename_i hc
   cases hs
   rw [zA8] at hc;simp only [JR,Q8,hg,hn,hc.1,putCells,hc.2]
  ·cases hs
 ·cases hs
section
variable {P:Program} {X:Extern} {inR:Bool} {sz:Nat} {L:Ks} {h h0:AH} {rs:List Rs} {ops:Array Oper} {os:List Oper} {o:Oper} {R:Ks→AH→Prop} {Q:KQ}
theorem qif {x:Operand} {e:TypeId} {v:Value} {c:List Value} {d:Tmp} (S:Hs h0 h rs) (ho:o.op = .box e x) (hg:qo ops L.tree o.guard=some true) (hx:kA L x=some v) (hc:v.cells.toList=c) (hd:o.dst=some d) (hs:Nat.blt d sz=true)
 (w:∀ b h',Hs h0 h' (.blk b c e :: rs)→KO P X sz ops os (L.put d (.pointer (some ⟨b,0,none⟩))) h' R):KO P X sz ops (o :: os) L h R:=by
 subst hc;refine zo (v:=.pointer (some ⟨h.next,0,none⟩)) (h':=h.add (.cells v.cells.toList e none false)) hg ?_ ?_ (w _ _ (S.add _ _))
 ·rw [ho];simp only [zX,qE hx,Gn]
 ·simp only [qG,hd,hs]
theorem qfa {e:TypeId} {v:Value} {c:List Value} {d:Tmp} (S:Hs h0 h rs) (ho:o.op = .alloc e) (hg:qo ops L.tree o.guard=some true) (hz:X5 P e=some v) (hpl:QJ v=true) (hc:v.cells.toList=c) (hd:o.dst=some d) (hs:Nat.blt d sz=true)
 (w:∀ b h',Hs h0 h' (.blk b c e :: rs)→KO P X sz ops os (L.put d (.pointer (some ⟨b,0,none⟩))) h' R):KO P X sz ops (o :: os) L h R:=by
 subst hc;refine zo (v:=.pointer (some ⟨h.next,0,none⟩)) (h':=h.add (.cells v.cells.toList e none false)) hg ?_ ?_ (w _ _ (S.add _ _))
 ·rw [ho];simp only [zX,hz,hpl,Gn]
 ·simp only [qG,hd,hs]
theorem qid {L':Ks} {x:Operand} {ty e:TypeId} {b k:Nat} {c:List Value} {v:Value} (S:Hs h0 h rs) (ho:o.op = .load ty x) (hg:qo ops L.tree o.guard=some true) (hx:kA L x=some (.pointer (some ⟨b,k,none⟩))) (hi:At rs (.blk b c e))
 (hv:Jn P ty c k=some v) (hp:qG sz L o.dst v=some L') (w:KO P X sz ops os L' h R):KO P X sz ops (o :: os) L h R :=
 GH ho hg hx (by rw [Z7 (XW S hi)];exact hv) hp w
theorem qib {L':Ks} {rs':List Rs} {x y:Operand} {ty e:TypeId} {b k:Nat} {c c':List Value} {v:Value} (S:Hs h0 h rs) (ho:o.op = .store ty x y) (hg:qo ops L.tree o.guard=some true) (hx:kA L x=some (.pointer (some ⟨b,k,none⟩))) (hy:kA L y=some v)
 (hi:Ut rs (.blk b c e) (.blk b c' e) rs') (hv:Z9 P ty c k v=some c') (hp:qG sz L o.dst (.tuple #[])=some L') (w:∀ h',Hs h0 h' rs'→KO P X sz ops os L' h' R):KO P X sz ops (o :: os) L h R:=by
 have hg2:h.get b=some (.cells c e none false):=by
  obtain ⟨fp,k1,-⟩:=hi.ok (h':=h) S.ext.next (zA3 _) S.sep
  exact k1.1
 exact qaf ho hg hx hy (Yc hg2 hv) hp (w _ (S.put hi))
theorem qf5 {L':Ks} {x:Operand} {ty:TypeId} {v:Value} {z n:Nat} {c:List Value} (ho:o.op = .call { callee:=.builtin .len,args:=#[x],argTypes:=#[ty] }) (hg:qo ops L.tree o.guard=some true) (hx:kA L x=some v) (hu:(qQ P ty).isSome=true)
 (hr:Rd h v z n c) (hp:qG sz L o.dst (.int .i64 n)=some L') (w:KO P X sz ops os L' h R):KO P X sz ops (o :: os) L h R:=by
 obtain ⟨e,he⟩:=Option.isSome_iff_exists.1 hu;have he':P.underlying ty=some (.slice e):=by
  unfold qQ at he;split at he
  ·cases he;assumption
  ·cases he
 exact qeP ho hg hx (hr.len he') hp w
theorem qgw {h:AH} {ty:TypeId} {v:Value} {z n:Nat} {c:List Value} {ik:IntKind} {a:Int} (hu:Zn P ty=some z) (hr:Rd h v z n c) (ha:0≤a∧a<n):jy P ty v (.int ik a)=some (yG v z a.toNat 0):=by
 unfold Zn at hu;split at hu
 ·rename_i e he
  obtain ⟨k,rfl⟩:=zH3 ha.1;have hk:k<n:=by omega
  rcases hr with ⟨rfl,rfl,rfl⟩|⟨b,o,cap,cc,e',s,q,rfl,h1,h2⟩
  ·omega
  ·have:Nat.blt k n=true:=by rw [Nat.blt_eq];exact hk
   show jy P ty _ (.int ik (Int.ofNat k))=_
   simp only [jy,he,hu,this,yG,zA0,Nat.add_zero]
 ·cases hu
theorem qf7 {L':Ks} {x i:Operand} {ty:TypeId} {v:Value} {ik:IntKind} {a:Int} {z n:Nat} {c:List Value} (ho:o.op = .indexAddr ty x i) (hg:qo ops L.tree o.guard=some true) (hx:kA L x=some v) (hi:kA L i=some (.int ik a)) (hu:Zn P ty=some z)
 (hr:Rd h v z n c) (ha:0≤a∧a<n) (hp:qG sz L o.dst (yG v z a.toNat 0)=some L') (w:KO P X sz ops os L' h R):KO P X sz ops (o :: os) L h R :=
 qeQ ho hg hx hi (qgw hu hr ha) hp w
theorem qie {L':Ks} {x:Operand} {ty:TypeId} {fs:Array Field} {fd:Field} {v:Value} {z k off f m n:Nat} {c:List Value} (ho:o.op = .fieldAddr ty x f) (hg:qo ops L.tree o.guard=some true) (hx:kA L x=some (yG v z k off)) (hu:P.underlying ty=some (.struct fs)) (hf:fs[f]? = some fd) (hm:zI P fd.type=some (m+1))
 (hr:Rd h v z n c) (hk:k<n) (hp:qG sz L o.dst (yG v z k (off+fd.offset))=some L') (w:KO P X sz ops os L' h R):KO P X sz ops (o :: os) L h R:=by
 refine zo hg ?_ hp w;rw [ho];rcases hr with ⟨rfl,rfl,rfl⟩|⟨b,o',cap,cc,e',s,q,rfl,h1,h2⟩
 ·omega
 ·simp only [zX,qE hx,yG,JU,hu,hf,hm,qM,zF7]
theorem qgv {α:Type} [Inhabited α] {h:AH} {ty:TypeId} {v u:Value} {z k off:Nat} {enc:α→List Value} {l:List α} (hr:zl h v z enc l) (hz:∀ x,(enc x).length=z) (hk:k<l.length) (hv:Jn P ty (enc (l.getD k default)) off=some u):Z8 P ty (yG v z k off) h=some u:=by
 rcases hr with ⟨rfl,h1,h2⟩|⟨b,o',cap,cc,e',s,q,rfl,h1,h2⟩
 ·rw [h1] at hk;omega
 ·simp only [yG];rw [Z7 h1];have hkz:k*z+z≤l.length*z:=by
   have:(k+1)*z≤l.length*z:=zD3 z hk;rw [zE1,Nat.one_mul] at this;exact this
  have h3:=Qx h2 (i:=k*z) (m:=z) hkz;rw [X9 hz l hk] at h3;exact qd3 h3 hv
theorem qf6 {α:Type} [Inhabited α] {L':Ks} {x:Operand} {ty:TypeId} {v u:Value} {z k off:Nat} {enc:α→List Value} {l:List α} (ho:o.op = .load ty x) (hg:qo ops L.tree o.guard=some true) (hx:kA L x=some (yG v z k off))
 (hr:zl h v z enc l) (hz:∀ x,(enc x).length=z) (hk:k<l.length) (hv:Jn P ty (enc (l.getD k default)) off=some u) (hp:qG sz L o.dst u=some L') (w:KO P X sz ops os L' h R):KO P X sz ops (o :: os) L h R :=
 GH ho hg hx (qgv hr hz hk hv) hp w
theorem qdt {α:Type} [Inhabited α] {rs':List Rs} {ty e:TypeId} {v u:Value} {z k off:Nat} {enc:α→List Value} {l:List α} {y:α} (S:Hs h0 h rs) (hi:Ut rs (.sl v e z enc l) (.sl v e z enc (l.set k y)) rs') (hz:∀ x,(enc x).length=z) (hk:k<l.length)
 (hv:Z9 P ty (enc (l.getD k default)) off u=some (enc y)):∃ h',JR P ty (yG v z k off) u h=some h'∧Hs h0 h' rs':=by
 obtain ⟨fp,k1,k2,-⟩:=hi.ok (h':=h) S.ext.next (zA3 _) S.sep
 rcases k1 with ⟨rfl,rfl⟩|⟨b,o',cc,slk,cap,h1,h2,h3,h4,h5,h6⟩
 ·simp at hk
 subst h1;have hkz:k*z+z≤l.length*z:=by
  have:(k+1)*z≤l.length*z:=zD3 z hk;rw [zE1,Nat.one_mul] at this;exact this
 obtain ⟨he,hlen⟩:l.flatMap enc=(cc.drop o').take (l.length*z)∧o'+l.length*z≤cc.length:=by
  rcases QU h4 with q|⟨q1,q2⟩
  ·exact q
  ·have hm:=zD3 z h5.1;exact ⟨by rw [q2,q1];simp,by omega⟩
 have hpc:=X9 hz l hk;unfold Z9 at hv;split at hv
 rotate_left
 ·cases hv
 rename_i n hn
 split at hv
 rotate_left
 ·cases hv
 rename_i hc
 simp only [Option.some.injEq] at hv;rw [zA8,zA8] at hc;have hfit:=zB6 hc.2.2;rw [hz] at hfit;have hst:Z9 P ty cc (o'+k*z+off) u=some (splice cc (o'+k*z+off) u.cells.toList):=by
  unfold Z9;rw [hn];simp only [hc.1,hc.2.1,Bool.true_and];rw [zB3 (by omega)]
 refine ⟨_,Yc h2 hst,?_⟩;refine S.turn hi (zA3 _) (S.wf.put (k2 b h3).2.1 _) fun fq q1 q2=>?_;have hb:fq b:=by
  rcases q1 with ⟨q,-⟩|⟨b',o2,cc2,sl2,cap2,q3,q4,q5,-⟩
  ·cases q
  ·cases q3;exact q5
 refine ⟨fun j _ hj=>by rw [AH.get_put,if_neg];intro q;subst q;exact hj hb,fun j=>j=b,.inr ⟨b,o',_,slk,cap,by rw [zF5],by rw [AH.get_put,if_pos rfl],rfl,?_,?_,h6⟩,fun j hj=>by subst hj;exact ⟨(k2 _ h3).2.1,.inl hb⟩⟩
 ·rw [zF5,Wq hz l k y hk,← hv,← hpc,he];exact wH hlen hkz hfit
 ·rw [zF5,Zr (by omega)];exact h5
theorem qia {α:Type} [Inhabited α] {L':Ks} {rs':List Rs} {x yo:Operand} {ty e:TypeId} {v u:Value} {z k off:Nat} {enc:α→List Value} {l:List α} {y:α} (S:Hs h0 h rs) (ho:o.op = .store ty x yo) (hg:qo ops L.tree o.guard=some true) (hx:kA L x=some (yG v z k off)) (hy:kA L yo=some u)
 (hi:Ut rs (.sl v e z enc l) (.sl v e z enc (l.set k y)) rs') (hz:∀ x,(enc x).length=z) (hk:k<l.length) (hv:Z9 P ty (enc (l.getD k default)) off u=some (enc y)) (hp:qG sz L o.dst (.tuple #[])=some L')
 (w:∀ h',Hs h0 h' rs'→KO P X sz ops os L' h' R):KO P X sz ops (o :: os) L h R:=by
 obtain ⟨h',q1,q2⟩:=qdt S hi hz hk hv;exact qaf ho hg hx hy q1 hp (w h' q2)
end
end Go.Proofs.Xx
namespace Go.Proofs.Xx
open Go
theorem J8 {α:Type} {enc:α→List Value} {y:α} {zc:List Value} (h:zc=enc y):∀ n,zg zc n=(List.replicate n y).flatMap enc
 | 0=>rfl
 | n+1=>by rw [zg,J8 h n,List.replicate_succ,zG2,h]
section
variable {P:Program} {X:Extern} {inR:Bool} {sz:Nat} {L:Ks} {h h0:AH} {rs:List Rs} {ops:Array Oper} {os:List Oper} {o:Oper} {R:Ks→AH→Prop} {Q:KQ}
theorem Hs.nil {α:Type} (S:Hs h0 h rs) (e:TypeId) (z:Nat) (enc:α→List Value):Hs h0 h (.sl (.slice none 0 0) e z enc [] :: rs) :=
 ⟨S.ext,fun _=>False,.inl ⟨rfl,rfl⟩,fun b hb=>hb.elim,S.sep.mono fun b _=>⟨trivial,id⟩⟩
theorem qdZ {α:Type} {x y:Operand} {ty e:TypeId} {a:Int} {zc:List Value} {by_ z:Nat} {enc:α→List Value} {y0:α} {d:Tmp} (S:Hs h0 h rs) (ho:o.op = .makeSlice ty x y) (hg:qo ops L.tree o.guard=some true) (hx:kA L x=some (.int .i64 a)) (hy:kA L y=some (.int .i64 a))
 (hs:qQ P ty=some e) (hz:qV P e=some zc) (hb:Qh P e=some by_) (hzl:zc.length=z) (hc:zc=enc y0) (hlen:∀ x,(enc x).length=z) (ha:0≤a∧a.toNat*(by_+1)≤140737488355328) (hd:o.dst=some d) (hsz:Nat.blt d sz=true)
 (w:∀ v h',Hs h0 h' (.sl v e z enc (List.replicate a.toNat y0) :: rs)→KO P X sz ops os (L.put d v) h' R):KO P X sz ops (o :: os) L h R:=by
 subst hzl;obtain ⟨k,rfl⟩:=zH3 ha.1;have hk:k*(by_+1)≤140737488355328:=ha.2;obtain ⟨v,h',h1,h2,h3⟩:=qdY S.wf hs hz hb hk;refine qfU ho hg hx hy h1 (by simp only [qG,hd,hsz]) (w v h' ?_);refine S.grow (fp:=fun b=>b=h.next) h3 (.inr ⟨h.next,0,_,none,k,?_,h2.obj,rfl,?_,⟨?_,?_⟩,.inl rfl⟩) fun b hb=>by subst hb;exact ⟨zA3 _,h3.wf.lt h2.obj⟩
 ·rw [h2.val];simp
 ·rw [← J8 hc,zA0];simp only [List.length_replicate];rw [← h2.len];exact jf _
 ·simp
 ·rw [zG1];exact Nat.le_of_eq h2.len.symm
theorem qcb {α:Type} {rs':List Rs} {ts tx e:TypeId} {zc:List Value} {by_:Nat} {enc:α→List Value} {l l2:List α} {v x:Value} (S:Hs h0 h rs) (hs:qQ P ts=some e) (hz:qV P e=some zc) (hb:Qh P e=some (by_+1)) (hx:(qQ P tx).isSome=true)
 (hd:Dt rs (.sl v e zc.length enc l) rs') (hr:zl h x zc.length enc l2) (h1:∀ y∈l2,(enc y).all one? = true) (hlen:∀ y,(enc y).length=zc.length) (hsz:(l.length+l2.length+1)*(by_+1)≤140737488355328) :
 ∃ v' h',zV P [ts,tx] v x h=some (v',h')∧Hs h0 h' (.sl v' e zc.length enc (l ++ l2) :: rs'):=by
 have hx':∃ e',P.underlying tx=some (.slice e'):=by
  obtain ⟨e',he⟩:=Option.isSome_iff_exists.1 hx;unfold qQ at he;split at he
  ·cases he;exact ⟨_,by assumption⟩
  ·cases he
 obtain ⟨e',hx'⟩:=hx';have hall:(l2.flatMap enc).all one? = true:=by
  rw [zC8];intro u hu;rw [zG9] at hu;obtain ⟨y,hy,hu⟩:=hu;exact zC8.1 (h1 y hy) u hu
 have hnl:(l2.flatMap enc).length=l2.length*zc.length:=qX hlen l2;have k1:Nat.ble ((l2.length+1)*(by_+1)) 140737488355328=true:=zB3 (zD0 (zD3 _ (by omega)) hsz);have k2:Nat.beq (l2.flatMap enc).length (l2.length*zc.length)=true:=by rw [hnl];simp
 have k3:Nat.ble ((l.length+l2.length)*(by_+1)) 140737488355328=true:=zB3 (zD0 (zD3 _ (by omega)) hsz);obtain ⟨fp,q1,q2,q3⟩:=hd.sep S.sep;have S':Hs h0 h rs':=S.del hd;have front:Hs h0 h (.sl v e zc.length enc l :: rs'):=S.front hd;have hsrc:=hr.source;have fresh:∀ (c:List Value) (l3:List α),c=l3.flatMap enc→Hs h0 (h.add (.cells c e (some zc.length) false)) (.sl (.slice (some ⟨h.next,0,none⟩) l3.length l3.length) e zc.length enc l3 :: rs'):=by
  intro c l3 hc;have hcl:c.length=l3.length*zc.length:=by rw [hc];exact qX hlen l3
  refine S'.grow (fp:=fun b=>b=h.next) ((Ext.refl S.wf).add _) (.inr ⟨h.next,0,c,some zc.length,l3.length,rfl,by rw [AH.qW,if_pos rfl],rfl,?_,⟨zA3 _,by omega⟩,.inr rfl⟩) fun b hb=>by subst hb;exact ⟨zA3 _,zG0 _⟩
  rw [← hcl,jf,hc]
 obtain ⟨n2,hn2⟩:∃ n2,l2.length=n2:=⟨_,rfl⟩
 rcases q1 with ⟨rfl,rfl⟩|⟨b,o,cc,slk,cap,g1,g2,g3,g4,g5,g6⟩
 ·rw [hn2] at hsrc k1 k2;cases n2 with
  | zero =>
   have hl2:l2=[]:=zE9.1 hn2;subst hl2;refine ⟨_,_,?_,front⟩;simp only [zV,hs,hx',hz,hb,hsrc,k1,hall,k2,zF9]
  | succ m =>
   refine ⟨.slice (some ⟨h.next,0,none⟩) (m+1) (m+1),h.add (.cells (l2.flatMap enc) e (some zc.length) false),?_,?_⟩
   ·simp only [zV,hs,hx',hz,hb,hsrc,k1,hall,k2,zF9]
   ·have:=fresh _ l2 rfl;rw [hn2] at this;exact this
 ·subst g1;rw [hn2] at hsrc k1 k2 k3;have hcz:=zD3 zc.length g5.1;have hoc:o+l.length*zc.length≤cc.length:=by have:=g5.2;omega
  cases n2 with
  | zero =>
   have hl2:l2=[]:=zE9.1 hn2;subst hl2;refine ⟨_,_,?_,by rw [zD7];exact front⟩;have:Nat.ble (l.length+0) cap=true:=zB3 g5.1;simp only [zV,hs,hx',hz,hb,hsrc,k1,hall,k2,zF9,g2,this]
  | succ m =>
   have hcat:l.flatMap enc ++ l2.flatMap enc=(l ++ l2).flatMap enc:=by rw [List.flatMap_append]
   have hln:(l ++ l2).length=l.length+(m+1):=by rw [zB2,hn2]
   have hbl:b<h.next:=(q2 b g3).2.1
   by_cases hfit:l.length+(m+1)≤cap
   ·
    have k4:Nat.ble (l.length+(m+1)) cap=true:=zB3 hfit;have hm1:(l.length+(m+1))*zc.length≤cap*zc.length:=zD3 _ hfit;rw [zE1] at hm1;have hnl':(l2.flatMap enc).length=(m+1)*zc.length:=by rw [hnl,hn2]
    have hfl:o+l.length*zc.length+(l2.flatMap enc).length≤cc.length:=by have:=g5.2;omega
    have hput:putCells h b (o+l.length*zc.length) cc e slk (l2.flatMap enc)=some (h.put b (.cells (splice cc (o+l.length*zc.length) (l2.flatMap enc)) e slk false)):=by
     unfold putCells;rw [hall,zB3 hfl];rfl
    refine ⟨.slice (some ⟨b,o,none⟩) (l.length+(m+1)) cap,h.put b (.cells (splice cc (o+l.length*zc.length) (l2.flatMap enc)) e slk false),?_,?_⟩
    ·simp only [zV,hs,hx',hz,hb,hsrc,k1,hall,k2,zF9,g2,k4,hput]
    ·refine front.turn .here (zA3 _) (S.wf.put hbl _) fun fq r1 r2=>?_;have hb':fq b:=by
      rcases r1 with ⟨q,-⟩|⟨b',o2,cc2,sl2,cap2,q3,q4,q5,-⟩
      ·cases q
      ·cases q3;exact q5
     refine ⟨fun j hj hn=>?_,fun j=>j=b,.inr ⟨b,o,_,slk,cap,by rw [hln],by rw [AH.get_put,if_pos rfl],rfl,?_,⟨by omega,by rw [Zr hfl];exact g5.2⟩,g6⟩,fun j hj=>by subst hj;exact ⟨hbl,.inl hb'⟩⟩
     ·rw [AH.get_put,if_neg];intro q;subst q;exact hn hb'
     ·rw [hln,← hcat];have hfe:l.flatMap enc=(cc.drop o).take (l.length*zc.length):=by
       rcases QU g4 with q|⟨q1,q2⟩
       ·exact q.1
       ·rw [q2,q1];simp
      rw [Jf (by rw [Zr hfl,zE1];omega)];congr 1
      apply List.ext_getElem?
      intro j;have hll:(l.flatMap enc).length=l.length*zc.length:=qX hlen l;rw [zC7,zF0,hll];by_cases hj:j<l.length*zc.length
      ·rw [if_pos (by rw [zE1];omega),if_pos hj,zC3,JC hfl,if_pos (by omega),hfe,zC7,if_pos hj,zC3]
      ·rw [if_neg hj];by_cases hj2:j<(l.length+(m+1))*zc.length
       ·rw [if_pos hj2,zC3,JC hfl,if_neg (by omega),if_pos (by rw [zE1] at hj2;omega)];congr 1;omega
       ·rw [if_neg hj2,zG5];rw [zE1] at hj2;omega
   have k4:Nat.ble (l.length+(m+1)) cap=false:=by
    cases hq:Nat.ble (l.length+(m+1)) cap with
    | false=>rfl
    | true=>have:=zB6 hq;omega
   rcases g6 with rfl|rfl
   ·have hfr:=fresh _ (l ++ l2) hcat;rw [zB2,hn2] at hfr;refine ⟨_,_,?_,hfr⟩;simp only [zV,hs,hx',hz,hb,hsrc,k1,hall,k2,zF9,g2,k4,g4,k3]
   ·refine ⟨.slice (some ⟨h.next,0,none⟩) (l.length+(m+1)) (l.length+(m+1)),(h.put b .dead).add (.cells (l.flatMap enc ++ l2.flatMap enc) e (some zc.length) false),?_,?_⟩
    ·have k6:(Nat.beq zc.length zc.length && Nat.beq e e && Nat.ble (o+cap*zc.length) cc.length)=true:=by
      simp [zB3 g5.2]
     simp only [zV,hs,hx',hz,hb,hsrc,k1,hall,k2,zF9,g2,k4,g4,k3,k6]
    ·have hcl:(l.flatMap enc ++ l2.flatMap enc).length=(l ++ l2).length*zc.length:=by rw [hcat];exact qX hlen _
     refine front.turn .here (Nat.le_succ _) ((S.wf.put hbl _).add _) fun fq r1 r2=>?_;have hb':fq b:=by
      rcases r1 with ⟨q,-⟩|⟨b',o2,cc2,sl2,cap2,q3,q4,q5,-⟩
      ·cases q
      ·cases q3;exact q5
     refine ⟨fun j hj hn=>?_,fun j=>j=h.next,.inr ⟨h.next,0,l.flatMap enc ++ l2.flatMap enc,some zc.length,_,by rw [hln],?_,rfl,?_,⟨by omega,by rw [hcl,hln];omega⟩,.inr rfl⟩,fun j hj=>by subst hj;exact ⟨zG0 _,.inr (zA3 _)⟩⟩
     ·rw [AH.qW,if_neg (by simp only [AH.put];omega),AH.get_put,if_neg];intro q;subst q;exact hn hb'
     ·rw [AH.qW];exact if_pos rfl
     ·rw [← hcl,jf,hcat]
theorem Pv {α:Type} {rs':List Rs} {x y:Operand} {ts tx e:TypeId} {zc:List Value} {by_ z:Nat} {enc:α→List Value} {l l2:List α} {v u:Value} {d:Tmp} (S:Hs h0 h rs) (ho:o.op = .call { callee:=.builtin .append,args:=#[x,y],argTypes:=#[ts,tx] }) (hg:qo ops L.tree o.guard=some true) (hx:kA L x=some v) (hy:kA L y=some u)
 (hd:Dt rs (.sl v e z enc l) rs') (hr:zl h u z enc l2) (hs:qQ P ts=some e) (hz:qV P e=some zc) (hzl:zc.length=z) (hb:Qh P e=some (by_+1)) (hxs:(qQ P tx).isSome=true) (h1:∀ y∈l2,(enc y).all one? = true) (hlen:∀ y,(enc y).length=z)
 (hsz:(l.length+l2.length+1)*(by_+1)≤140737488355328) (hdst:o.dst=some d) (hds:Nat.blt d sz=true) (w:∀ v' h',Hs h0 h' (.sl v' e z enc (l ++ l2) :: rs')→KO P X sz ops os (L.put d v') h' R):KO P X sz ops (o :: os) L h R:=by
 subst hzl;obtain ⟨v',h',q1,q2⟩:=qcb S hs hz hb hxs hd hr h1 hlen hsz;exact kV ho hg hx hy q1 (by simp only [qG,hdst,hds]) (w v' h' q2)
theorem qic {x:Operand} {ty e:TypeId} {zc:List Value} {z:Nat} {v:Value} {c:List Value} {d:Tmp} (S:Hs h0 h rs) (ho:o.op = .buildSlice ty 1 #[(0,x)]) (hg:qo ops L.tree o.guard=some true) (hx:kA L x=some v) (hs:qQ P ty=some e) (hz:qV P e=some zc) (hzl:zc.length=z) (hv:v.cells.toList=c) (hc:c.length=z)
 (hsm:z≤1000) (hdst:o.dst=some d) (hds:Nat.blt d sz=true) (w:∀ u h',Hs h0 h' (.sl u e z Xw [c] :: rs)→KO P X sz ops os (L.put d u) h' R):KO P X sz ops (o :: os) L h R:=by
 subst hv;subst hzl;refine VX ho hg (show Xo L (#[(0,x)]:Array (Nat×Operand)).toList=some [(0,v)] by simp [Xo,hx]) (qhc hs hz hc hsm h) (by simp only [qG,hdst,hds]) (w (.slice (some ⟨h.next,0,none⟩) 1 1) (h.add (.cells v.cells.toList e none false)) ?_);refine S.grow (fp:=fun b=>b=h.next) ((Ext.refl S.wf).add _) (.inr ⟨h.next,0,v.cells.toList,none,1,rfl,by rw [AH.qW,if_pos rfl],rfl,?_,⟨zA3 _,by simp [hc]⟩,.inl rfl⟩) fun b hb=>by subst hb;exact ⟨zA3 _,zG0 _⟩
 simp only [zC4,List.length_nil,zG1,Nat.one_mul,zG2,List.flatMap_nil,zD7,Xw];rw [← hc];exact jf _
theorem qgH {α:Type} {rs':List Rs} {x y:Operand} {ts tx e e2:TypeId} {zc c:List Value} {by_ z:Nat} {enc:α→List Value} {l:List α} {y0:α} {v u:Value} {d:Tmp} (S:Hs h0 h (.sl u e2 z Xw [c] :: rs)) (ho:o.op = .call { callee:=.builtin .append,args:=#[x,y],argTypes:=#[ts,tx] }) (hg:qo ops L.tree o.guard=some true) (hx:kA L x=some v) (hy:kA L y=some u)
 (hd:Dt rs (.sl v e z enc l) rs') (hs:qQ P ts=some e) (hz:qV P e=some zc) (hzl:zc.length=z) (hb:Qh P e=some (by_+1)) (hxs:(qQ P tx).isSome=true) (hc:c=enc y0) (h1:c.all one? = true) (hlen:∀ y,(enc y).length=z)
 (hsz:(l.length+2)*(by_+1)≤140737488355328) (hdst:o.dst=some d) (hds:Nat.blt d sz=true) (w:∀ v' h',Hs h0 h' (.sl v' e z enc (l ++ [y0]) :: rs')→KO P X sz ops os (L.put d v') h' R):KO P X sz ops (o :: os) L h R:=by
 subst hc;have hr:zl h u z enc [y0]:=by
  have:=Rd.jZ S .here;unfold zl at this ⊢;simp only [zG2,List.flatMap_nil,Xw] at this ⊢;exact this
 exact Pv S.tail ho hg hx hy hd hr hs hz hzl hb hxs (by simpa using h1) hlen (by simpa using hsz) hdst hds w
theorem qhQ {L':Ks} {x:Operand} {ty:TypeId} {l:List UInt8} (ho:o.op = .call { callee:=.builtin .len,args:=#[x],argTypes:=#[ty] }) (hg:qo ops L.tree o.guard=some true) (hx:kA L x=some (str l)) (hu:P.underlying ty=some .string)
 (hp:qG sz L o.dst (.int .i64 l.length)=some L') (w:KO P X sz ops os L' h R):KO P X sz ops (o :: os) L h R :=
 qeP ho hg hx (by unfold str;simp only [qbi,hu,zF6]) hp w
theorem qhR {L':Ks} {x i:Operand} {ty:TypeId} {l:List UInt8} {ik:IntKind} {a:Int} (ho:o.op = .index ty x i) (hg:qo ops L.tree o.guard=some true) (hx:kA L x=some (str l)) (hi:kA L i=some (.int ik a)) (hu:P.underlying ty=some .string)
 (ha:0≤a∧a<l.length) (hp:qG sz L o.dst (.int .u8 ((l.getD a.toNat 0).toNat:Int))=some L') (w:KO P X sz ops os L' h R):KO P X sz ops (o :: os) L h R:=by
 obtain ⟨k,rfl⟩:=zH3 ha.1;have hk:k<l.length:=by omega
 refine zo hg ?_ hp w;rw [ho];have:yS P ty (str l) (.int ik (Int.ofNat k))=some (.int .u8 ((l.getD k 0).toNat:Int)):=by
  unfold str;simp only [yS,hu,zF6];rw [zA4 hk,zA2,zA4 hk];rfl
 have hi':ja L.tree i=some (.int ik (Int.ofNat k)):=qE hi;simp only [zX,qE hx,hi',this,qM,zA0]
theorem qfZ {L':Ks} {x y:Operand} {ty ty2:TypeId} {l m:List UInt8} (ho:o.op = .binOp .add ty x y ty2) (hg:qo ops L.tree o.guard=some true) (hx:kA L x=some (str l)) (hy:kA L y=some (str m))
 (hb:l.length+m.length≤4611686018427387904) (hp:qG sz L o.dst (str (l ++ m))=some L') (w:KO P X sz ops os L' h R):KO P X sz ops (o :: os) L h R :=
 zN ho hg hx hy (by
  unfold str;simp only [jP,zF6];rw [zB3 hb]) hp w
theorem jJ (l m:List UInt8):zK ⟨l.toArray⟩ ⟨m.toArray⟩=decide (l=m):=by
 unfold zK;simp only [zF6];rw [Bool.eq_iff_iff];simp
theorem qhS {L':Ks} {op:BinOp} {x y:Operand} {ty ty2:TypeId} {l m:List UInt8} {v:Bool} (ho:o.op = .binOp op ty x y ty2) (hg:qo ops L.tree o.guard=some true) (hx:kA L x=some (str l)) (hy:kA L y=some (str m))
 (hop:(match op with|.eql=>some true|.neq=>some false | _=>none)=some v) (hq:l=m) (hp:qG sz L o.dst (.bool v)=some L') (w:KO P X sz ops os L' h R):KO P X sz ops (o :: os) L h R :=
 zN ho hg hx hy (by
  unfold str;cases op<;>simp only [Option.some.injEq] at hop<;>try (cases hop;done)
  all_goals (subst hop;simp only [jP,jJ,decide_eq_true hq,Bool.not_true])) hp w
theorem qhU {L':Ks} {op:BinOp} {x y:Operand} {ty ty2:TypeId} {l m:List UInt8} {v:Bool} (ho:o.op = .binOp op ty x y ty2) (hg:qo ops L.tree o.guard=some true) (hx:kA L x=some (str l)) (hy:kA L y=some (str m))
 (hop:(match op with|.eql=>some false|.neq=>some true | _=>none)=some v) (hq:¬ l=m) (hp:qG sz L o.dst (.bool v)=some L') (w:KO P X sz ops os L' h R):KO P X sz ops (o :: os) L h R :=
 zN ho hg hx hy (by
  unfold str;cases op<;>simp only [Option.some.injEq] at hop<;>try (cases hop;done)
  all_goals (subst hop;simp only [jP,jJ,decide_eq_false hq,Bool.not_false])) hp w
theorem qhT {L1 L2:Ks} {op:BinOp} {x y:Operand} {ty ty2:TypeId} {l m:List UInt8} {v:Bool} (ho:o.op = .binOp op ty x y ty2) (hg:qo ops L.tree o.guard=some true) (hx:kA L x=some (str l)) (hy:kA L y=some (str m))
 (hop:(match op with|.eql=>some true|.neq=>some false | _=>none)=some v) (hp1:qG sz L o.dst (.bool v)=some L1) (hp2:qG sz L o.dst (.bool !v)=some L2) (w1:l=m→KO P X sz ops os L1 h R) (w2:¬ l=m→KO P X sz ops os L2 h R):KO P X sz ops (o :: os) L h R:=by
 by_cases hq:l=m
 ·exact qhS ho hg hx hy hop hq hp1 (w1 hq)
 ·refine qhU (v:=!v) ho hg hx hy ?_ hq hp2 (w2 hq);cases op<;>simp only [Option.some.injEq] at hop ⊢<;>try (cases hop;done)
  all_goals (subst hop;rfl)
end
end Go.Proofs.Xx
namespace Go.Proofs.Xx
open Go
def ZO:Op→Option Operand|.move x|.assign x=>some x | _=>none
section
variable {P:Program} {X:Extern} {inR:Bool} {sz:Nat} {L:Ks} {h h0:AH} {rs:List Rs} {ops:Array Oper} {os:List Oper} {o:Oper} {R:Ks→AH→Prop} {Q:KQ}
theorem qiL {L':Ks} {x:Operand} {v:Value} (ho:ZO o.op=some x) (hg:qo ops L.tree o.guard=some true) (hx:kA L x=some v) (hp:qG sz L o.dst v=some L') (w:KO P X sz ops os L' h R):KO P X sz ops (o :: os) L h R:=by
 refine zo hg ?_ hp w;cases he:o.op with
 | move y=>rw [he] at ho;cases ho;simp only [zX,qE hx,qM]
 | assign y=>rw [he] at ho;cases ho;simp only [zX,qE hx,qM]
 | _=>rw [he] at ho;cases ho
theorem wrap_u8 {n:Int} (h:0≤n∧n≤255):IntKind.u8.wrap n=n:=Gg (by simpa [IntKind.min,IntKind.max,IntKind.signed,IntKind.bits] using h)
theorem qiP {L':Ks} {x:Operand} {s d:TypeId} {k k2:IntKind} {a:Int} (ho:o.op = .convert s d x) (hg:qo ops L.tree o.guard=some true) (hx:kA L x=some (.int k a)) (hs:P.underlying s=some (.int k2)) (hd:P.underlying d=some (.int .i64))
 (hb : -9223372036854775808≤a∧a≤9223372036854775807) (hp:qG sz L o.dst (.int .i64 a)=some L') (w:KO P X sz ops os L' h R):KO P X sz ops (o :: os) L h R :=
 zo hg (by rw [ho];simp only [zX,qE hx,zY,hs,hd,wrap_i64 hb.1 hb.2]) hp w
theorem qiO {L':Ks} {x:Operand} {s d:TypeId} {k k2:IntKind} {a:Int} (ho:o.op = .convert s d x) (hg:qo ops L.tree o.guard=some true) (hx:kA L x=some (.int k a)) (hs:P.underlying s=some (.int k2)) (hd:P.underlying d=some (.int .u8))
 (hb:0≤a∧a≤255) (hp:qG sz L o.dst (.int .u8 a)=some L') (w:KO P X sz ops os L' h R):KO P X sz ops (o :: os) L h R :=
 zo hg (by rw [ho];simp only [zX,qE hx,zY,hs,hd,wrap_u8 hb]) hp w
end
end Go.Proofs.Xx
namespace Go.Proofs.Xx
open Go
theorem jQ {P:Program} {L:Ks} {h h0:AH} {rs:List Rs} {a b k:Nat} {ty e:TypeId} {c:List Value} {v:Value} {res:List ResultVar} {vs:List Value} (S:Hs h0 h rs) (hx:L.get a=some (.pointer (some ⟨b,k,none⟩))) (hi:At rs (.blk b c e)) (hv:Jn P ty c k=some v) (hr:jR P L.tree h res=some vs) :
 jR P L.tree h (.cell a ty :: res)=some (v :: vs):=by
 simp only [jR,JG,Ks.YJ,hx];rw [Z7 (XW S hi),hv];simp only [hr]
end Go.Proofs.Xx
namespace Go.Proofs.Xx
open Go
class HasB (rs:List Rs) (b:Nat) (c:outParam (List Value)) (e:outParam TypeId) (f:outParam (Rs→List Rs)):Prop where
 at_:At rs (.blk b c e)
 ut:∀ r,Ut rs (.blk b c e) r (f r)
instance HasB.there {rs:List Rs} {b:Nat} {c:List Value} {e:TypeId} {f:Rs→List Rs} {s:Rs} [k:HasB rs b c e f]:HasB (s :: rs) b c e (fun r=>s :: f r):=⟨.there k.at_,fun r=>.there (k.ut r)⟩
instance HasB.here {rs:List Rs} {b:Nat} {c:List Value} {e:TypeId}:HasB (.blk b c e :: rs) b c e (fun r=>r :: rs):=⟨.here,fun r=>.here⟩
class HasS (rs:List Rs) (v:Value) (α:outParam Type) (e:outParam TypeId) (z:outParam Nat) (enc:outParam (α→List Value)) (l:outParam (List α)) (f:outParam (Rs→List Rs)) (d:outParam (List Rs)):Prop where
 at_:At rs (.sl v e z enc l)
 ut:∀ r,Ut rs (.sl v e z enc l) r (f r)
 dt:Dt rs (.sl v e z enc l) d
instance HasS.there {rs:List Rs} {v:Value} {α:Type} {e:TypeId} {z:Nat} {enc:α→List Value} {l:List α} {f:Rs→List Rs} {d:List Rs} {s:Rs} [k:HasS rs v α e z enc l f d]:HasS (s :: rs) v α e z enc l (fun r=>s :: f r) (s :: d) :=
 ⟨.there k.at_,fun r=>.there (k.ut r),.there k.dt⟩
instance HasS.here {rs:List Rs} {v:Value} {α:Type} {e:TypeId} {z:Nat} {enc:α→List Value} {l:List α}:HasS (.sl v e z enc l :: rs) v α e z enc l (fun r=>r :: rs) rs:=⟨.here,fun r=>.here,.here⟩
class HasR (rs:List Rs) (v:Value) (α:outParam Type) (z:outParam Nat) (enc:outParam (α→List Value)) (l:outParam (List α)):Prop where
 rd:∀ {h0 h:AH},Hs h0 h rs→zl h v z enc l
instance HasR.there {rs:List Rs} {v:Value} {α:Type} {z:Nat} {enc:α→List Value} {l:List α} {s:Rs} [k:HasR rs v α z enc l]:HasR (s :: rs) v α z enc l:=⟨fun S=>k.rd S.tail⟩
instance HasR.sl {rs:List Rs} {v:Value} {α:Type} {e:TypeId} {z:Nat} {enc:α→List Value} {l:List α}:HasR (.sl v e z enc l :: rs) v α z enc l:=⟨fun S=>Rd.jZ S .here⟩
instance HasR.rdd {rs:List Rs} {v:Value} {α:Type} {z:Nat} {enc:α→List Value} {l:List α}:HasR (.rd v z enc l :: rs) v α z enc l:=⟨fun S=>Rd.qh8 S .here⟩
section
variable {P:Program} {X:Extern} {inR:Bool} {sz:Nat} {L:Ks} {h h0:AH} {rs:List Rs} {ops:Array Oper} {os:List Oper} {o:Oper} {R:Ks→AH→Prop} {Q:KQ}
theorem mv {L':Ks} {x:Operand} {v:Value} (w:KO P X sz ops os L' h R) (ho:ZO o.op=some x:=by exact rfl) (hg:qo ops L.tree o.guard=some true:=by exact rfl) (hx:kA L x=some v:=by exact rfl) (hp:qG sz L o.dst v=some L':=by exact rfl):KO P X sz ops (o :: os) L h R:=qiL ho hg hx hp w
theorem vl {L':Ks} {h':AH} {v:Value} (w:KO P X sz ops os L' h' R) (hg:qo ops L.tree o.guard=some true:=by exact rfl) (ha:zX P L.tree h o.op=some (.val v h'):=by exact rfl) (hp:qG sz L o.dst v=some L':=by exact rfl):KO P X sz ops (o :: os) L h R:=zo hg ha hp w
theorem off {L':Ks} (w:KO P X sz ops os L' h R) (hg:qo ops L.tree o.guard=some false:=by exact rfl) (hp:qG sz L o.dst (.tuple #[])=some L':=by exact rfl):KO P X sz ops (o :: os) L h R:=qhv hg hp w
theorem ad {L':Ks} {x y:Operand} {ty ty2:TypeId} {a b:Int} (w:KO P X sz ops os L' h R) (ho:o.op = .binOp .add ty x y ty2:=by exact rfl) (hg:qo ops L.tree o.guard=some true:=by exact rfl) (hx:kA L x=some (.int .i64 a):=by exact rfl) (hy:kA L y=some (.int .i64 b):=by exact rfl)
 (hb : -9223372036854775808≤a+b∧a+b≤9223372036854775807:=by first|omega|grind) (hp:qG sz L o.dst (.int .i64 (a+b))=some L':=by exact rfl):KO P X sz ops (o :: os) L h R:=qiS ho hg hx hy hb hp w
theorem sb {L':Ks} {x y:Operand} {ty ty2:TypeId} {a b:Int} (w:KO P X sz ops os L' h R) (ho:o.op = .binOp .sub ty x y ty2:=by exact rfl) (hg:qo ops L.tree o.guard=some true:=by exact rfl) (hx:kA L x=some (.int .i64 a):=by exact rfl) (hy:kA L y=some (.int .i64 b):=by exact rfl)
 (hb : -9223372036854775808≤a - b∧a - b≤9223372036854775807:=by first|omega|grind) (hp:qG sz L o.dst (.int .i64 (a - b))=some L':=by exact rfl):KO P X sz ops (o :: os) L h R:=qiH ho hg hx hy hb hp w
theorem ml {L':Ks} {x y:Operand} {ty ty2:TypeId} {a b:Int} (w:KO P X sz ops os L' h R) (ho:o.op = .binOp .mul ty x y ty2:=by exact rfl) (hg:qo ops L.tree o.guard=some true:=by exact rfl) (hx:kA L x=some (.int .i64 a):=by exact rfl) (hy:kA L y=some (.int .i64 b):=by exact rfl)
 (hb : -9223372036854775808≤a*b∧a*b≤9223372036854775807:=by first|omega|grind) (hp:qG sz L o.dst (.int .i64 (a*b))=some L':=by exact rfl):KO P X sz ops (o :: os) L h R:=qiK ho hg hx hy hb hp w
theorem qu {L':Ks} {x y:Operand} {ty ty2:TypeId} {a b:Int} (w:KO P X sz ops os L' h R) (ho:o.op = .binOp .quo ty x y ty2:=by exact rfl) (hg:qo ops L.tree o.guard=some true:=by exact rfl) (hx:kA L x=some (.int .i64 a):=by exact rfl) (hy:kA L y=some (.int .i64 b):=by exact rfl)
 (hb:0≤a∧a≤9223372036854775807∧0<b:=by first|omega|grind) (hp:qG sz L o.dst (.int .i64 (a / b))=some L':=by exact rfl):KO P X sz ops (o :: os) L h R:=qiJ ho hg hx hy hb hp w
theorem rm {L':Ks} {x y:Operand} {ty ty2:TypeId} {a b:Int} (w:KO P X sz ops os L' h R) (ho:o.op = .binOp .rem ty x y ty2:=by exact rfl) (hg:qo ops L.tree o.guard=some true:=by exact rfl) (hx:kA L x=some (.int .i64 a):=by exact rfl) (hy:kA L y=some (.int .i64 b):=by exact rfl)
 (hb:0≤a∧0<b:=by first|omega|grind) (hp:qG sz L o.dst (.int .i64 (a % b))=some L':=by exact rfl):KO P X sz ops (o :: os) L h R:=qiI ho hg hx hy hb hp w
theorem mn {L':Ks} {x y:Operand} {tys:Array TypeId} {k k':IntKind} {a b:Int} (w:KO P X sz ops os L' h R) (ho:o.op = .call { callee:=.builtin .min,args:=#[x,y],argTypes:=tys }:=by exact rfl) (hg:qo ops L.tree o.guard=some true:=by exact rfl) (hx:kA L x=some (.int k a):=by exact rfl) (hy:kA L y=some (.int k' b):=by exact rfl)
 (hp:qG sz L o.dst (.int k (min a b))=some L':=by exact rfl):KO P X sz ops (o :: os) L h R:=qiM ho hg hx hy hp w
theorem mx {L':Ks} {x y:Operand} {tys:Array TypeId} {k k':IntKind} {a b:Int} (w:KO P X sz ops os L' h R) (ho:o.op = .call { callee:=.builtin .max,args:=#[x,y],argTypes:=tys }:=by exact rfl) (hg:qo ops L.tree o.guard=some true:=by exact rfl) (hx:kA L x=some (.int k a):=by exact rfl) (hy:kA L y=some (.int k' b):=by exact rfl)
 (hp:qG sz L o.dst (.int k (max a b))=some L':=by exact rfl):KO P X sz ops (o :: os) L h R:=qiN ho hg hx hy hp w
theorem cI {L':Ks} {x:Operand} {s d:TypeId} {k k2:IntKind} {a:Int} (w:KO P X sz ops os L' h R) (ho:o.op = .convert s d x:=by exact rfl) (hg:qo ops L.tree o.guard=some true:=by exact rfl) (hx:kA L x=some (.int k a):=by exact rfl) (hs:P.underlying s=some (.int k2):=by exact rfl) (hd:P.underlying d=some (.int .i64):=by exact rfl)
 (hb : -9223372036854775808≤a∧a≤9223372036854775807:=by first|omega|grind) (hp:qG sz L o.dst (.int .i64 a)=some L':=by exact rfl):KO P X sz ops (o :: os) L h R:=qiP ho hg hx hs hd hb hp w
theorem cU {L':Ks} {x:Operand} {s d:TypeId} {k k2:IntKind} {a:Int} (w:KO P X sz ops os L' h R) (ho:o.op = .convert s d x:=by exact rfl) (hg:qo ops L.tree o.guard=some true:=by exact rfl) (hx:kA L x=some (.int k a):=by exact rfl) (hs:P.underlying s=some (.int k2):=by exact rfl) (hd:P.underlying d=some (.int .u8):=by exact rfl)
 (hb:0≤a∧a≤255:=by omega) (hp:qG sz L o.dst (.int .u8 a)=some L':=by exact rfl):KO P X sz ops (o :: os) L h R:=qiO ho hg hx hs hd hb hp w
theorem cT {L':Ks} {op:BinOp} {x y:Operand} {ty ty2:TypeId} {k:IntKind} {a b:Int} {p:Prop} (w:KO P X sz ops os L' h R) (ho:o.op = .binOp op ty x y ty2:=by exact rfl) (hg:qo ops L.tree o.guard=some true:=by exact rfl) (hx:kA L x=some (.int k a):=by exact rfl) (hy:kA L y=some (.int k b):=by exact rfl)
 (hc:PV op a b=some p:=by exact rfl) (hq:p:=by omega) (hp:qG sz L o.dst (.bool true)=some L':=by exact rfl):KO P X sz ops (o :: os) L h R:=qiQ ho hg hx hy hc hq hp w
theorem cF {L':Ks} {op:BinOp} {x y:Operand} {ty ty2:TypeId} {k:IntKind} {a b:Int} {p:Prop} (w:KO P X sz ops os L' h R) (ho:o.op = .binOp op ty x y ty2:=by exact rfl) (hg:qo ops L.tree o.guard=some true:=by exact rfl) (hx:kA L x=some (.int k a):=by exact rfl) (hy:kA L y=some (.int k b):=by exact rfl)
 (hc:PV op a b=some p:=by exact rfl) (hq:¬ p:=by omega) (hp:qG sz L o.dst (.bool false)=some L':=by exact rfl):KO P X sz ops (o :: os) L h R:=qiR ho hg hx hy hc hq hp w
theorem cS {L1 L2:Ks} {op:BinOp} {x y:Operand} {ty ty2:TypeId} {k:IntKind} {a b:Int} {p:Prop} (w1:p→KO P X sz ops os L1 h R) (w2:¬ p→KO P X sz ops os L2 h R) (ho:o.op = .binOp op ty x y ty2:=by exact rfl) (hg:qo ops L.tree o.guard=some true:=by exact rfl) (hx:kA L x=some (.int k a):=by exact rfl) (hy:kA L y=some (.int k b):=by exact rfl)
 (hc:PV op a b=some p:=by exact rfl) (hp1:qG sz L o.dst (.bool true)=some L1:=by exact rfl) (hp2:qG sz L o.dst (.bool false)=some L2:=by exact rfl):KO P X sz ops (o :: os) L h R:=qjz ho hg hx hy hc hp1 hp2 w1 w2
theorem tS {L1 L2:Ks} {op:BinOp} {x y:Operand} {ty ty2:TypeId} {l m:List UInt8} {v:Bool} (w1:l=m→KO P X sz ops os L1 h R) (w2:¬ l=m→KO P X sz ops os L2 h R) (ho:o.op = .binOp op ty x y ty2:=by exact rfl) (hg:qo ops L.tree o.guard=some true:=by exact rfl) (hx:kA L x=some (str l):=by exact rfl) (hy:kA L y=some (str m):=by exact rfl)
 (hop:(match op with|.eql=>some true|.neq=>some false | _=>none)=some v:=by exact rfl) (hp1:qG sz L o.dst (.bool v)=some L1:=by exact rfl) (hp2:qG sz L o.dst (.bool !v)=some L2:=by exact rfl):KO P X sz ops (o :: os) L h R:=qhT ho hg hx hy hop hp1 hp2 w1 w2
theorem tl {L':Ks} {x:Operand} {ty:TypeId} {l:List UInt8} (w:KO P X sz ops os L' h R) (ho:o.op = .call { callee:=.builtin .len,args:=#[x],argTypes:=#[ty] }:=by exact rfl) (hg:qo ops L.tree o.guard=some true:=by exact rfl) (hx:kA L x=some (str l):=by exact rfl) (hu:P.underlying ty=some .string:=by exact rfl)
 (hp:qG sz L o.dst (.int .i64 l.length)=some L':=by exact rfl):KO P X sz ops (o :: os) L h R:=qhQ ho hg hx hu hp w
theorem ti {L':Ks} {x i:Operand} {ty:TypeId} {l:List UInt8} {ik:IntKind} {a:Int} (w:KO P X sz ops os L' h R) (ho:o.op = .index ty x i:=by exact rfl) (hg:qo ops L.tree o.guard=some true:=by exact rfl) (hx:kA L x=some (str l):=by exact rfl) (hi:kA L i=some (.int ik a):=by exact rfl) (hu:P.underlying ty=some .string:=by exact rfl)
 (ha:0≤a∧a<l.length:=by first|omega|grind) (hp:qG sz L o.dst (.int .u8 ((l.getD a.toNat 0).toNat:Int))=some L':=by exact rfl):KO P X sz ops (o :: os) L h R:=qhR ho hg hx hi hu ha hp w
theorem tc {L':Ks} {x y:Operand} {ty ty2:TypeId} {l m:List UInt8} (w:KO P X sz ops os L' h R) (ho:o.op = .binOp .add ty x y ty2:=by exact rfl) (hg:qo ops L.tree o.guard=some true:=by exact rfl) (hx:kA L x=some (str l):=by exact rfl) (hy:kA L y=some (str m):=by exact rfl)
 (hb:l.length+m.length≤4611686018427387904:=by first|omega|grind) (hp:qG sz L o.dst (str (l ++ m))=some L':=by exact rfl):KO P X sz ops (o :: os) L h R:=qfZ ho hg hx hy hb hp w
theorem bx {x:Operand} {e:TypeId} {v:Value} {c:List Value} {d:Tmp} (S:Hs h0 h rs) (w:∀ b h',Hs h0 h' (.blk b c e :: rs)→KO P X sz ops os (L.put d (.pointer (some ⟨b,0,none⟩))) h' R) (ho:o.op = .box e x:=by exact rfl) (hg:qo ops L.tree o.guard=some true:=by exact rfl) (hx:kA L x=some v:=by exact rfl) (hc:v.cells.toList=c:=by exact rfl) (hd:o.dst=some d:=by exact rfl) (hs:Nat.blt d sz=true:=by exact rfl):KO P X sz ops (o :: os) L h R :=
 qif S ho hg hx hc hd hs w
theorem al {e:TypeId} {v:Value} {c:List Value} {d:Tmp} (S:Hs h0 h rs) (w:∀ b h',Hs h0 h' (.blk b c e :: rs)→KO P X sz ops os (L.put d (.pointer (some ⟨b,0,none⟩))) h' R) (ho:o.op = .alloc e:=by exact rfl) (hg:qo ops L.tree o.guard=some true:=by exact rfl) (hz:X5 P e=some v:=by exact rfl) (hpl:QJ v=true:=by exact rfl) (hc:v.cells.toList=c:=by exact rfl) (hd:o.dst=some d:=by exact rfl) (hs:Nat.blt d sz=true:=by exact rfl):KO P X sz ops (o :: os) L h R :=
 qfa S ho hg hz hpl hc hd hs w
theorem lB {L':Ks} {x:Operand} {ty e:TypeId} {b k:Nat} {c:List Value} {v:Value} {f:Rs→List Rs} (S:Hs h0 h rs) (ho:o.op = .load ty x) (hx:kA L x=some (.pointer (some ⟨b,k,none⟩))) [i:HasB rs b c e f] (w:KO P X sz ops os L' h R) (hg:qo ops L.tree o.guard=some true:=by exact rfl) (hv:Jn P ty c k=some v:=by exact rfl) (hp:qG sz L o.dst v=some L':=by exact rfl):KO P X sz ops (o :: os) L h R :=
 qid S ho hg hx i.at_ hv hp w
theorem sB {L':Ks} {x y:Operand} {ty e:TypeId} {b k:Nat} {c c':List Value} {v:Value} {f:Rs→List Rs} (S:Hs h0 h rs) (ho:o.op = .store ty x y) (hx:kA L x=some (.pointer (some ⟨b,k,none⟩))) [i:HasB rs b c e f] (w:∀ h',Hs h0 h' (f (.blk b c' e))→KO P X sz ops os L' h' R)
 (hg:qo ops L.tree o.guard=some true:=by exact rfl) (hy:kA L y=some v:=by exact rfl) (hv:Z9 P ty c k v=some c':=by exact rfl) (hp:qG sz L o.dst (.tuple #[])=some L':=by exact rfl):KO P X sz ops (o :: os) L h R :=
 qib S ho hg hx hy (i.ut _) hv hp w
theorem jc {L':Ks} {x:Operand} {ty:TypeId} {v:Value} {z n:Nat} {c:List Value} (S:Hs h0 h rs) (w:KO P X sz ops os L' h R) (ho:o.op = .call { callee:=.builtin .len,args:=#[x],argTypes:=#[ty] }:=by exact rfl) (hg:qo ops L.tree o.guard=some true:=by exact rfl) (hx:kA L x=some v:=by exact rfl) (hu:(qQ P ty).isSome=true:=by exact rfl)
 (hr:Rd h0 v z n c:=by assumption) (wf:WfH h0:=by assumption) (hp:qG sz L o.dst (.int .i64 n)=some L':=by exact rfl):KO P X sz ops (o :: os) L h R:=qf5 ho hg hx hu (Rd.Kv S hr wf) hp w
theorem Py {L':Ks} {x:Operand} {ty:TypeId} {v:Value} {α:Type} {z:Nat} {enc:α→List Value} {l:List α} (S:Hs h0 h rs) (ho:o.op = .call { callee:=.builtin .len,args:=#[x],argTypes:=#[ty] }) (hx:kA L x=some v) [i:HasR rs v α z enc l] (w:KO P X sz ops os L' h R) (hg:qo ops L.tree o.guard=some true:=by exact rfl) (hu:(qQ P ty).isSome=true:=by exact rfl)
 (hp:qG sz L o.dst (.int .i64 l.length)=some L':=by exact rfl):KO P X sz ops (o :: os) L h R:=qf5 ho hg hx hu (i.rd S) hp w
theorem zT {L':Ks} {x i:Operand} {ty:TypeId} {v:Value} {ik:IntKind} {a:Int} {z n:Nat} {c:List Value} (S:Hs h0 h rs) (w:KO P X sz ops os L' h R) (ho:o.op = .indexAddr ty x i:=by exact rfl) (hg:qo ops L.tree o.guard=some true:=by exact rfl) (hx:kA L x=some v:=by exact rfl) (hi:kA L i=some (.int ik a):=by exact rfl) (hu:Zn P ty=some z:=by exact rfl)
 (hr:Rd h0 v z n c:=by assumption) (wf:WfH h0:=by assumption) (ha:0≤a∧a<n:=by first|omega|grind) (hp:qG sz L o.dst (yG v z a.toNat 0)=some L':=by exact rfl):KO P X sz ops (o :: os) L h R:=qf7 ho hg hx hi hu (Rd.Kv S hr wf) ha hp w
theorem zQ {α:Type} [Inhabited α] {L':Ks} {x:Operand} {ty:TypeId} {v u:Value} {z k off:Nat} {enc:α→List Value} {l:List α} (S:Hs h0 h rs) (w:KO P X sz ops os L' h R) (ho:o.op = .load ty x:=by exact rfl) (hg:qo ops L.tree o.guard=some true:=by exact rfl) (hx:kA L x=some (yG v z k off):=by exact rfl)
 (hr:zl h0 v z enc l:=by assumption) (wf:WfH h0:=by assumption) (hz:∀ x,(enc x).length=z:=by intro _;rfl) (hk:k<l.length:=by first|omega|grind) (hv:Jn P ty (enc (l.getD k default)) off=some u:=by exact rfl) (hp:qG sz L o.dst u=some L':=by exact rfl):KO P X sz ops (o :: os) L h R :=
 qf6 ho hg hx (Rd.Kv S hr wf) hz hk hv hp w
theorem one {x:Operand} {ty e:TypeId} {zc:List Value} {v:Value} {c:List Value} {d:Tmp} (z:Nat) (S:Hs h0 h rs) (w:∀ u h',Hs h0 h' (.sl u e z Xw [c] :: rs)→KO P X sz ops os (L.put d u) h' R) (ho:o.op = .buildSlice ty 1 #[(0,x)]:=by exact rfl) (hg:qo ops L.tree o.guard=some true:=by exact rfl) (hx:kA L x=some v:=by exact rfl)
 (hs:qQ P ty=some e:=by exact rfl) (hz:qV P e=some zc:=by exact rfl) (hzl:zc.length=z:=by exact rfl) (hv:v.cells.toList=c:=by exact rfl) (hc:c.length=z:=by exact rfl) (hsm:z≤1000:=by decide) (hdst:o.dst=some d:=by exact rfl) (hds:Nat.blt d sz=true:=by exact rfl):KO P X sz ops (o :: os) L h R:=qic S ho hg hx hs hz hzl hv hc hsm hdst hds w
theorem app {α:Type} {x y:Operand} {ts tx e e2:TypeId} {zc c:List Value} {by_ z z2:Nat} {enc:α→List Value} {l:List α} {f:Rs→List Rs} {dd:List Rs} {v u:Value} {d:Tmp} {y0:α} (S:Hs h0 h (.sl u e2 z2 Xw [c] :: rs)) (ho:o.op = .call { callee:=.builtin .append,args:=#[x,y],argTypes:=#[ts,tx] }) (hx:kA L x=some v) [i:HasS rs v α e z enc l f dd]
 (w:∀ v' h',Hs h0 h' (.sl v' e z enc (l ++ [y0]) :: dd)→KO P X sz ops os (L.put d v') h' R) (hzz:z2=z:=by exact rfl) (hc:c=enc y0:=by exact rfl) (hg:qo ops L.tree o.guard=some true:=by exact rfl) (hy:kA L y=some u:=by exact rfl) (hs:qQ P ts=some e:=by exact rfl) (hz:qV P e=some zc:=by exact rfl) (hzl:zc.length=z:=by exact rfl) (hb:Qh P e=some (by_+1):=by exact rfl) (hxs:(qQ P tx).isSome=true:=by exact rfl)
 (h1:c.all one? = true:=by exact rfl) (hlen:∀ y,(enc y).length=z:=by intro _;rfl) (hsz:(l.length+2)*(by_+1)≤140737488355328:=by first|omega|grind) (hdst:o.dst=some d:=by exact rfl) (hds:Nat.blt d sz=true:=by exact rfl):KO P X sz ops (o :: os) L h R:=by
 subst hzz;exact qgH S ho hg hx hy i.dt hs hz hzl hb hxs hc h1 hlen hsz hdst hds w
end
end Go.Proofs.Xx
namespace Go.Proofs.Xx
open Go
theorem Ks.qgI {L L':Ks} {k:Nat} {ik:IntKind} {n m:Int} (hl:Ks.le L' L) (h:L.get k=some (.int ik m):=by exact rfl) (e:m=n:=by first|omega|grind):Ks.le ((k,.int ik n) :: L') L:=Ks.qbC (by rw [h,e]) hl
theorem qw {L' L:Ks} (h:Ks.le L' L:=by repeat (first|exact Ks.le_nil _|refine Ks.qbC rfl ?_|refine Ks.qgI ?_)):Ks.le L' L:=h
section
variable {P:Program} {X:Extern} {inR:Bool} {sz:Nat} {L:Ks} {h h0:AH} {rs:List Rs} {ops:Array Oper} {os:List Oper} {o:Oper} {R:Ks→AH→Prop} {Q:KQ}
theorem Hs.same {r r':Rs} {rs':List Rs} (S:Hs h0 h rs) (u:Ut rs r r' rs') (hk:∀ fp,r.ok h fp→r'.ok h fp):Hs h0 h rs' :=
 S.turn u (zA3 _) S.wf fun fp k1 k2=>⟨fun _ _ _=>rfl,fp,hk fp k1,fun b hb=>⟨(k2 b hb).2,.inl hb⟩⟩
theorem Hs.qgu {α β:Type} {v:Value} {e:TypeId} {z:Nat} {enc:α→List Value} {l:List α} {enc2:β→List Value} {l2:List β} (S:Hs h0 h (.sl v e z enc l :: rs)) (hl:l.length=l2.length) (hc:l.flatMap enc=l2.flatMap enc2):Hs h0 h (.sl v e z enc2 l2 :: rs) :=
 S.same .here fun fp k=>by
  rcases k with ⟨rfl,rfl⟩|⟨b,o,cc,slk,cap,h1,h2,h3,h4,h5,h6⟩
  ·have:l2=[]:=zE9.1 hl.symm;exact .inl ⟨rfl,this⟩
  ·exact .inr ⟨b,o,cc,slk,cap,by rw [← hl];exact h1,h2,h3,by rw [← hl,← hc];exact h4,⟨by rw [← hl];exact h5.1,h5.2⟩,h6⟩
theorem Hs.one {α:Type} {v:Value} {e:TypeId} {z:Nat} {c:List Value} (enc:α→List Value) (y:α) (S:Hs h0 h (.sl v e z Xw [c] :: rs)) (hc:c=enc y):Hs h0 h (.sl v e z enc [y] :: rs):=S.qgu rfl (by simp [Xw,hc])
theorem dr {α:Type} {x lo:Operand} {ty e:TypeId} {v:Value} {z:Nat} {enc:α→List Value} {l:List α} {f:Rs→List Rs} {dd:List Rs} {ik:IntKind} {a:Int} {d:Tmp} (S:Hs h0 h rs) (ho:o.op = .slice ty x (some lo) none none) (hx:kA L x=some v) [i:HasS rs v α e z enc l f dd]
 (w:∀ v',Hs h0 h (f (.sl v' e z enc (l.drop a.toNat)))→KO P X sz ops os (L.put d v') h R) (hg:qo ops L.tree o.guard=some true:=by exact rfl) (hlo:kA L lo=some (.int ik a):=by exact rfl) (hz:∀ x,(enc x).length=z:=by intro _;rfl) (hu:Zn P ty=some z:=by exact rfl) (ha:0≤a∧a≤l.length:=by first|omega|grind)
 (hdst:o.dst=some d:=by exact rfl) (hds:Nat.blt d sz=true:=by exact rfl):KO P X sz ops (o :: os) L h R:=by
 obtain ⟨k,rfl⟩:=zH3 ha.1;have hk:k≤l.length:=by omega
 obtain ⟨fp,k1,k2,-⟩:=(i.ut (.sl v e z enc l)).ok (h':=h) S.ext.next (zA3 _) S.sep
 have hue:∃ e',P.underlying ty=some (.slice e')∧zI P e'=some z:=by
  unfold Zn at hu;split at hu
  ·exact ⟨_,by assumption,hu⟩
  ·cases hu
 obtain ⟨e',hu1,hu2⟩:=hue;have hlo':ja L.tree lo=some (.int ik (Int.ofNat k)):=qE hlo;have go:∀ v',zH P ty v (some (.int ik (Int.ofNat k))) none none h=some v'→Hs h0 h (f (.sl v' e z enc (l.drop k)))→KO P X sz ops (o :: os) L h R:=fun v' q1 q2=>by
  refine zo (v:=v') (h':=h) hg ?_ (by simp only [qG,hdst,hds]) (w v' (by simpa using q2));rw [ho];simp only [zX,qE hx,jd,hlo',q1,qM,je]
 rcases k1 with ⟨rfl,rfl⟩|⟨b,o',cc,slk,cap,g1,g2,g3,g4,g5,g6⟩
 ·obtain rfl:k=0:=by simpa using hk
  refine go (.slice none 0 0) ?_ (S.same (i.ut _) fun fq q=>by simpa using q);simp only [zH,hu1,zi,hu2]
 ·subst g1;have hle:Nat.ble k l.length=true:=zB3 hk;have hnn:Nat.ble l.length cap=true:=zB3 g5.1;have hcz:l.length*z≤cap*z:=zD3 z g5.1;have hoc:o'+l.length*z≤cc.length:=by have:=g5.2;omega
  have hkz:k*z≤l.length*z:=zD3 z hk;cases hq:slk.isNone && Nat.beq k cap with
  | true =>
   rw [zA8] at hq;have hkl0:=zA6 hq.2;have hkl:k=l.length:=by have:=g5.1;omega
   refine go (.slice (some ⟨b,o',none⟩) (l.length - k) (cap - k)) ?_ (S.same (i.ut _) fun fq q=>?_)
   ·simp only [zH,hu1,g2,hu2,zi,hle,hnn,zF9,hq.1,hq.2]
   ·rcases q with ⟨q1,-⟩|⟨b',o2,cc2,sl2,cap2,q1,q2,q3,-⟩
    ·cases q1
    ·cases q1
     have:l.drop k=[]:=by rw [hkl,List.drop_length]
     exact .inr ⟨b,o',cc,slk,cap - k,by rw [zB4],g2,q3,by rw [this];simp [zn],⟨by rw [this];exact zB0 _,by rw [show cap - k=0 by omega];omega⟩,g6⟩
  | false =>
   refine go (.slice (some ⟨b,o'+k*z,none⟩) (l.length - k) (cap - k)) ?_ (S.same (i.ut _) fun fq q=>?_)
   ·simp only [zH,hu1,g2,hu2,zi,hle,hnn,zF9,hq]
   ·rcases q with ⟨q1,-⟩|⟨b',o2,cc2,sl2,cap2,q1,q2,q3,-⟩
    ·cases q1
    ·cases q1
     have hsub:k*z+(l.length - k)*z=l.length*z:=by rw [← zE1];congr 1;omega
     have hsub2:k*z+(cap - k)*z=cap*z:=by rw [← zE1];congr 1;have:=g5.1;omega
     refine .inr ⟨b,o'+k*z,cc,slk,cap - k,by rw [zB4],g2,q3,?_,⟨by rw [zB4];have:=g5.1;omega,by have:=g5.2;omega⟩,g6⟩;rw [zB4,QO hz,Qx g4 (by omega),zF8];rw [zB4,qX hz];omega
end
end Go.Proofs.Xx
namespace Go.Proofs.Xx
open Go
def jK:Value→Nat
 | .pointer (some ⟨b,_,_⟩)=>b
 | .slice (some ⟨b,_,_⟩) _ _=>b
 | .map (some b)=>b
 | _=>0
def X8 (t:Tr Value) (op:Op):Option Nat :=
 match op with
 | .load _ a=>match ja t a with|some v=>some (jK v)|none=>none
 | .slice _ x _ _ none=>match ja t x with|some v=>some (jK v)|none=>none
 | .lookup _ m _ _=>match ja t m with|some v=>some (jK v)|none=>none
 | .convert _ _ x=>match ja t x with|some v=>some (jK v)|none=>none
 | _=>none
theorem Gh {h k:AH} {v:Value} (e:k.get (jK v)=h.get (jK v)):Q8 k v=Q8 h v:=by
 unfold Q8;split
 ·simp only [jK] at e;rw [e]
 ·rfl
theorem qbg {P:Program} {ty:TypeId} {h k:AH} {v:Value} (e:k.get (jK v)=h.get (jK v)):Z8 P ty v k=Z8 P ty v h:=by
 unfold Z8;rw [Gh e]
theorem qaa {P:Program} {ty:TypeId} {h k:AH} {v:Value} {a b c:Option Value} (e:k.get (jK v)=h.get (jK v)):zH P ty v a b c k=zH P ty v a b c h:=by
 unfold zH;split
 ·rfl
 ·rfl
 ·simp only [jK] at e;rw [e]
 ·simp only [jK] at e;rw [e]
 ·rfl
theorem qab {h k:AH} {v:Value} (e:k.get (jK v)=h.get (jK v)):XB v k=XB v h:=by
 unfold XB;split
 ·rfl
 ·simp only [jK] at e;rw [e]
 ·rfl
theorem Gp {P:Program} {ty:TypeId} {h k:AH} {v q:Value} {ok:Bool} (e:k.get (jK v)=h.get (jK v)):Qw P ty v q ok k=Qw P ty v q ok h:=by
 unfold Qw;rw [qab e]
theorem yP {P:Program} {s d:TypeId} {h k:AH} {v:Value} (e:k.get (jK v)=h.get (jK v)):zS P s d v k=zS P s d v h:=by
 unfold zS;split
 ·rfl
 ·simp only [jK] at e;rw [e]
 ·rfl
theorem WJ {P:Program} {s d:TypeId} {h k:AH} {v:Value} (e:k.get (jK v)=h.get (jK v)):jb P s d v k=jb P s d v h:=by
 unfold jb;split
 ·simp only [jK] at e;rw [e]
 ·simp only [jK] at e;rw [e]
 ·rfl
theorem qeH {P:Program} {t:Tr Value} {op:Op} {h k:AH} {b:Nat} {v:Value} {u:AH} (hb:X8 t op=some b) (e:k.get b=h.get b) (ha:zX P t h op=some (.val v u)):∃ u',zX P t k op=some (.val v u'):=by
 cases op<;>simp only [X8] at hb<;>try (cases hb)
 case convert s d x0 =>
  split at hb
  ·rename_i x hx
   cases hb
   simp only [zX,hx,yP e,WJ e] at ha ⊢;cases h1:zY P s d x with
   | some y=>rw [h1] at ha;cases ha;exact ⟨_,rfl⟩
   | none =>
    rw [h1] at ha;simp only at ha ⊢;cases h2:zS P s d x h with
    | some y=>rw [h2] at ha;cases ha;exact ⟨_,rfl⟩
    | none =>
     rw [h2] at ha;simp only at ha ⊢;cases h3:jb P s d x h with
     | some y=>rw [h3] at ha;cases ha;exact ⟨_,rfl⟩
     | none=>rw [h3] at ha;cases ha
  ·cases hb
 ·rename_i ty a
  split at hb
  ·rename_i x hx
   cases hb
   simp only [zX,hx,qbg e] at ha ⊢;cases hl:Z8 P ty x h with
   | none=>rw [hl] at ha;cases ha
   | some y=>rw [hl] at ha;cases ha;exact ⟨_,rfl⟩
  ·cases hb
 ·rename_i ty a lo hi mx
  cases mx with
  | some mx=>cases hb
  | none =>
  simp only at hb;split at hb
  ·rename_i x hx
   cases hb
   simp only [zX,hx] at ha ⊢;cases h1:jd t lo with
   | none=>rw [h1] at ha;cases ha
   | some l =>
    cases h2:jd t hi with
    | none=>rw [h1,h2] at ha;cases ha
    | some r =>
     have h3:jd t none=some none:=rfl
     ·
      rw [h1,h2,h3] at ha;simp only [je] at ha;simp only [h3,je,qaa e];cases hl:zH P ty x l r none h with
      | none=>rw [hl] at ha;cases ha
      | some y=>rw [hl] at ha;cases ha;exact ⟨_,rfl⟩
  ·cases hb
 ·rename_i ty a ky ok
  split at hb
  ·rename_i x hx
   cases hb
   simp only [zX,hx] at ha ⊢;cases h1:ja t ky with
   | none=>rw [h1] at ha;cases ha
   | some l =>
    rw [h1] at ha;simp only at ha;simp only [Gp e];cases hl:Qw P ty x l ok h with
    | none=>rw [hl] at ha;cases ha
    | some y=>rw [hl] at ha;cases ha;exact ⟨_,rfl⟩
  ·cases hb
def Jq (ops:Array Oper) (fl:List Nat) (i:Nat):Nat:=((List.range i).filter (qH ops fl)).length
def V5:List (Nat×Nat×Nat)→Nat→Option (Nat×Nat)
 | [],_=>none
 | (j,lo,hi) :: r,i=>match Nat.beq j i with|true=>some (lo,hi)|false=>V5 r i
def kN (t:Tr Value) (op:Op):Bool :=
 match op with
 | .convert _ _ x=>match ja t x with|some (.int _ _)=>true | _=>false
 | _=>false
def Zl:List (Nat×Nat×Nat)→List (Option Nat)→Nat→Option (Option Nat)
 | (j,_,_) :: r,b :: s,i=>match Nat.beq j i with|true=>some b|false=>Zl r s i
 | _,_,_=>none
def keepsX:List (Nat×Nat×Nat)→List (Option Nat)→Nat→AH→AH→Prop
 | (_,lo,hi) :: r,some b :: s,m,h,h'=>((Nat.ble lo m && Nat.blt m hi)=true→h'.get b=h.get b)∧keepsX r s m h h'
 | _ :: r,none :: s,m,h,h'=>keepsX r s m h h'
 | _,_,_,_,_=>True
theorem keepsX.get {h h':AH} {m i lo hi b:Nat}:∀ {rd:List (Nat×Nat×Nat)} {bl:List (Option Nat)},keepsX rd bl m h h'→V5 rd i=some (lo,hi)→Zl rd bl i=some (some b)→lo≤m→m<hi→h'.get b=h.get b
 | [],_,_,hw,_,_,_=>by cases hw
 | _ :: _,[],_,_,hb,_,_=>by cases hb
 | (j,l,r) :: rd,some c :: s,k,hw,hb,h1,h2=>by
  simp only [V5] at hw;simp only [Zl] at hb;split at hw
  ·rename_i e
   rw [e] at hb;cases hw;cases hb
   exact k.1 (by rw [zA8];exact ⟨zB3 h1,zB3 h2⟩)
  ·rename_i e
   rw [e] at hb;exact keepsX.get k.2 hw hb h1 h2
 | (j,l,r) :: rd,none :: s,k,hw,hb,h1,h2=>by
  simp only [V5] at hw;simp only [Zl] at hb;split at hw
  ·rename_i e
   rw [e] at hb;cases hb
  ·rename_i e
   rw [e] at hb;exact keepsX.get (rd:=rd) (bl:=s) k hw hb h1 h2
section
variable (P:Program) (ops:Array Oper) (fl:List Nat) (ids:List (Nat×Nat)) (rd:List (Nat×Nat×Nat)) (bl:List (Option Nat))
abbrev looksX (i:Nat) (o:Oper) (t:Tr Value) (h:AH) (b:Nat):Prop :=
 match Ql ids i with
 | none=>X8 t o.op=some b
 | some b'=>b'=b∧∃ x c e,jW P t o.op=some (x,c,e)∧h.get b=some (.cells c e none false)
abbrev StepX (i:Nat) (o:Oper) (t:Tr Value) (h h':AH):Prop :=
 (match Zl rd bl i with|some (some b)=>qo ops t o.guard=some false∨looksX P ids i o t h b|some none=>(qo ops t o.guard=some false∨kN t o.op=true)∧Ql ids i=none|none=>True)∧(match qH ops fl i with|true=>keepsX rd bl (Jq ops fl i) h h'|false=>h'=h)
def Wx:Bool :=
 Ym ops (masks ops.toList []) fl && (Xr ops (masks ops.toList []) == fl) &&
  (List.range ops.size).all fun i=>qH ops fl i || match V5 rd i with
   | some (lo,hi)=>(Nat.ble lo (Jq ops fl i) && Nat.ble (Jq ops fl i) hi) && (List.range (((List.range ops.size).filter (qH ops fl)).length+1)).all fun m=>yD (masks ops.toList []) ((List.range ops.size).filter (qH ops fl)) m i || (Nat.ble lo m && Nat.ble m hi)
   | none=>match ops[i]? with|some o=>!VG fl i && Yt [] (masks ops.toList []) ((List.range ops.size).filter (qH ops fl)) i o.op|none=>false
end
def WOX (P:Program) (X:Extern) (sz:Nat) (ops:Array Oper) (fl:List Nat) (ids:List (Nat×Nat)) (rd:List (Nat×Nat×Nat)) (bl:List (Option Nat)) (i:Nat) (os:List Oper) (t:Tr Value) (h:AH) (R:Tr Value→AH→Prop):Prop :=
 ∃ n l t' h',Jj P X (exec P X n) sz ops ids false i os t h=some (l,t',h')∧(∀ k o,os[k]? = some o→∃ s,l[k]? = some s∧(s.go=true→qo ops s.t o.guard=some true)∧StepX P ops fl ids rd bl (i+k) o s.t s.h (hpAt l h' (k+1)))∧hpAt l h' 0=h∧R t' h'
theorem Js {P:Program} {u t:Tr Value} (hl:TLe u t) {op:Op} {x:Option Nat×List Value×TypeId} (h:jW P u op=some x):jW P t op=some x:=by
 cases op<;>simp only [jW] at h ⊢<;>try exact h
 ·split at h
  ·rename_i hx;rw [zf hl hx];exact h
  ·cases h
 ·split at h
  ·rename_i e1 e2;rw [JP hl e1,e2];exact h
  ·cases h
theorem looksX.le {P:Program} {ids:List (Nat×Nat)} {i:Nat} {o:Oper} {u t:Tr Value} (hl:TLe u t) {h:AH} {b:Nat} (k:looksX P ids i o u h b) (hrd:∀ {op:Op} {b:Nat},X8 u op=some b→X8 t op=some b):looksX P ids i o t h b:=by
 unfold looksX at k ⊢;split
 ·rename_i e;rw [e] at k;exact hrd k
 ·rename_i b' e
  rw [e] at k;obtain ⟨k1,x,c,ee,k2,k3⟩:=k;exact ⟨k1,x,c,ee,Js hl k2,k3⟩
theorem qdH {u t:Tr Value} (hl:TLe u t) {op:Op} {b:Nat} (h:X8 u op=some b):X8 t op=some b:=by
 cases op<;>simp only [X8] at h ⊢<;>try exact h
 case convert s d x0 =>
  split at h
  ·rename_i hx;rw [zf hl hx];exact h
  ·cases h
 ·split at h
  ·rename_i hx;rw [zf hl hx];exact h
  ·cases h
 ·rename_i ty a lo hi mx
  cases mx with
  | some mx=>cases h
  | none =>
  simp only at h ⊢;split at h
  ·rename_i hx;rw [zf hl hx];exact h
  ·cases h
 ·split at h
  ·rename_i hx;rw [zf hl hx];exact h
  ·cases h
theorem qel {u t:Tr Value} (hl:TLe u t) {op:Op} (h:kN u op=true):kN t op=true:=by
 cases op<;>simp only [kN] at h ⊢<;>try exact h
 split at h
 ·rename_i hx;rw [zf hl hx]
 ·cases h
theorem qgC {P:Program} {X:Extern} {run:zF} {t:Tr Value} {h h1 k:AH} {op:Op} {v:Value} (hr:kN t op=true) (hv:vz P X run t h op=some (v,h1)):∃ u,zX P t k op=some (.val v u):=by
 cases op<;>simp only [kN] at hr<;>try (cases hr)
 rename_i s d x
 split at hr
 ·rename_i kk n hx
  have e1:∀ g:AH,zS P s d (.int kk n) g=none:=by intro g;unfold zS;split<;>first|rfl|(rename_i q;cases q)
  have e2:∀ g:AH,jb P s d (.int kk n) g=none:=by intro g;unfold jb;split<;>first|rfl|(rename_i q;cases q)
  have e:∀ g:AH,zX P t g (.convert s d x)=(match zY P s d (.int kk n) with|some v=>some (.val v g)|none=>none):=by
   intro g;simp only [zX,hx,e1,e2,qM];cases zY P s d (.int kk n)<;>rfl
  unfold vz at hv;rw [e h] at hv;rw [e k];cases hw:zY P s d (.int kk n) with
  | none=>rw [hw] at hv;cases hv
  | some w=>rw [hw] at hv;cases hv;exact ⟨_,rfl⟩
 ·cases hr
section
variable {P:Program} {X:Extern} {inR:Bool} {sz:Nat} {L:Ks} {h:AH} {Q:KQ} {ops:Array Oper} {fl:List Nat} {ids:List (Nat×Nat)} {rd:List (Nat×Nat×Nat)} {bl:List (Option Nat)} {i:Nat} {o:Oper} {os:List Oper}
theorem StepX.le {u t:Tr Value} (hl:TLe u t) {h h':AH} (k:StepX P ops fl ids rd bl i o u h h'):StepX P ops fl ids rd bl i o t h h':=by
 refine ⟨?_,k.2⟩;have:=k.1;split at this
 ·rename_i b hb
  exact this.imp (Qm hl) (fun k=>looksX.le hl k (qdH hl))
 ·exact ⟨this.1.imp (Qm hl) (qel hl),this.2⟩
 ·trivial
def agreeBl (i m:Nat):List (Nat×Nat×Nat)→List (Option Nat)→List (Option Nat)→Prop
 | [],[],[]=>True
 | (j,lo,_) :: rd,a :: s,b :: u=>(match Nat.blt j i || Nat.blt lo m with|true=>a=b|false=>True)∧agreeBl i m rd s u
 | _,_,_=>False
theorem agreeBl.refl (i m:Nat):∀ {rd:List (Nat×Nat×Nat)} {bl:List (Option Nat)},rd.length=bl.length→agreeBl i m rd bl bl
 | [],[],_=>trivial
 | (j,lo,hi) :: rd,a :: s,h=>⟨by split<;>trivial,agreeBl.refl i m (by simpa using h)⟩
 | [],_ :: _,h=>by cases h
 | _ :: _,[],h=>by cases h
theorem agreeBl.len {i m:Nat}:∀ {rd:List (Nat×Nat×Nat)} {a b:List (Option Nat)},agreeBl i m rd a b→rd.length=a.length∧rd.length=b.length
 | [],[],[],_=>⟨rfl,rfl⟩
 | (j,lo,hi) :: rd,a :: s,b :: u,h=>by have:=h.2.len;exact ⟨by rw [zC4,zC4,this.1],by rw [zC4,zC4,this.2]⟩
 | [],_ :: _,_,h=>by cases h
 | [],[],_ :: _,h=>by cases h
 | _ :: _,[],_,h=>by cases h
 | _ :: _,_ :: _,[],h=>by cases h
theorem agreeBl.trans {i m i' m':Nat} (hi:i≤i') (hm:m≤m'):∀ {rd:List (Nat×Nat×Nat)} {a b c:List (Option Nat)},agreeBl i m rd a b→agreeBl i' m' rd b c→agreeBl i m rd a c
 | [],[],[],[],_,_=>trivial
 | (j,lo,hi') :: rd,a :: s,b :: u,c :: v,h,g=>by
  refine ⟨?_,h.2.trans hi hm g.2⟩;have h1:=h.1;have g1:=g.1;split
  ·rename_i q
   rw [q] at h1;have q':(Nat.blt j i' || Nat.blt lo m')=true:=by
    rw [zG8,Nat.blt_eq,Nat.blt_eq] at q ⊢;omega
   rw [q'] at g1;exact h1.trans g1
  ·trivial
 | [],_ :: _,_,_,h,_=>by cases h
 | [],[],_ :: _,_,h,_=>by cases h
 | _ :: _,[],_,_,h,_=>by cases h
 | _ :: _,_ :: _,[],_,h,_=>by cases h
 | [],[],[],_ :: _,_,g=>by cases g
 | _ :: _,_ :: _,_ :: _,[],_,g=>by cases g
theorem agreeBl.at_ {i m k:Nat} (hk:k<i):∀ {rd:List (Nat×Nat×Nat)} {a b:List (Option Nat)},agreeBl i m rd a b→Zl rd a k=Zl rd b k
 | [],[],[],_=>rfl
 | (j,lo,hi) :: rd,a :: s,b :: u,h=>by
  simp only [Zl];split
  ·rename_i q
   have:=zA6 q;subst this;have h1:=h.1;rw [show (Nat.blt j i || Nat.blt lo m)=true by rw [zG8,Nat.blt_eq];exact .inl hk] at h1;rw [h1]
  ·exact h.2.at_ hk
 | [],_ :: _,_,h=>by cases h
 | [],[],_ :: _,h=>by cases h
 | _ :: _,[],_,h=>by cases h
 | _ :: _,_ :: _,[],h=>by cases h
theorem agreeBl.keeps {i m k:Nat} (hk:k<m) {h h':AH}:∀ {rd:List (Nat×Nat×Nat)} {a b:List (Option Nat)},agreeBl i m rd a b→keepsX rd a k h h'→keepsX rd b k h h'
 | [],[],[],_,_=>trivial
 | (j,lo,hi) :: rd,a :: s,b :: u,g,q=>by
  have g1:=g.1;by_cases c:lo<m
  ·rw [show (Nat.blt j i || Nat.blt lo m)=true by rw [zG8,Nat.blt_eq,Nat.blt_eq];exact .inr c] at g1;simp only at g1;subst g1;cases a with
   | none=>exact g.2.keeps hk q
   | some x=>exact ⟨q.1,g.2.keeps hk q.2⟩
  ·have hq:keepsX rd s k h h':=by cases a with
    | none=>exact q
    | some x=>exact q.2
   cases b with
   | none=>exact g.2.keeps hk hq
   | some x=>exact ⟨fun e=>absurd (zB6 ((zA8 _ _).mp e).1) (by omega),g.2.keeps hk hq⟩
 | [],_ :: _,_,h,_=>by cases h
 | [],[],_ :: _,h,_=>by cases h
 | _ :: _,[],_,h,_=>by cases h
 | _ :: _,_ :: _,[],h,_=>by cases h
def KOX (P:Program) (X:Extern) (sz:Nat) (ops:Array Oper) (fl:List Nat) (ids:List (Nat×Nat)) (rd:List (Nat×Nat×Nat)) (bl:List (Option Nat)) (i:Nat) (os:List Oper) (L:Ks) (h:AH) (R:Ks→AH→Prop):Prop :=
 rd.length=bl.length→∀ t,Kn t L→∃ bl',agreeBl i (Jq ops fl i) rd bl bl'∧WOX P X sz ops fl ids rd bl' i os t h (fun t' h'=>∃ L',Kn t' L'∧R L' h')
theorem Zm {R:Ks→AH→Prop} (hq:R L h):KOX P X sz ops fl ids rd bl i [] L h R:=fun hn t hk=>⟨bl,agreeBl.refl _ _ hn,0,[],t,h,rfl,fun k o ho=>by simp at ho,rfl,L,hk,hq⟩
theorem VK (k:Nat):Jq ops fl k≤Jq ops fl (k+1)∧(qH ops fl k=true→Jq ops fl k<Jq ops fl (k+1)):=by
 unfold Jq;rw [List.range_succ,zD1,zB2];cases hk:qH ops fl k<;>simp [zD8,hk]
theorem StepX.agree {bl':List (Option Nat)} (a:agreeBl (i+1) (Jq ops fl (i+1)) rd bl bl') {t:Tr Value} {h h':AH} (k:StepX P ops fl ids rd bl i o t h h'):StepX P ops fl ids rd bl' i o t h h':=by
 refine ⟨?_,?_⟩
 ·rw [← a.at_ (zG0 i)];exact k.1
 ·have k2:=k.2;cases hc:qH ops fl i with
  | true =>
   rw [hc] at k2;exact a.keeps ((VK (ops:=ops) (fl:=fl) i).2 hc) k2
  | false=>rw [hc] at k2;exact k2
theorem qp {R:Ks→AH→Prop} (w:KO P X sz ops [o] L h (fun L' h'=>StepX P ops fl ids rd bl i o L.tree h h'∧KOX P X sz ops fl ids rd bl (i+1) os L' h' R)) (hid:Ql ids i=none:=by exact rfl):KOX P X sz ops fl ids rd bl i (o :: os) L h R:=fun hn t hk=>by
 obtain ⟨n,t1,h1,e1,L',k1,sx,w2⟩:=w t hk;obtain ⟨bl',ag,n2,l,t2,h2,e2,g2,z2,L2,k2,q2⟩:=w2 hn t1 k1;have hx:=(sx.le hk.tle).agree ag;refine ⟨bl',(agreeBl.refl _ _ hn).trans (Nat.le_succ _) (VK (ops:=ops) (fl:=fl) i).1 ag,?_⟩;have M:=Vs (P:=P) (X:=X) (ZW (P:=P) (X:=X) (Nat.le_max_right n n2)) (sz:=sz) (ops:=ops) (ids:=ids) (pl:=false) os (i+1) t1 h1 _ e2;have e3:=Jk (P:=P) (X:=X) (ZW (P:=P) (X:=X) (Nat.le_max_left n n2)) (sz:=sz) (ops:=ops) [o] t h _ e1;have key:∀ (go:Bool) (v:Value),(go=true→qo ops t o.guard=some true)→∀ k o',(o :: os)[k]? = some o'→∃ s,((⟨t,h,go,v⟩:zJ) :: l)[k]? = some s∧(s.go=true→qo ops s.t o'.guard=some true)∧StepX P ops fl ids rd bl' (i+k) o' s.t s.h (hpAt ((⟨t,h,go,v⟩:zJ) :: l) h2 (k+1)):=by
  intro go v hgo k o' ho;cases k with
  | zero =>
   simp only [List.getElem?_cons_zero,Option.some.injEq] at ho;subst ho;refine ⟨_,rfl,hgo,?_⟩;have:hpAt ((⟨t,h,go,v⟩:zJ) :: l) h2 (0+1)=h1:=by rw [← z2];simp [hpAt]
   rw [this];exact hx
  | succ k =>
   simp only [zH4] at ho;obtain ⟨s,s1,s2,s3⟩:=g2 k o' ho;refine ⟨s,by simpa using s1,s2,?_⟩;have:hpAt ((⟨t,h,go,v⟩:zJ) :: l) h2 (k+1+1)=hpAt l h2 (k+1):=by simp [hpAt]
   rw [this,show i+(k+1)=i+1+k by omega];exact s3
 simp only [Xk] at e3;split at e3
 ·rename_i hg
  split at e3
  ·rename_i v h3 ho
   split at e3
   ·rename_i t3 hp
    cases e3
    exact ⟨max n n2,⟨t,h,true,v⟩ :: l,t2,h2,by simp only [Jj,hg,stepD,hid,ho,hp,M,Xz],key true v (fun _=>hg),rfl,L2,k2,q2⟩
   ·cases e3
  ·cases e3
 ·rename_i hg
  split at e3
  ·rename_i t3 hp
   cases e3
   exact ⟨max n n2,⟨t,h,false,.tuple #[]⟩ :: l,t2,h2,by simp only [Jj,hg,hp,M,Xz],key false _ (fun q=>by cases q),rfl,L2,k2,q2⟩
  ·cases e3
 ·cases e3
theorem qi1 {R:Ks→AH→Prop} {b:Nat} {L':Ks} {x:Option Nat} {c:List Value} {e:TypeId} (hi:Ql ids i=some b) (hf:jW P L.tree o.op=some (x,c,e)) (hb:h.get b=some (.cells c e none false)) (hbl:Zl rd bl i=some (some b)) (hc:qH ops fl i=false)
 (hg:qo ops L.tree o.guard=some true) (hp:qG sz L o.dst (Qk x b)=some L') (w:KOX P X sz ops fl ids rd bl (i+1) os L' h R):KOX P X sz ops fl ids rd bl i (o :: os) L h R:=fun hn t hk=>by
 obtain ⟨t1,e1,k1⟩:=XO hk hp;obtain ⟨bl',ag,n2,l,t2,h2,e2,g2,z2,q2⟩:=w hn t1 k1;rw [ag.at_ (zG0 i)] at hbl;refine ⟨bl',(agreeBl.refl _ _ hn).trans (Nat.le_succ _) (VK (ops:=ops) (fl:=fl) i).1 ag,?_⟩;have hf':=Js hk.tle hf;have hg':=Qm hk.tle hg;refine ⟨n2,⟨t,h,true,Qk x b⟩ :: l,t2,h2,by simp only [Jj,hg',stepD,hi,hf',e1,e2,Xz],?_,rfl,q2⟩;intro k o' ho;cases k with
 | zero =>
  simp only [List.getElem?_cons_zero,Option.some.injEq] at ho;subst ho;refine ⟨_,rfl,fun _=>hg',?_⟩;have:hpAt ((⟨t,h,true,Qk x b⟩:zJ) :: l) h2 (0+1)=h:=by rw [← z2];simp [hpAt]
  rw [this,Nat.add_zero];refine ⟨?_,?_⟩
  ·rw [hbl];refine .inr ?_;unfold looksX;rw [hi];exact ⟨rfl,x,c,e,hf',hb⟩
  ·rw [hc]
 | succ k =>
  simp only [zH4] at ho;obtain ⟨s,s1,s2,s3⟩:=g2 k o' ho;refine ⟨s,by simpa using s1,s2,?_⟩;have:hpAt ((⟨t,h,true,Qk x b⟩:zJ) :: l) h2 (k+1+1)=hpAt l h2 (k+1):=by simp [hpAt]
  rw [this,show i+(k+1)=i+1+k by omega];exact s3
theorem qdN {run:zF} {t:Tr Value} {h h1:AH} {op:Op} {b:Nat} {v:Value} (hr:X8 t op=some b) (hv:vz P X run t h op=some (v,h1)):∃ u,zX P t h op=some (.val v u):=by
 unfold vz at hv;have key:∀ o':Option Value,zX P t h op=qM o' h→∃ u,zX P t h op=some (.val v u):=by
  intro o' ho;rw [ho] at hv ⊢;cases o' with
  | none=>cases hv
  | some y=>cases hv;exact ⟨_,rfl⟩
 cases op<;>simp only [X8] at hr<;>try (cases hr)
 case convert s d x0 =>
  split at hr
  ·rename_i x hx
   cases h1:zY P s d x with
   | some y =>
    have e:zX P t h (.convert s d x0)=some (.val y h):=by simp only [zX,hx,h1]
    rw [e] at hv;cases hv;exact ⟨_,e⟩
   | none =>
    cases h2:zS P s d x h with
    | some y =>
     have e:zX P t h (.convert s d x0)=some (.val y h):=by simp only [zX,hx,h1,h2]
     rw [e] at hv;cases hv;exact ⟨_,e⟩
    | none=>exact key (jb P s d x h) (by simp only [zX,hx,h1,h2])
  ·cases hr
 ·rename_i ty a
  split at hr
  ·rename_i x hx
   exact key (Z8 P ty x h) (by simp only [zX,hx])
  ·cases hr
 ·rename_i ty a lo hi mx
  cases mx with
  | some mx=>cases hr
  | none =>
  simp only at hr;split at hr
  ·rename_i x hx
   cases h1:jd t lo with
   | none=>simp only [zX,hx,h1] at hv;cases hv
   | some l =>
    cases h2:jd t hi with
    | none=>simp only [zX,hx,h1,h2] at hv;cases hv
    | some r =>
     have h3:jd t none=some none:=rfl;exact key (zH P ty x l r none h) (by simp only [zX,hx,h1,h2,h3,je])
  ·cases hr
 ·rename_i ty a ky ok
  split at hr
  ·rename_i x hx
   cases h1:ja t ky with
   | none=>simp only [zX,hx,h1] at hv;cases hv
   | some l=>exact key (Qw P ty x l ok h) (by simp only [zX,hx,h1])
  ·cases hr
theorem JX {p:Nat→Bool}:∀ (n m i:Nat),((List.range n).filter p)[m]? = some i→((List.range i).filter p).length=m∧p i=true∧i<n
 | 0,m,i,h=>by simp at h
 | n+1,m,i,h=>by
  rw [List.range_succ,zD1] at h;rw [zF0] at h;split at h
  ·obtain ⟨a,b,c⟩:=JX n m i h;exact ⟨a,b,by omega⟩
  ·rename_i hm
   cases hp:p n with
   | false=>simp [hp] at h
   | true =>
    simp only [zD8,hp,if_true,List.filter_nil] at h;cases hd:m - ((List.range n).filter p).length with
    | zero =>
     rw [hd] at h;simp only [List.getElem?_cons_zero,Option.some.injEq] at h;subst h;exact ⟨by omega,hp,by omega⟩
    | succ k=>rw [hd] at h;simp at h
theorem VJ (k:Nat):Jq ops fl (k+1)=Jq ops fl k+(if qH ops fl k then 1 else 0):=by
 unfold Jq;rw [List.range_succ,zD1,zB2];cases hk:qH ops fl k<;>simp [zD8,hk]
theorem Wi {t:Tr Value} {Q:Tr Value→AH→Prop} (hd:Wx ops fl rd=true) (hid:∀ i b,Ql ids i=some b→VG fl i=true) (hlen:rd.length=bl.length) (w:WOX P X sz ops fl ids rd bl 0 ops.toList t h Q) :
 ∃ n t' h',Xj P X (exec P X n) sz ops (masks ops.toList []) fl ids t h=some (t',h')∧Q t' h':=by
 obtain ⟨n,l,t',h',hl,hg,hz,hq⟩:=w;refine ⟨n,_,_,?_,hq⟩;unfold Wx at hd;rw [zA8,zA8,zC8] at hd;obtain ⟨⟨hp,hf⟩,hs⟩:=hd;obtain ⟨q1,q2,q3,q4⟩:=XL ops.toList 0 t h l t' h' hl;have hbl:∀ (rd:List (Nat×Nat×Nat)) (bl:List (Option Nat)) (i lo hi:Nat),rd.length=bl.length→V5 rd i=some (lo,hi)→∃ b,Zl rd bl i=some b:=by
  intro rd;induction rd with
  | nil=>intro bl i lo hi _ hw;cases hw
  | cons a rd ih =>
   intro bl i lo hi hn hw;obtain ⟨j,a1,a2⟩:=a;cases bl with
   | nil=>simp at hn
   | cons b bl =>
    simp only [V5] at hw;simp only [Zl];split
    ·exact ⟨b,rfl⟩
    ·rename_i e
     rw [e] at hw;exact ih bl i lo hi (by simpa using hn) hw
 have hopd:Xj P X (exec P X n) sz ops (masks ops.toList []) fl ids t h=some (t',h'):=by
  unfold Xj;rw [hl];simp only;split
  ·rfl
  ·rw [if_pos];intro i hi hc o s ho hs' hgo hcalm m k hm hfar;have h1:=hs i (zE3.2 hi);rw [hc,Bool.false_or] at h1;cases hw:V5 rd i with
   | none =>
    rw [hw] at h1;simp only [ho,zA8,zG3] at h1;have hn:Ql ids i=none:=by
     cases hq:Ql ids i with
     | none=>rfl
     | some b=>rw [hid i b hq] at h1;cases h1.1
    have h2:=h1.2;unfold Yt at hcalm h2;simp only [hn,Ql] at hcalm h2;rw [h2] at hcalm;cases hcalm
   | some lh =>
    obtain ⟨lo,hi'⟩:=lh;rw [hw] at h1;simp only [zA8,zC8,zG8] at h1;obtain ⟨⟨a1,a2⟩,a3⟩:=h1;have a1:=zB6 a1;have a2:=zB6 a2;obtain ⟨ob,hb⟩:=hbl rd bl i lo hi' hlen hw;obtain ⟨s2,e2,hgs,sx⟩:=hg i o (by rw [zC1];exact ho);rw [hs'] at e2;cases e2
    obtain ⟨s3,e3,sf⟩:=q4 i o (by rw [zC1];exact ho);rw [hs'] at e3;cases e3
    have hv:=sf.2.2.1 hgo;cases ob with
    | none =>
     have:=sx.1;rw [zG1,hb] at this;obtain ⟨this,hn⟩:=this;simp only [stepD,zG1,hn] at hv;unfold OkAtP;rw [hn];rcases this with q|q
     ·rw [hgs hgo] at q;cases q
     ·exact qgC q hv
    | some b =>
    have agree:∀ q p,p≤q→q≤ops.size→lo≤Jq ops fl p→Jq ops fl q≤hi'→(hpAt l h' q).get b=(hpAt l h' p).get b:=by
     intro q;induction q with
     | zero=>intro p hp _ _ _;rw [Nat.le_zero.1 hp]
     | succ q ih =>
      intro p hp hqs hlo hhi;rcases Nat.eq_or_lt_of_le hp with e|e
      ·rw [e]
      ·have hc1:=VJ (ops:=ops) (fl:=fl) q;have hmono:∀ a c,a≤c→Jq ops fl a≤Jq ops fl c:=by
        intro a c hac;induction hac with
        | refl=>exact zA3 _
        | step _ ih2=>rw [VJ];omega
       have hpq:=hmono p q (by omega);rw [← ih p (by omega) (by omega) hlo (by omega)];obtain ⟨s2,e2,_,sx⟩:=hg q ops[q] (by rw [zC1];exact zE2 (by omega));have hsh:hpAt l h' q=s2.h:=by unfold hpAt;rw [e2]
       rw [hsh];have sx2:=sx.2;rw [zG1] at sx2;split at sx2
       ·rename_i hch
        rw [hch,if_pos rfl] at hc1;exact sx2.get hw hb (by omega) (by omega)
       ·rw [sx2]
    have hpos:∃ p,p≤ops.size∧Jq ops fl p=m∧k=hpAt l h' p:=by
     cases m with
     | zero =>
      simp only [List.getElem?_cons_zero,Option.some.injEq] at hm;exact ⟨0,by omega,by simp [Jq],by rw [← hm,q2]⟩
     | succ m =>
      simp only [zH4,zH8] at hm;cases hj:((List.range ops.size).filter (qH ops fl))[m]? with
      | none=>rw [hj] at hm;cases hm
      | some j =>
       rw [hj] at hm;simp only [Option.map_some,Option.some.injEq] at hm;obtain ⟨c1,c2,c3⟩:=JX _ _ _ hj;refine ⟨j+1,by omega,?_,hm.symm⟩;rw [VJ,c2,if_pos rfl];unfold Jq;omega
    obtain ⟨p,p1,p2,rfl⟩:=hpos;have hin:lo≤m∧m≤hi':=by
     have hml:m<((List.range ops.size).filter (qH ops fl)).length+1:=by
      have:=(zD6.1 hm).1;simpa using this
     have:=a3 m (zE3.2 hml);rw [hfar] at this;rcases this with q|q
     ·cases q
     ·exact ⟨zB6 q.1,zB6 q.2⟩
    have hr:looksX P ids i o s.t s.h b:=by
     have:=sx.1;rw [zG1,hb] at this;rcases this with q|q
     ·rw [hgs hgo] at q;cases q
     ·exact q
    have hsh:hpAt l h' i=s.h:=by unfold hpAt;rw [hs']
    have same:(hpAt l h' p).get b=s.h.get b:=by
     rw [← hsh];rcases Nat.le_total p i with e|e
     ·exact (agree i p e (by omega) (by omega) (by omega)).symm
     ·exact agree p i e p1 (by omega) (by omega)
    unfold looksX at hr;unfold OkAtP;split at hr
    ·rename_i hn
     rw [hn];simp only [stepD,zG1,hn] at hv;show ∃ u,zX P s.t (hpAt l h' p) o.op=some (.val s.v u)
     obtain ⟨u,hu⟩:=qdN hr hv;exact qeH hr same hu
    ·rename_i b' hn
     rw [hn];obtain ⟨rfl,x,c,e,r1,r2⟩:=hr;exact ⟨x,c,e,r1,by rw [same,r2]⟩
 exact hopd
theorem Zy {id:Nat} (rd:List (Nat×Nat×Nat)) (bl:List (Option Nat)) (w:KOX P X sz ops [] [] rd bl 0 ops.toList L h (Q .norm)) (hn:rd.length=bl.length:=by exact rfl) (hd:Wx ops [] rd=true:=by decide +kernel):K P X inR sz (.region id ops true) L h Q:=fun t hk=>by
 obtain ⟨bl',ag,w'⟩:=w hn t hk;obtain ⟨n,t',h',e,L',k,q⟩:=Wi hd (fun i b q=>by cases q) ag.len.2 w';unfold Wx at hd;rw [zA8,zA8] at hd;obtain ⟨⟨hp,hf⟩,hs⟩:=hd;have hf:Xr ops (masks ops.toList [])=[]:=by simpa using hf
 refine ⟨n+1,_,_,_,?_,L',k,q⟩;rw [Qo];simp only [zC];have:WF P X (exec P X n) sz ops t h=some (t',h'):=by
  unfold WF;simp only [hf,hp];exact e
 rw [this]
def HintOk (P:Program) (ops:Array Oper) (sz:Nat) (L:Ks) (h:AH) (j:Nat) (c:List Value) (e:TypeId):Prop:=∀ t,Kn t L→JI P ops sz h t j = .cells c e none false
theorem HintOk.direct {j:Nat} {o:Oper} {x:Option Nat} {c:List Value} {e:TypeId} (ho:ops[j]? = some o:=by exact rfl) (hf:jW P L.tree o.op=some (x,c,e):=by exact rfl) (hp:WV ops (masks ops.toList []) j=[]:=by decide +kernel):HintOk P ops sz L h j c e:=fun t hk=>by
 unfold JI;rw [ho,hp];simp only [List.foldl_nil,Js hk.tle hf]
theorem HintOk.one {j k:Nat} {o ok:Oper} {x:Option Nat} {c:List Value} {e:TypeId} {v:Value} {h':AH} {L':Ks} (hp:WV ops (masks ops.toList []) j=[k]) (ho:ops[j]? = some o) (hok:ops[k]? = some ok) (hg:qo ops L.tree ok.guard=some true) (ha:zX P L.tree h ok.op=some (.val v h')) (hd:qG sz L ok.dst v=some L')
 (hf:jW P L'.tree o.op=some (x,c,e)):HintOk P ops sz L h j c e:=fun t hk=>by
 obtain ⟨t1,e1,k1⟩:=XO hk hd;unfold JI;rw [ho,hp];have:wF P ops sz h t k=t1:=by
  unfold wF;simp only [hok,Qm hk.tle hg,yQ hk.tle ha,e1]
 simp only [List.foldl_cons,List.foldl_nil,this,Js k1.tle hf]
def hintsK (P:Program) (ops:Array Oper) (sz:Nat) (L:Ks) (h:AH):List Nat→List Qp→Prop
 | [],[]=>True
 | j :: r,ob :: s=>(∃ c e,HintOk P ops sz L h j c e∧ob = .cells c e none false)∧hintsK P ops sz L h r s
 | _,_=>False
theorem hintsK.eq {t:Tr Value} (hk:Kn t L):∀ {fl:List Nat} {objs:List Qp},hintsK P ops sz L h fl objs→fl.map (JI P ops sz h t)=objs
 | [],[],_=>rfl
 | j :: r,ob :: s,⟨⟨c,e,h1,h2⟩,h4⟩=>by rw [List.map_cons,hintsK.eq hk h4,h2,h1 t hk]
 | [],_ :: _,h=>by cases h
 | _ :: _,[],h=>by cases h
theorem Wj:∀ (l:List Nat) (n i b:Nat),Ql (numbered n l) i=some b→VG l i=true
 | [],n,i,b,h=>by cases h
 | j :: r,n,i,b,h=>by
  simp only [numbered,Ql] at h;unfold VG;rw [List.any_cons,zG8];split at h
  ·rename_i hj
   have:=zA6 hj;subst this;exact .inl (by simp)
  ·exact .inr (Wj r (n+1) i b h)
theorem qbW {id j:Nat} {r:List Nat} (objs:List Qp) (rd:List (Nat×Nat×Nat)) (bl:List (Option Nat)) (ho:hintsK P ops sz L h (j :: r) objs) (w:KOX P X sz ops (j :: r) (numbered h.next (j :: r)) rd bl 0 ops.toList L (objs.foldl AH.add h) (Q .norm)) (hn:rd.length=bl.length:=by exact rfl)
 (hd:Wx ops (j :: r) rd=true:=by decide +kernel):K P X inR sz (.region id ops true) L h Q:=fun t hk=>by
 obtain ⟨bl',ag,w'⟩:=w hn t hk;obtain ⟨n,t',h',e,L',k,q⟩:=Wi hd (fun i b q=>Wj _ _ _ _ q) ag.len.2 w';unfold Wx at hd;rw [zA8,zA8] at hd;obtain ⟨⟨hp,hf⟩,hs⟩:=hd;have hf:Xr ops (masks ops.toList [])=j :: r:=by simpa using hf
 refine ⟨n+1,_,_,_,?_,L',k,q⟩;rw [Qo];simp only [zC];have:WF P X (exec P X n) sz ops t h=some (t',h'):=by
  unfold WF;simp only [hf,hp,ho.eq hk];exact e
 rw [this]
end
end Go.Proofs.Xx
namespace Go.Proofs.Xx
open Go
def P7:Value→Nat
 | .slice (some ⟨b,_,_⟩) _ _=>b
 | _=>0
theorem kQ (v:Value) (z k off:Nat):jK (yG v z k off)=P7 v:=by
 unfold yG;split
 ·rfl
 ·unfold P7;split
  ·rename_i h;exact absurd rfl (h _ _ _ _ _)
  ·rfl
section
variable {h0 h h':AH} {rs rs1:List Rs} {b:Nat} {c:List Value} {e:TypeId} {f:Rs→List Rs}
theorem Hs.gB (S:Hs h0 h rs) [i:HasB rs b c e f]:h.get b=some (.cells c e none false):=by
 obtain ⟨fp,h1,h2⟩:=i.at_.ok S.sep;exact h1.1
theorem Hs.bB (S:Hs h0 h rs) [i:HasB rs b c e f]:b<h.next:=by
 obtain ⟨fp,h1,h2⟩:=i.at_.ok S.sep;exact (h2 b h1.2).2.1
theorem Rd.bS {v:Value} {z n:Nat} {c:List Value} (w:WfH h) (r:Rd h v z n c) (hn:0<n):P7 v<h.next:=by
 rcases r with ⟨rfl,rfl,rfl⟩|⟨b,o,cap,cc,e,s,q,rfl,h1,h2⟩
 ·omega
 ·exact w.lt h1
theorem Hs.bX {v:Value} {α:Type} {z:Nat} {enc:α→List Value} {l:List α} (S:Hs h0 h rs) (r:zl h0 v z enc l) (w:WfH h0) (hl:0<l.length):P7 v<h.next:=zE4 (r.bS w hl) S.ext.next
end
end Go.Proofs.Xx
