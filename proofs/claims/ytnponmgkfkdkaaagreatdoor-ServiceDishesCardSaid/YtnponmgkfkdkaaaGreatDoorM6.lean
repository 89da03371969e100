/-
  A region whose order is open and where some reads have no fixed place: the blocks that they read keep their value.
-/
import Derived.Test.YtnponmgkfkdkaaaGreatDoorM5
import Derived.Test.YtnponmgkfkdkaaaGreatDoorM4
import Derived.Laws.Externs
import Derived.Lib.Bytealg
set_option linter.unusedSectionVars false
set_option linter.unusedSimpArgs false
set_option linter.unusedVariables false
set_option maxRecDepth 100000
namespace Go.Proofs.Xx
open Go
def jI:Value→Nat
 | .pointer (some ⟨b,_,_⟩)=>b
 | .slice (some ⟨b,_,_⟩) _ _=>b
 | .map (some b)=>b
 | _=>0
def Yq (t:Tr Value) (op:Op):Option Nat :=
 match op with
 | .load _ a=>match zY t a with|some v=>some (jI v)|none=>none
 | .slice _ x _ _ none=>match zY t x with|some v=>some (jI v)|none=>none
 | .lookup _ m _ _=>match zY t m with|some v=>some (jI v)|none=>none
 | .convert _ _ x=>match zY t x with|some v=>some (jI v)|none=>none
 | _=>none
theorem Gm {h k:AH} {v:Value} (e:k.get (jI v)=h.get (jI v)):Zh k v=Zh h v:=by
 unfold Zh;split
 ·simp only [jI] at e;rw [e]
 ·rfl
theorem qbr {P:Program} {ty:TypeId} {h k:AH} {v:Value} (e:k.get (jI v)=h.get (jI v)):Jp P ty v k=Jp P ty v h:=by
 unfold Jp;rw [Gm e]
theorem qak {P:Program} {ty:TypeId} {h k:AH} {v:Value} {a b c:Option Value} (e:k.get (jI v)=h.get (jI v)):jd P ty v a b c k=jd P ty v a b c h:=by
 unfold jd;split
 ·rfl
 ·rfl
 ·simp only [jI] at e;rw [e]
 ·simp only [jI] at e;rw [e]
 ·rfl
theorem WG {h k:AH} {v:Value} (e:k.get (jI v)=h.get (jI v)):Zx v k=Zx v h:=by
 unfold Zx;split
 ·rfl
 ·simp only [jI] at e;rw [e]
 ·rfl
theorem Gw {P:Program} {ty:TypeId} {h k:AH} {v q:Value} {ok:Bool} (e:k.get (jI v)=h.get (jI v)):Qg P ty v q ok k=Qg P ty v q ok h:=by
 unfold Qg;rw [WG e]
theorem wo {P:Program} {ty:TypeId} {h k:AH} {v q:Value} {ok:Bool} (e:k.get (jI v)=h.get (jI v)):Qy P ty v q ok k=Qy P ty v q ok h:=by
 unfold Qy;rw [WG e]
theorem yT {P:Program} {s d:TypeId} {h k:AH} {v:Value} (e:k.get (jI v)=h.get (jI v)):jY P s d v k=jY P s d v h:=by
 unfold jY;split
 ·rfl
 ·simp only [jI] at e;rw [e]
 ·rfl
theorem WQ {P:Program} {s d:TypeId} {h k:AH} {v:Value} (e:k.get (jI v)=h.get (jI v)):jA P s d v k=jA P s d v h:=by
 unfold jA;split
 ·simp only [jI] at e;rw [e]
 ·simp only [jI] at e;rw [e]
 ·rfl
theorem qfb {P:Program} {t:Tr Value} {op:Op} {h k:AH} {b:Nat} {v:Value} {u:AH} (hb:Yq t op=some b) (e:k.get b=h.get b) (ha:ja P t h op=some (.val v u)):∃ u',ja P t k op=some (.val v u'):=by
 cases op<;>simp only [Yq] at hb<;>try (cases hb)
 case convert s d x0 =>
  split at hb
  ·rename_i x hx
   cases hb
   simp only [ja,hx,yT e,WQ e] at ha ⊢;cases h1:jV P s d x with
   | some y=>rw [h1] at ha;cases ha;exact ⟨_,rfl⟩
   | none =>
    rw [h1] at ha;simp only at ha ⊢;cases h2:jY P s d x h with
    | some y=>rw [h2] at ha;cases ha;exact ⟨_,rfl⟩
    | none =>
     rw [h2] at ha;simp only at ha ⊢;cases h3:jA P s d x h with
     | some y=>rw [h3] at ha;cases ha;exact ⟨_,rfl⟩
     | none=>rw [h3] at ha;cases ha
  ·cases hb
 ·rename_i ty a
  split at hb
  ·rename_i x hx
   cases hb
   simp only [ja,hx,qbr e] at ha ⊢;cases hl:Jp P ty x h with
   | none=>rw [hl] at ha;cases ha
   | some y=>rw [hl] at ha;cases ha;exact ⟨_,rfl⟩
  ·cases hb
 ·rename_i ty a lo hi mx
  cases mx with
  | some mx=>cases hb
  | none =>
  simp only at hb;split at hb
  ·rename_i x hx
   cases hb
   simp only [ja,hx] at ha ⊢;cases h1:jM t lo with
   | none=>rw [h1] at ha;cases ha
   | some l =>
    cases h2:jM t hi with
    | none=>rw [h1,h2] at ha;cases ha
    | some r =>
     have h3:jM t none=some none:=rfl
     ·
      rw [h1,h2,h3] at ha;simp only [jU] at ha;simp only [h3,jU,qak e];cases hl:jd P ty x l r none h with
      | none=>rw [hl] at ha;cases ha
      | some y=>rw [hl] at ha;cases ha;exact ⟨_,rfl⟩
  ·cases hb
 ·rename_i ty a ky ok
  split at hb
  ·rename_i x hx
   cases hb
   simp only [ja,hx] at ha ⊢;cases h1:zY t ky with
   | none=>rw [h1] at ha;cases ha
   | some l =>
    rw [h1] at ha;simp only at ha;simp only [Gw e,wo e];cases hl:orO (Qg P ty x l ok h) (Qy P ty x l ok h) with
    | none=>rw [hl] at ha;cases ha
    | some y=>rw [hl] at ha;cases ha;exact ⟨_,rfl⟩
  ·cases hb
def JS (ops:Array Oper) (fl:List Nat) (i:Nat):Nat:=((List.range i).filter (qG ops fl)).length
def Xr:List (Nat×Nat×Nat)→Nat→Option (Nat×Nat)
 | [],_=>none
 | (j,lo,hi) :: r,i=>match Nat.beq j i with|true=>some (lo,hi)|false=>Xr r i
def kL (t:Tr Value) (op:Op):Bool :=
 match op with
 | .convert _ _ x=>match zY t x with|some (.int _ _)=>true | _=>false
 | _=>false
def Zv:List (Nat×Nat×Nat)→List (Option Nat)→Nat→Option (Option Nat)
 | (j,_,_) :: r,b :: s,i=>match Nat.beq j i with|true=>some b|false=>Zv r s i
 | _,_,_=>none
def keepsX:List (Nat×Nat×Nat)→List (Option Nat)→Nat→AH→AH→Prop
 | (_,lo,hi) :: r,some b :: s,m,h,h'=>((Nat.ble lo m && Nat.blt m hi)=true→h'.get b=h.get b)∧keepsX r s m h h'
 | _ :: r,none :: s,m,h,h'=>keepsX r s m h h'
 | _,_,_,_,_=>True
theorem keepsX.get {h h':AH} {m i lo hi b:Nat}:∀ {rd:List (Nat×Nat×Nat)} {bl:List (Option Nat)},keepsX rd bl m h h'→Xr rd i=some (lo,hi)→Zv rd bl i=some (some b)→lo≤m→m<hi→h'.get b=h.get b
 | [],_,_,hw,_,_,_=>by cases hw
 | _ :: _,[],_,_,hb,_,_=>by cases hb
 | (j,l,r) :: rd,some c :: s,k,hw,hb,h1,h2=>by
  simp only [Xr] at hw;simp only [Zv] at hb;split at hw
  ·rename_i e
   rw [e] at hb;cases hw;cases hb
   exact k.1 (by rw [zA8];exact ⟨zB3 h1,zB3 h2⟩)
  ·rename_i e
   rw [e] at hb;exact keepsX.get k.2 hw hb h1 h2
 | (j,l,r) :: rd,none :: s,k,hw,hb,h1,h2=>by
  simp only [Xr] at hw;simp only [Zv] at hb;split at hw
  ·rename_i e
   rw [e] at hb;cases hb
  ·rename_i e
   rw [e] at hb;exact keepsX.get (rd:=rd) (bl:=s) k hw hb h1 h2
section
variable (P:Program) (ops:Array Oper) (fl:List Nat) (ids:List (Nat×Nat)) (rd:List (Nat×Nat×Nat)) (bl:List (Option Nat))
abbrev looksX (i:Nat) (o:Oper) (t:Tr Value) (h:AH) (b:Nat):Prop :=
 match Qk ids i with
 | none=>Yq t o.op=some b
 | some b'=>b'=b∧∃ x c e,Qq P t o.op=some (x,c,e)∧h.get b=some (.cells c e none false)
abbrev StepX (i:Nat) (o:Oper) (t:Tr Value) (h h':AH):Prop :=
 (match Zv rd bl i with|some (some b)=>qp ops t o.guard=some false∨looksX P ids i o t h b|some none=>(qp ops t o.guard=some false∨kL t o.op=true)∧Qk ids i=none|none=>True)∧(match qG ops fl i with|true=>keepsX rd bl (JS ops fl i) h h'|false=>h'=h)
def kK:Bool :=
 YI ops (masks ops.toList []) fl && (XP ops (masks ops.toList []) == fl) &&
  (List.range ops.size).all fun i=>qG ops fl i || match Xr rd i with
   | some (lo,hi)=>(Nat.ble lo (JS ops fl i) && Nat.ble (JS ops fl i) hi) && (List.range (((List.range ops.size).filter (qG ops fl)).length+1)).all fun m=>yJ (masks ops.toList []) ((List.range ops.size).filter (qG ops fl)) m i || (Nat.ble lo m && Nat.ble m hi)
   | none=>match ops[i]? with|some o=>!yF fl i && XW [] (masks ops.toList []) ((List.range ops.size).filter (qG ops fl)) i o.op|none=>false
end
def WOX (P:Program) (X:Extern) (sz:Nat) (ops:Array Oper) (fl:List Nat) (ids:List (Nat×Nat)) (rd:List (Nat×Nat×Nat)) (bl:List (Option Nat)) (i:Nat) (os:List Oper) (t:Tr Value) (h:AH) (R:Tr Value→AH→Prop):Prop :=
 ∃ n l t' h',ZR P X (exec P X n) sz ops ids false i os t h=some (l,t',h')∧(∀ k o,os[k]? = some o→∃ s,l[k]? = some s∧(s.go=true→qp ops s.t o.guard=some true)∧StepX P ops fl ids rd bl (i+k) o s.t s.h (hpAt l h' (k+1)))∧hpAt l h' 0=h∧R t' h'
theorem Yj {P:Program} {u t:Tr Value} (hl:TLe u t) {op:Op} {x:Option Nat×List Value×TypeId} (h:Qq P u op=some x):Qq P t op=some x:=by
 cases op<;>simp only [Qq] at h ⊢<;>try exact h
 ·split at h
  ·rename_i hx;rw [zi hl hx];exact h
  ·cases h
 ·split at h
  ·rename_i e1 e2;rw [Xk hl e1,e2];exact h
  ·cases h
theorem looksX.le {P:Program} {ids:List (Nat×Nat)} {i:Nat} {o:Oper} {u t:Tr Value} (hl:TLe u t) {h:AH} {b:Nat} (k:looksX P ids i o u h b) (hrd:∀ {op:Op} {b:Nat},Yq u op=some b→Yq t op=some b):looksX P ids i o t h b:=by
 unfold looksX at k ⊢;split
 ·rename_i e;rw [e] at k;exact hrd k
 ·rename_i b' e
  rw [e] at k;obtain ⟨k1,x,c,ee,k2,k3⟩:=k;exact ⟨k1,x,c,ee,Yj hl k2,k3⟩
theorem qd3 {u t:Tr Value} (hl:TLe u t) {op:Op} {b:Nat} (h:Yq u op=some b):Yq t op=some b:=by
 cases op<;>simp only [Yq] at h ⊢<;>try exact h
 case convert s d x0 =>
  split at h
  ·rename_i hx;rw [zi hl hx];exact h
  ·cases h
 ·split at h
  ·rename_i hx;rw [zi hl hx];exact h
  ·cases h
 ·rename_i ty a lo hi mx
  cases mx with
  | some mx=>cases h
  | none =>
  simp only at h ⊢;split at h
  ·rename_i hx;rw [zi hl hx];exact h
  ·cases h
 ·split at h
  ·rename_i hx;rw [zi hl hx];exact h
  ·cases h
theorem qeL {u t:Tr Value} (hl:TLe u t) {op:Op} (h:kL u op=true):kL t op=true:=by
 cases op<;>simp only [kL] at h ⊢<;>try exact h
 split at h
 ·rename_i hx;rw [zi hl hx]
 ·cases h
theorem qhh {P:Program} {X:Extern} {run:zI} {t:Tr Value} {h h1 k:AH} {op:Op} {v:Value} (hr:kL t op=true) (hv:yg P X run t h op=some (v,h1)):∃ u,ja P t k op=some (.val v u):=by
 cases op<;>simp only [kL] at hr<;>try (cases hr)
 rename_i s d x
 split at hr
 ·rename_i kk n hx
  have e1:∀ g:AH,jY P s d (.int kk n) g=none:=by intro g;unfold jY;split<;>first|rfl|(rename_i q;cases q)
  have e2:∀ g:AH,jA P s d (.int kk n) g=none:=by intro g;unfold jA;split<;>first|rfl|(rename_i q;cases q)
  have e:∀ g:AH,ja P t g (.convert s d x)=(match jV P s d (.int kk n) with|some v=>some (.val v g)|none=>none):=by
   intro g;simp only [ja,hx,e1,e2,qU];cases jV P s d (.int kk n)<;>rfl
  unfold yg at hv;rw [e h] at hv;rw [e k];cases hw:jV P s d (.int kk n) with
  | none=>rw [hw] at hv;cases hv
  | some w=>rw [hw] at hv;cases hv;exact ⟨_,rfl⟩
 ·cases hr
section
variable {P:Program} {X:Extern} {inR:Bool} {sz:Nat} {L:Ks} {h:AH} {Q:KQ} {ops:Array Oper} {fl:List Nat} {ids:List (Nat×Nat)} {rd:List (Nat×Nat×Nat)} {bl:List (Option Nat)} {i:Nat} {o:Oper} {os:List Oper}
theorem StepX.le {u t:Tr Value} (hl:TLe u t) {h h':AH} (k:StepX P ops fl ids rd bl i o u h h'):StepX P ops fl ids rd bl i o t h h':=by
 refine ⟨?_,k.2⟩;have:=k.1;split at this
 ·rename_i b hb
  exact this.imp (Qs hl) (fun k=>looksX.le hl k (qd3 hl))
 ·exact ⟨this.1.imp (Qs hl) (qeL hl),this.2⟩
 ·trivial
def agreeBl (i m:Nat):List (Nat×Nat×Nat)→List (Option Nat)→List (Option Nat)→Prop
 | [],[],[]=>True
 | (j,lo,_) :: rd,a :: s,b :: u=>(match Nat.blt j i || Nat.blt lo m with|true=>a=b|false=>True)∧agreeBl i m rd s u
 | _,_,_=>False
theorem agreeBl.refl (i m:Nat):∀ {rd:List (Nat×Nat×Nat)} {bl:List (Option Nat)},rd.length=bl.length→agreeBl i m rd bl bl
 | [],[],_=>trivial
 | (j,lo,hi) :: rd,a :: s,h=>⟨by split<;>trivial,agreeBl.refl i m (by simpa using h)⟩
 | [],_ :: _,h=>by cases h
 | _ :: _,[],h=>by cases h
theorem agreeBl.len {i m:Nat}:∀ {rd:List (Nat×Nat×Nat)} {a b:List (Option Nat)},agreeBl i m rd a b→rd.length=a.length∧rd.length=b.length
 | [],[],[],_=>⟨rfl,rfl⟩
 | (j,lo,hi) :: rd,a :: s,b :: u,h=>by have:=h.2.len;exact ⟨by rw [zC4,zC4,this.1],by rw [zC4,zC4,this.2]⟩
 | [],_ :: _,_,h=>by cases h
 | [],[],_ :: _,h=>by cases h
 | _ :: _,[],_,h=>by cases h
 | _ :: _,_ :: _,[],h=>by cases h
theorem agreeBl.trans {i m i' m':Nat} (hi:i≤i') (hm:m≤m'):∀ {rd:List (Nat×Nat×Nat)} {a b c:List (Option Nat)},agreeBl i m rd a b→agreeBl i' m' rd b c→agreeBl i m rd a c
 | [],[],[],[],_,_=>trivial
 | (j,lo,hi') :: rd,a :: s,b :: u,c :: v,h,g=>by
  refine ⟨?_,h.2.trans hi hm g.2⟩;have h1:=h.1;have g1:=g.1;split
  ·rename_i q
   rw [q] at h1;have q':(Nat.blt j i' || Nat.blt lo m')=true:=by
    rw [zG8,Nat.blt_eq,Nat.blt_eq] at q ⊢;omega
   rw [q'] at g1;exact h1.trans g1
  ·trivial
 | [],_ :: _,_,_,h,_=>by cases h
 | [],[],_ :: _,_,h,_=>by cases h
 | _ :: _,[],_,_,h,_=>by cases h
 | _ :: _,_ :: _,[],_,h,_=>by cases h
 | [],[],[],_ :: _,_,g=>by cases g
 | _ :: _,_ :: _,_ :: _,[],_,g=>by cases g
theorem agreeBl.at_ {i m k:Nat} (hk:k<i):∀ {rd:List (Nat×Nat×Nat)} {a b:List (Option Nat)},agreeBl i m rd a b→Zv rd a k=Zv rd b k
 | [],[],[],_=>rfl
 | (j,lo,hi) :: rd,a :: s,b :: u,h=>by
  simp only [Zv];split
  ·rename_i q
   have:=zA6 q;subst this;have h1:=h.1;rw [show (Nat.blt j i || Nat.blt lo m)=true by rw [zG8,Nat.blt_eq];exact .inl hk] at h1;rw [h1]
  ·exact h.2.at_ hk
 | [],_ :: _,_,h=>by cases h
 | [],[],_ :: _,h=>by cases h
 | _ :: _,[],_,h=>by cases h
 | _ :: _,_ :: _,[],h=>by cases h
theorem agreeBl.keeps {i m k:Nat} (hk:k<m) {h h':AH}:∀ {rd:List (Nat×Nat×Nat)} {a b:List (Option Nat)},agreeBl i m rd a b→keepsX rd a k h h'→keepsX rd b k h h'
 | [],[],[],_,_=>trivial
 | (j,lo,hi) :: rd,a :: s,b :: u,g,q=>by
  have g1:=g.1;by_cases c:lo<m
  ·rw [show (Nat.blt j i || Nat.blt lo m)=true by rw [zG8,Nat.blt_eq,Nat.blt_eq];exact .inr c] at g1;simp only at g1;subst g1;cases a with
   | none=>exact g.2.keeps hk q
   | some x=>exact ⟨q.1,g.2.keeps hk q.2⟩
  ·have hq:keepsX rd s k h h':=by cases a with
    | none=>exact q
    | some x=>exact q.2
   cases b with
   | none=>exact g.2.keeps hk hq
   | some x=>exact ⟨fun e=>absurd (zB6 ((zA8 _ _).mp e).1) (by omega),g.2.keeps hk hq⟩
 | [],_ :: _,_,h,_=>by cases h
 | [],[],_ :: _,h,_=>by cases h
 | _ :: _,[],_,h,_=>by cases h
 | _ :: _,_ :: _,[],h,_=>by cases h
def KOX (P:Program) (X:Extern) (sz:Nat) (ops:Array Oper) (fl:List Nat) (ids:List (Nat×Nat)) (rd:List (Nat×Nat×Nat)) (bl:List (Option Nat)) (i:Nat) (os:List Oper) (L:Ks) (h:AH) (R:Ks→AH→Prop):Prop :=
 rd.length=bl.length→∀ t,Kn t L→∃ bl',agreeBl i (JS ops fl i) rd bl bl'∧WOX P X sz ops fl ids rd bl' i os t h (fun t' h'=>∃ L',Kn t' L'∧R L' h')
theorem Xq {R:Ks→AH→Prop} (hq:R L h):KOX P X sz ops fl ids rd bl i [] L h R:=fun hn t hk=>⟨bl,agreeBl.refl _ _ hn,0,[],t,h,rfl,fun k o ho=>by simp at ho,rfl,L,hk,hq⟩
theorem VT (k:Nat):JS ops fl k≤JS ops fl (k+1)∧(qG ops fl k=true→JS ops fl k<JS ops fl (k+1)):=by
 unfold JS;rw [List.range_succ,zD1,zB2];cases hk:qG ops fl k<;>simp [zD7,hk]
theorem StepX.agree {bl':List (Option Nat)} (a:agreeBl (i+1) (JS ops fl (i+1)) rd bl bl') {t:Tr Value} {h h':AH} (k:StepX P ops fl ids rd bl i o t h h'):StepX P ops fl ids rd bl' i o t h h':=by
 refine ⟨?_,?_⟩
 ·rw [← a.at_ (zG0 i)];exact k.1
 ·have k2:=k.2;cases hc:qG ops fl i with
  | true =>
   rw [hc] at k2;exact a.keeps ((VT (ops:=ops) (fl:=fl) i).2 hc) k2
  | false=>rw [hc] at k2;exact k2
theorem qy {R:Ks→AH→Prop} (w:KO P X sz ops [o] L h (fun L' h'=>StepX P ops fl ids rd bl i o L.tree h h'∧KOX P X sz ops fl ids rd bl (i+1) os L' h' R)) (hid:Qk ids i=none:=by exact rfl):KOX P X sz ops fl ids rd bl i (o :: os) L h R:=fun hn t hk=>by
 obtain ⟨n,t1,h1,e1,L',k1,sx,w2⟩:=w t hk;obtain ⟨bl',ag,n2,l,t2,h2,e2,g2,z2,L2,k2,q2⟩:=w2 hn t1 k1;have hx:=(sx.le hk.tle).agree ag;refine ⟨bl',(agreeBl.refl _ _ hn).trans (Nat.le_succ _) (VT (ops:=ops) (fl:=fl) i).1 ag,?_⟩;have M:=X8 (P:=P) (X:=X) (QC (P:=P) (X:=X) (Nat.le_max_right n n2)) (sz:=sz) (ops:=ops) (ids:=ids) (pl:=false) os (i+1) t1 h1 _ e2;have e3:=ZL (P:=P) (X:=X) (QC (P:=P) (X:=X) (Nat.le_max_left n n2)) (sz:=sz) (ops:=ops) [o] t h _ e1;have key:∀ (go:Bool) (v:Value),(go=true→qp ops t o.guard=some true)→∀ k o',(o :: os)[k]? = some o'→∃ s,((⟨t,h,go,v⟩:zH) :: l)[k]? = some s∧(s.go=true→qp ops s.t o'.guard=some true)∧StepX P ops fl ids rd bl' (i+k) o' s.t s.h (hpAt ((⟨t,h,go,v⟩:zH) :: l) h2 (k+1)):=by
  intro go v hgo k o' ho;cases k with
  | zero =>
   simp only [List.getElem?_cons_zero,Option.some.injEq] at ho;subst ho;refine ⟨_,rfl,hgo,?_⟩;have:hpAt ((⟨t,h,go,v⟩:zH) :: l) h2 (0+1)=h1:=by rw [← z2];simp [hpAt]
   rw [this];exact hx
  | succ k =>
   simp only [zH4] at ho;obtain ⟨s,s1,s2,s3⟩:=g2 k o' ho;refine ⟨s,by simpa using s1,s2,?_⟩;have:hpAt ((⟨t,h,go,v⟩:zH) :: l) h2 (k+1+1)=hpAt l h2 (k+1):=by simp [hpAt]
   rw [this,show i+(k+1)=i+1+k by omega];exact s3
 simp only [XB] at e3;split at e3
 ·rename_i hg
  split at e3
  ·rename_i v h3 ho
   split at e3
   ·rename_i t3 hp
    cases e3
    exact ⟨max n n2,⟨t,h,true,v⟩ :: l,t2,h2,by simp only [ZR,hg,stepD,hid,ho,hp,M,JR],key true v (fun _=>hg),rfl,L2,k2,q2⟩
   ·cases e3
  ·cases e3
 ·rename_i hg
  split at e3
  ·rename_i t3 hp
   cases e3
   exact ⟨max n n2,⟨t,h,false,.tuple #[]⟩ :: l,t2,h2,by simp only [ZR,hg,hp,M,JR],key false _ (fun q=>by cases q),rfl,L2,k2,q2⟩
  ·cases e3
 ·cases e3
theorem qjQ {R:Ks→AH→Prop} {b:Nat} {L':Ks} {x:Option Nat} {c:List Value} {e:TypeId} (hi:Qk ids i=some b) (hf:Qq P L.tree o.op=some (x,c,e)) (hb:h.get b=some (.cells c e none false)) (hbl:Zv rd bl i=some (some b)) (hc:qG ops fl i=false)
 (hg:qp ops L.tree o.guard=some true) (hp:qJ sz L o.dst (QV x b)=some L') (w:KOX P X sz ops fl ids rd bl (i+1) os L' h R):KOX P X sz ops fl ids rd bl i (o :: os) L h R:=fun hn t hk=>by
 obtain ⟨t1,e1,k1⟩:=Ya hk hp;obtain ⟨bl',ag,n2,l,t2,h2,e2,g2,z2,q2⟩:=w hn t1 k1;rw [ag.at_ (zG0 i)] at hbl;refine ⟨bl',(agreeBl.refl _ _ hn).trans (Nat.le_succ _) (VT (ops:=ops) (fl:=fl) i).1 ag,?_⟩;have hf':=Yj hk.tle hf;have hg':=Qs hk.tle hg;refine ⟨n2,⟨t,h,true,QV x b⟩ :: l,t2,h2,by simp only [ZR,hg',stepD,hi,hf',e1,e2,JR],?_,rfl,q2⟩;intro k o' ho;cases k with
 | zero =>
  simp only [List.getElem?_cons_zero,Option.some.injEq] at ho;subst ho;refine ⟨_,rfl,fun _=>hg',?_⟩;have:hpAt ((⟨t,h,true,QV x b⟩:zH) :: l) h2 (0+1)=h:=by rw [← z2];simp [hpAt]
  rw [this,Nat.add_zero];refine ⟨?_,?_⟩
  ·rw [hbl];refine .inr ?_;unfold looksX;rw [hi];exact ⟨rfl,x,c,e,hf',hb⟩
  ·rw [hc]
 | succ k =>
  simp only [zH4] at ho;obtain ⟨s,s1,s2,s3⟩:=g2 k o' ho;refine ⟨s,by simpa using s1,s2,?_⟩;have:hpAt ((⟨t,h,true,QV x b⟩:zH) :: l) h2 (k+1+1)=hpAt l h2 (k+1):=by simp [hpAt]
  rw [this,show i+(k+1)=i+1+k by omega];exact s3
theorem qeb {run:zI} {t:Tr Value} {h h1:AH} {op:Op} {b:Nat} {v:Value} (hr:Yq t op=some b) (hv:yg P X run t h op=some (v,h1)):∃ u,ja P t h op=some (.val v u):=by
 unfold yg at hv;have key:∀ o':Option Value,ja P t h op=qU o' h→∃ u,ja P t h op=some (.val v u):=by
  intro o' ho;rw [ho] at hv ⊢;cases o' with
  | none=>cases hv
  | some y=>cases hv;exact ⟨_,rfl⟩
 cases op<;>simp only [Yq] at hr<;>try (cases hr)
 case convert s d x0 =>
  split at hr
  ·rename_i x hx
   cases h1:jV P s d x with
   | some y =>
    have e:ja P t h (.convert s d x0)=some (.val y h):=by simp only [ja,hx,h1]
    rw [e] at hv;cases hv;exact ⟨_,e⟩
   | none =>
    cases h2:jY P s d x h with
    | some y =>
     have e:ja P t h (.convert s d x0)=some (.val y h):=by simp only [ja,hx,h1,h2]
     rw [e] at hv;cases hv;exact ⟨_,e⟩
    | none=>exact key (jA P s d x h) (by simp only [ja,hx,h1,h2])
  ·cases hr
 ·rename_i ty a
  split at hr
  ·rename_i x hx
   exact key (Jp P ty x h) (by simp only [ja,hx])
  ·cases hr
 ·rename_i ty a lo hi mx
  cases mx with
  | some mx=>cases hr
  | none =>
  simp only at hr;split at hr
  ·rename_i x hx
   cases h1:jM t lo with
   | none=>simp only [ja,hx,h1] at hv;cases hv
   | some l =>
    cases h2:jM t hi with
    | none=>simp only [ja,hx,h1,h2] at hv;cases hv
    | some r =>
     have h3:jM t none=some none:=rfl;exact key (jd P ty x l r none h) (by simp only [ja,hx,h1,h2,h3,jU])
  ·cases hr
 ·rename_i ty a ky ok
  split at hr
  ·rename_i x hx
   cases h1:zY t ky with
   | none=>simp only [ja,hx,h1] at hv;cases hv
   | some l=>exact key (orO (Qg P ty x l ok h) (Qy P ty x l ok h)) (by simp only [ja,hx,h1])
  ·cases hr
theorem Xv {p:Nat→Bool}:∀ (n m i:Nat),((List.range n).filter p)[m]? = some i→((List.range i).filter p).length=m∧p i=true∧i<n
 | 0,m,i,h=>by simp at h
 | n+1,m,i,h=>by
  rw [List.range_succ,zD1] at h;rw [zF0] at h;split at h
  ·obtain ⟨a,b,c⟩:=Xv n m i h;exact ⟨a,b,by omega⟩
  ·rename_i hm
   cases hp:p n with
   | false=>simp [hp] at h
   | true =>
    simp only [zD7,hp,if_true,List.filter_nil] at h;cases hd:m - ((List.range n).filter p).length with
    | zero =>
     rw [hd] at h;simp only [List.getElem?_cons_zero,Option.some.injEq] at h;subst h;exact ⟨by omega,hp,by omega⟩
    | succ k=>rw [hd] at h;simp at h
theorem VS (k:Nat):JS ops fl (k+1)=JS ops fl k+(if qG ops fl k then 1 else 0):=by
 unfold JS;rw [List.range_succ,zD1,zB2];cases hk:qG ops fl k<;>simp [zD7,hk]
theorem Py {t:Tr Value} {Q:Tr Value→AH→Prop} (hd:kK ops fl rd=true) (hid:∀ i b,Qk ids i=some b→yF fl i=true) (hlen:rd.length=bl.length) (w:WOX P X sz ops fl ids rd bl 0 ops.toList t h Q) :
 ∃ n t' h',JJ P X (exec P X n) sz ops (masks ops.toList []) fl ids t h=some (t',h')∧Q t' h':=by
 obtain ⟨n,l,t',h',hl,hg,hz,hq⟩:=w;refine ⟨n,_,_,?_,hq⟩;unfold kK at hd;rw [zA8,zA8,zC8] at hd;obtain ⟨⟨hp,hf⟩,hs⟩:=hd;obtain ⟨q1,q2,q3,q4⟩:=JH ops.toList 0 t h l t' h' hl;have hbl:∀ (rd:List (Nat×Nat×Nat)) (bl:List (Option Nat)) (i lo hi:Nat),rd.length=bl.length→Xr rd i=some (lo,hi)→∃ b,Zv rd bl i=some b:=by
  intro rd;induction rd with
  | nil=>intro bl i lo hi _ hw;cases hw
  | cons a rd ih =>
   intro bl i lo hi hn hw;obtain ⟨j,a1,a2⟩:=a;cases bl with
   | nil=>simp at hn
   | cons b bl =>
    simp only [Xr] at hw;simp only [Zv];split
    ·exact ⟨b,rfl⟩
    ·rename_i e
     rw [e] at hw;exact ih bl i lo hi (by simpa using hn) hw
 have hopd:JJ P X (exec P X n) sz ops (masks ops.toList []) fl ids t h=some (t',h'):=by
  unfold JJ;rw [hl];simp only;split
  ·rfl
  ·rw [if_pos];intro i hi hc o s ho hs' hgo hcalm m k hm hfar;have h1:=hs i (zE2.2 hi);rw [hc,Bool.false_or] at h1;cases hw:Xr rd i with
   | none =>
    rw [hw] at h1;simp only [ho,zA8,zG3] at h1;have hn:Qk ids i=none:=by
     cases hq:Qk ids i with
     | none=>rfl
     | some b=>rw [hid i b hq] at h1;cases h1.1
    have h2:=h1.2;unfold XW at hcalm h2;simp only [hn,Qk] at hcalm h2;rw [h2] at hcalm;cases hcalm
   | some lh =>
    obtain ⟨lo,hi'⟩:=lh;rw [hw] at h1;simp only [zA8,zC8,zG8] at h1;obtain ⟨⟨a1,a2⟩,a3⟩:=h1;have a1:=zB6 a1;have a2:=zB6 a2;obtain ⟨ob,hb⟩:=hbl rd bl i lo hi' hlen hw;obtain ⟨s2,e2,hgs,sx⟩:=hg i o (by rw [zC1];exact ho);rw [hs'] at e2;cases e2
    obtain ⟨s3,e3,sf⟩:=q4 i o (by rw [zC1];exact ho);rw [hs'] at e3;cases e3
    have hv:=sf.2.2.1 hgo;cases ob with
    | none =>
     have:=sx.1;rw [zG1,hb] at this;obtain ⟨this,hn⟩:=this;simp only [stepD,zG1,hn] at hv;unfold OkAtP;rw [hn];rcases this with q|q
     ·rw [hgs hgo] at q;cases q
     ·exact qhh q hv
    | some b =>
    have agree:∀ q p,p≤q→q≤ops.size→lo≤JS ops fl p→JS ops fl q≤hi'→(hpAt l h' q).get b=(hpAt l h' p).get b:=by
     intro q;induction q with
     | zero=>intro p hp _ _ _;rw [Nat.le_zero.1 hp]
     | succ q ih =>
      intro p hp hqs hlo hhi;rcases Nat.eq_or_lt_of_le hp with e|e
      ·rw [e]
      ·have hc1:=VS (ops:=ops) (fl:=fl) q;have hmono:∀ a c,a≤c→JS ops fl a≤JS ops fl c:=by
        intro a c hac;induction hac with
        | refl=>exact zA3 _
        | step _ ih2=>rw [VS];omega
       have hpq:=hmono p q (by omega);rw [← ih p (by omega) (by omega) hlo (by omega)];obtain ⟨s2,e2,_,sx⟩:=hg q ops[q] (by rw [zC1];exact zE1 (by omega));have hsh:hpAt l h' q=s2.h:=by unfold hpAt;rw [e2]
       rw [hsh];have sx2:=sx.2;rw [zG1] at sx2;split at sx2
       ·rename_i hch
        rw [hch,if_pos rfl] at hc1;exact sx2.get hw hb (by omega) (by omega)
       ·rw [sx2]
    have hpos:∃ p,p≤ops.size∧JS ops fl p=m∧k=hpAt l h' p:=by
     cases m with
     | zero =>
      simp only [List.getElem?_cons_zero,Option.some.injEq] at hm;exact ⟨0,by omega,by simp [JS],by rw [← hm,q2]⟩
     | succ m =>
      simp only [zH4,zH8] at hm;cases hj:((List.range ops.size).filter (qG ops fl))[m]? with
      | none=>rw [hj] at hm;cases hm
      | some j =>
       rw [hj] at hm;simp only [Option.map_some,Option.some.injEq] at hm;obtain ⟨c1,c2,c3⟩:=Xv _ _ _ hj;refine ⟨j+1,by omega,?_,hm.symm⟩;rw [VS,c2,if_pos rfl];unfold JS;omega
    obtain ⟨p,p1,p2,rfl⟩:=hpos;have hin:lo≤m∧m≤hi':=by
     have hml:m<((List.range ops.size).filter (qG ops fl)).length+1:=by
      have:=(zD5.1 hm).1;simpa using this
     have:=a3 m (zE2.2 hml);rw [hfar] at this;rcases this with q|q
     ·cases q
     ·exact ⟨zB6 q.1,zB6 q.2⟩
    have hr:looksX P ids i o s.t s.h b:=by
     have:=sx.1;rw [zG1,hb] at this;rcases this with q|q
     ·rw [hgs hgo] at q;cases q
     ·exact q
    have hsh:hpAt l h' i=s.h:=by unfold hpAt;rw [hs']
    have same:(hpAt l h' p).get b=s.h.get b:=by
     rw [← hsh];rcases Nat.le_total p i with e|e
     ·exact (agree i p e (by omega) (by omega) (by omega)).symm
     ·exact agree p i e p1 (by omega) (by omega)
    unfold looksX at hr;unfold OkAtP;split at hr
    ·rename_i hn
     rw [hn];simp only [stepD,zG1,hn] at hv;show ∃ u,ja P s.t (hpAt l h' p) o.op=some (.val s.v u)
     obtain ⟨u,hu⟩:=qeb hr hv;exact qfb hr same hu
    ·rename_i b' hn
     rw [hn];obtain ⟨rfl,x,c,e,r1,r2⟩:=hr;exact ⟨x,c,e,r1,by rw [same,r2]⟩
 exact hopd
theorem ZJ {id:Nat} (rd:List (Nat×Nat×Nat)) (bl:List (Option Nat)) (w:KOX P X sz ops [] [] rd bl 0 ops.toList L h (Q .norm)) (hn:rd.length=bl.length:=by exact rfl) (hd:kK ops [] rd=true:=by decide +kernel):K P X inR sz (.region id ops true) L h Q:=fun t hk=>by
 obtain ⟨bl',ag,w'⟩:=w hn t hk;obtain ⟨n,t',h',e,L',k,q⟩:=Py hd (fun i b q=>by cases q) ag.len.2 w';unfold kK at hd;rw [zA8,zA8] at hd;obtain ⟨⟨hp,hf⟩,hs⟩:=hd;have hf:XP ops (masks ops.toList [])=[]:=by simpa using hf
 refine ⟨n+1,_,_,_,?_,L',k,q⟩;rw [Qo];simp only [zD];have:WN P X (exec P X n) sz ops t h=some (t',h'):=by
  unfold WN;simp only [hf,hp];exact e
 rw [this]
def HintOk (P:Program) (ops:Array Oper) (sz:Nat) (L:Ks) (h:AH) (j:Nat) (c:List Value) (e:TypeId):Prop:=∀ t,Kn t L→Ye P ops sz h t j = .cells c e none false
theorem HintOk.one {j k:Nat} {o ok:Oper} {x:Option Nat} {c:List Value} {e:TypeId} {v:Value} {h':AH} {L':Ks} (hp:Ky ops (masks ops.toList []) j=[k]) (ho:ops[j]? = some o) (hok:ops[k]? = some ok) (hg:qp ops L.tree ok.guard=some true) (ha:ja P L.tree h ok.op=some (.val v h')) (hd:qJ sz L ok.dst v=some L')
 (hf:Qq P L'.tree o.op=some (x,c,e)):HintOk P ops sz L h j c e:=fun t hk=>by
 obtain ⟨t1,e1,k1⟩:=Ya hk hd;unfold Ye;rw [ho,hp];have:wC P ops sz h t k=t1:=by
  unfold wC;simp only [hok,Qs hk.tle hg,yU hk.tle ha,e1]
 simp only [List.foldl_cons,List.foldl_nil,this,Yj k1.tle hf]
def hintsK (P:Program) (ops:Array Oper) (sz:Nat) (L:Ks) (h:AH):List Nat→List Qz→Prop
 | [],[]=>True
 | j :: r,ob :: s=>(∃ c e,HintOk P ops sz L h j c e∧ob = .cells c e none false)∧hintsK P ops sz L h r s
 | _,_=>False
theorem hintsK.eq {t:Tr Value} (hk:Kn t L):∀ {fl:List Nat} {objs:List Qz},hintsK P ops sz L h fl objs→fl.map (Ye P ops sz h t)=objs
 | [],[],_=>rfl
 | j :: r,ob :: s,⟨⟨c,e,h1,h2⟩,h4⟩=>by rw [List.map_cons,hintsK.eq hk h4,h2,h1 t hk]
 | [],_ :: _,h=>by cases h
 | _ :: _,[],h=>by cases h
end
end Go.Proofs.Xx
namespace Go.Proofs.Xx
open Go
def qju:Value→Nat
 | .slice (some ⟨b,_,_⟩) _ _=>b
 | _=>0
section
variable {h0 h h':AH} {rs rs1:List Rs} {b:Nat} {c:List Value} {e:TypeId} {f:Rs→List Rs}
theorem Hs.gB (S:Hs h0 h rs) [i:HasB rs b c e f]:h.get b=some (.cells c e none false):=by
 obtain ⟨fp,h1,h2⟩:=i.at_.ok S.sep;exact h1.1
theorem Hs.bB (S:Hs h0 h rs) [i:HasB rs b c e f]:b<h.next:=by
 obtain ⟨fp,h1,h2⟩:=i.at_.ok S.sep;exact (h2 b h1.2).2.1
end
end Go.Proofs.Xx
namespace Go.Proofs.Xx
open Go
section
variable {P:Program} {X:Extern} {sz:Nat} {L:Ks} {h h0:AH} {rs:List Rs} {ops:Array Oper} {os:List Oper} {o:Oper} {R:Ks→AH→Prop}
theorem qdN {α:Type} {ty:TypeId} {v:Value} {z a b:Nat} {enc:α→List Value} {l:List α} {vlo vhi:Option Value} (hr:zC h v z enc l) (hc:Q7 v) (hz:∀ x,(enc x).length=z) (hu:Jk P ty=some z)
 (h1:zF vlo 0=some a) (h2:zF vhi l.length=some b) (hab:a≤b∧b≤l.length):∃ v',jd P ty v vlo vhi none h=some v'∧zC h v' z enc ((l.drop a).take (b - a))∧Q7 v':=by
 have hue:∃ e',P.underlying ty=some (.slice e')∧zU P e'=some z:=by
  unfold Jk at hu;split at hu
  ·exact ⟨_,by assumption,hu⟩
  ·cases hu
 obtain ⟨e',hu1,hu2⟩:=hue;have hlen:((l.drop a).take (b - a)).length=b - a:=by simp;omega
 have hfl:∀ m:List α,(m.flatMap enc).length=m.length*z:=zy hz;unfold zC at hr ⊢;rw [hlen];rcases hr with ⟨rfl,g1,g2⟩|⟨b',o',cap,cc,e,s,q,rfl,g1,g2⟩
 ·rw [g1] at hab h2;obtain rfl:b=0:=by omega
  obtain rfl:a=0:=by omega
  refine ⟨.slice none 0 0,?_,.inl ⟨rfl,rfl,by simp⟩,zA3 _⟩;simp only [jd,hu1,hu2,h1,h2]
 ·have hcap:l.length≤cap:=hc;have t1:Nat.ble a b=true:=zB3 hab.1;have t2:Nat.ble b cap=true:=zB3 (by omega);have sub:=QE (i:=a*z) (m:=(b - a)*z) g2 (by rw [← zE0];exact zD3 z (by omega));have hd:(l.flatMap enc).drop (a*z)=(l.drop a).flatMap enc:=by
   have e:l.flatMap enc=(l.take a).flatMap enc ++ (l.drop a).flatMap enc:=by rw [← List.flatMap_append,zH0]
   rw [e,List.drop_left' (by rw [hfl,zA9,zE4 (by omega)])]
  have ht:((l.drop a).flatMap enc).take ((b - a)*z)=((l.drop a).take (b - a)).flatMap enc:=by
   have e:(l.drop a).flatMap enc=((l.drop a).take (b - a)).flatMap enc ++ ((l.drop a).drop (b - a)).flatMap enc:=by rw [← List.flatMap_append,zH0]
   rw [e,List.take_left' (by rw [hfl,hlen])]
  rw [hd,ht] at sub;cases hk:(s.isNone && Nat.beq a cap) with
  | false =>
   refine ⟨.slice (some ⟨b',o'+a*z,none⟩) (b - a) (cap - a),?_,.inr ⟨b',o'+a*z,cap - a,cc,e,s,q,rfl,g1,sub⟩,by show b - a≤cap - a;omega⟩;simp only [jd,hu1,hu2,g1,h1,h2,t1,t2,hk,zF9]
  | true =>
   have hac:a=cap:=by rw [zA8] at hk;exact zA6 hk.2
   have hba:b - a=0:=by omega
   refine ⟨.slice (some ⟨b',o',none⟩) (b - a) (cap - a),?_,.inr ⟨b',o',cap - a,cc,e,s,q,rfl,g1,?_⟩,by show b - a≤cap - a;omega⟩
   ·simp only [jd,hu1,hu2,g1,h1,h2,t1,t2,hk,zF9]
   ·rw [hba];simp [zq]
theorem su {α:Type} {x:Operand} {lo hi:Option Operand} {vlo vhi:Option Value} {ty:TypeId} {v:Value} {z:Nat} {enc:α→List Value} {l:List α} {d:Tmp} (a b:Nat) (hr:zC h v z enc l) (hc:Q7 v)
 (w:∀ v',zC h v' z enc ((l.drop a).take (b - a))→Q7 v'→KO P X sz ops os (L.put d v') h R) (ho:o.op = .slice ty x lo hi none:=by exact rfl) (hx:kA L x=some v:=by exact rfl) (hg:qp ops L.tree o.guard=some true:=by exact rfl)
 (hlo:jM L.tree lo=some vlo:=by exact rfl) (hhi:jM L.tree hi=some vhi:=by exact rfl) (hz:∀ x,(enc x).length=z:=by intro _;rfl) (hu:Jk P ty=some z:=by exact rfl)
 (h1:zF vlo 0=some a:=by exact rfl) (h2:zF vhi l.length=some b:=by exact rfl) (hab:a≤b∧b≤l.length:=by first|omega|grind) (hdst:o.dst=some d:=by exact rfl) (hds:Nat.blt d sz=true:=by exact rfl):KO P X sz ops (o :: os) L h R:=by
 obtain ⟨v',e1,e2,e3⟩:=qdN hr hc hz hu h1 h2 hab;refine zJ (v:=v') (h':=h) hg ?_ (by simp only [qJ,hdst,hds]) (w v' e2 e3);rw [ho];simp only [ja,qI hx,hlo,hhi,show jM L.tree none=some none from rfl,e1,qU,jU]
theorem lH {L':Ks} {x:Operand} {ty e:TypeId} {b k:Nat} {c:List Value} {v:Value} {q:Option Nat} {r:Bool} (S:Hs h0 h rs) (w:KO P X sz ops os L' h R) (ho:o.op = .load ty x:=by exact rfl) (hx:kA L x=some (.pointer (some ⟨b,k,none⟩)):=by exact rfl)
 (hb:h0.get b=some (.cells c e q r):=by assumption) (wf:WfH h0:=by assumption) (hg:qp ops L.tree o.guard=some true:=by exact rfl) (hv:JM P ty c k=some v:=by exact rfl) (hp:qJ sz L o.dst v=some L':=by exact rfl):KO P X sz ops (o :: os) L h R :=
 GR ho hg hx (by rw [Jo (S.ext.get wf hb)];exact hv) hp w
end
end Go.Proofs.Xx
namespace Go.Proofs.Xx
open Go
section
variable {P:Program} {h:AH}
theorem AR.xB {n:Nat} {t:TypeId} {r:List Value} (a:AR P h n t r) (hu:P.underlying t=some .string):∃ s:List UInt8,r=[str s]∧s.length≤maxLen:=by
 cases n with
 | zero=>exact a.elim
 | succ n =>
  unfold AR at a;rw [hu] at a;split at a
  all_goals (first|exact a.elim|(rename_i q _;cases q;done)|(rename_i q;cases q;done)|skip)
  rename_i s q
  exact ⟨s.data.toList,by rw [qdI],by simpa using a⟩
theorem AR.VM {n:Nat} {t:TypeId} {r:List Value} {k:IntKind} (a:AR P h n t r) (hu:P.underlying t=some (.int k)):∃ x:Int,r=[.int k x]∧(Lit.int k x).wf=true:=by
 cases n with
 | zero=>exact a.elim
 | succ n =>
  unfold AR at a;rw [hu] at a;split at a
  all_goals (first|exact a.elim|(rename_i q _;cases q;done)|(rename_i q;cases q;done)|skip)
  rename_i k0 k' x q
  cases q
  obtain ⟨rfl,h2⟩:=a;exact ⟨x,rfl,h2⟩
theorem AR.YY {n:Nat} {t:TypeId} {r:List Value} {fs:Array Field} {m:List (Nat×TypeId)} {z:Nat} (a:AR P h n t r) (hu:P.underlying t=some (.struct fs)) (hm:fs.toList.map (fun f=>(f.offset,f.type))=m) (hz:P.cellsOf t=z) :
 ∃ n',r.length=z∧∀ p∈m,AR P h n' p.2 ((r.drop p.1).take (P.cellsOf p.2)):=by
 cases n with
 | zero=>exact a.elim
 | succ n =>
  unfold AR at a;rw [hu] at a;replace a:r.length=P.cellsOf t∧∀ fd∈fs.toList,AR P h n fd.type ((r.drop fd.offset).take (P.cellsOf fd.type)):=a;refine ⟨n,by rw [a.1,hz],fun p hp=>?_⟩;rw [← hm,zF1] at hp;obtain ⟨fd,hf,rfl⟩:=hp;exact a.2 fd hf
theorem pieces {α:Type} {z:Nat} {enc:α→List Value} {good:α→Prop}:∀ (n:Nat) (c:List Value),c.length=n*z→(∀ i,i<n→∃ y,(c.drop (i*z)).take z=enc y∧good y)→∃ l:List α,l.length=n∧c=l.flatMap enc∧∀ y∈l,good y
 | 0,c,hc,_=>⟨[],rfl,by rw [Nat.zero_mul] at hc;rw [zE8.1 hc];rfl,fun y q=>by cases q⟩
 | n+1,c,hc,hk=>by
  rw [zE0,Nat.one_mul] at hc;obtain ⟨y,h1,h2⟩:=hk 0 (by omega);obtain ⟨l,l1,l2,l3⟩:=pieces (z:=z) (enc:=enc) (good:=good) n (c.drop z) (by rw [zB4,hc];omega) (fun i hi=>by
   obtain ⟨y,q1,q2⟩:=hk (i+1) (by omega);refine ⟨y,?_,q2⟩;rw [List.drop_drop,← q1,zE0,Nat.one_mul,Nat.add_comm z])
  rw [Nat.zero_mul,List.drop_zero] at h1;refine ⟨y :: l,by simp [l1],?_,fun x q=>?_⟩
  ·rw [zG2,← h1,← l2,zH0]
  ·rcases zE7.1 q with rfl|q
   ·exact h2
   ·exact l3 x q
theorem AR.Xe {α:Type} [Inhabited α] {n:Nat} {t e:TypeId} {r:List Value} {z:Nat} (enc:α→List Value) (good:α→Prop) (a:AR P h n t r) (hu:P.underlying t=some (.slice e)) (hz:P.cellsOf e=z) (hk:∀ n cs,AR P h n e cs→∃ y,cs=enc y∧good y) :
 ∃ v l,r=[v]∧zC h v z enc l∧(l.length≤maxLen∧l.length*P.bytesOf e≤reachBytes)∧Q7 v∧∀ i,i<l.length→good (l.getD i default):=by
 cases n with
 | zero=>exact a.elim
 | succ n =>
  unfold AR at a;rw [hu] at a;split at a
  all_goals (first|exact a.elim|(rename_i q _;cases q;done)|(rename_i q;cases q;done)|skip)
  rename_i e' v q
  cases q
  obtain ⟨k,c,h1,h2,hc,h3⟩:=a;rw [hz] at h1 h3;obtain ⟨l,l1,l2,l3⟩:=pieces (enc:=enc) (good:=good) k c h1.length (fun i hi=>hk n _ (h3 i hi));subst l1 l2;refine ⟨v,l,rfl,h1,h2,hc,fun i hi=>?_⟩;rw [zA2,zA4 hi];exact l3 _ (List.getElem_mem hi)
end
end Go.Proofs.Xx
namespace Go.Proofs.Xx
open Go
section
variable {P:Program} {X:Extern} {inR:Bool} {sz:Nat} {L:Ks} {h h0:AH} {rs:List Rs} {ops:Array Oper} {os:List Oper} {o:Oper} {R:Ks→AH→Prop} {Q:KQ}
theorem fl {fls:List Nat} {ids:List (Nat×Nat)} {rd:List (Nat×Nat×Nat)} {bl:List (Option Nat)} {i b:Nat} {L':Ks} {x:Option Nat} {c:List Value} {e:TypeId} (S:Hs h0 h rs) (hi:Qk ids i=some b) (hf:Qq P L.tree o.op=some (x,c,e)) (hb:h.get b=some (.cells c e none false)) (w:KOX P X sz ops fls ids rd bl (i+1) os L' h R)
 (hbl:Zv rd bl i=some (some b):=by exact rfl) (hc:qG ops fls i=false:=by decide +kernel) (hg:qp ops L.tree o.guard=some true:=by exact rfl) (hp:qJ sz L o.dst (QV x b)=some L':=by exact rfl):KOX P X sz ops fls ids rd bl i (o :: os) L h R:=qjQ hi hf hb hbl hc hg hp w
theorem Hs.qjw {b z:Nat} {c:List Value} {e:TypeId} {α:Type} (enc:α→List Value) (l:List α) (S:Hs h0 h (.blk b c e :: rs)) (hc:c=l.flatMap enc:=by rfl) (hz:c.length=l.length*z:=by rfl):Hs h0 h (.sl (.slice (some ⟨b,0,none⟩) l.length l.length) e z enc l :: rs) :=
 S.same .here fun fp k=>.inr ⟨b,0,c,none,l.length,rfl,k.1,k.2,by rw [← hz,← hc,jQ],⟨zA3 _,by omega⟩,.inl rfl⟩
theorem th {α:Type} {x hi:Operand} {ty e:TypeId} {v vh:Value} {z:Nat} {enc:α→List Value} {l:List α} {f:Rs→List Rs} {dd:List Rs} {d:Tmp} (b:Nat) (S:Hs h0 h rs) (ho:o.op = .slice ty x none (some hi) none) (hx:kA L x=some v) [i:HasS rs v α e z enc l f dd]
 (w:∀ v',Hs h0 h (f (.rd v' z enc (l.take b)))→KO P X sz ops os (L.put d v') h R) (hg:qp ops L.tree o.guard=some true:=by exact rfl) (hhi:kA L hi=some vh:=by exact rfl) (hbo:zF (some vh) l.length=some b:=by exact rfl) (hb:b≤l.length:=by first|omega|grind)
 (hz:∀ x,(enc x).length=z:=by intro _;rfl) (hu:Jk P ty=some z:=by exact rfl) (hdst:o.dst=some d:=by exact rfl) (hds:Nat.blt d sz=true:=by exact rfl):KO P X sz ops (o :: os) L h R:=by
 obtain ⟨fp,k1,k2,-⟩:=(i.ut (.sl v e z enc l)).ok (h':=h) S.ext.next (zA3 _) S.sep
 have hue:∃ e',P.underlying ty=some (.slice e')∧zU P e'=some z:=by
  unfold Jk at hu;split at hu
  ·exact ⟨_,by assumption,hu⟩
  ·cases hu
 obtain ⟨e',hu1,hu2⟩:=hue;have hhi':zY L.tree hi=some vh:=qI hhi;have go:∀ v',jd P ty v none (some vh) none h=some v'→(∀ fq,(Rs.sl v e z enc l).ok h fq→(Rs.rd v' z enc (l.take b)).ok h fq)→KO P X sz ops (o :: os) L h R:=fun v' q1 q2=>by
  refine zJ (v:=v') (h':=h) hg ?_ (by simp only [qJ,hdst,hds]) (w v' (S.same (i.ut _) q2));rw [ho];simp only [ja,qI hx,jM,hhi',q1,qU,jU]
 have h0b:zF none 0=some 0:=rfl;rcases k1 with ⟨rfl,rfl⟩|⟨bb,o',cc,slk,cap,g1,g2,g3,g4,g5,g6⟩
 ·obtain rfl:b=0:=by simpa using hb
  refine go (.slice none 0 0) ?_ fun fq q=>.inl ⟨rfl,by simp⟩;have:zF (some vh) 0=some 0:=hbo;simp only [jd,hu1,hu2,this,h0b]
 ·subst g1;have t1:Nat.ble 0 b=true:=by simp
  have t2:Nat.ble b cap=true:=zB3 (zD0 hb g5.1);have hlen:(l.take b).length=b:=by simp;omega
  have sub:=QE (i:=0) (m:=b*z) g4 (by rw [zG1];exact zD3 z hb);rw [List.drop_zero,← QX hz,Nat.add_zero] at sub;have fin:∀ c2,(Rs.rd (.slice (some ⟨bb,o',none⟩) (b - 0) c2) z enc (l.take b)).ok h fp:=fun c2 =>
   .inr ⟨bb,o',c2,cc,e,slk,false,by rw [hlen,Nat.sub_zero],g2,g3,by rw [hlen];exact sub⟩
  have key:∀ c2,∀ fq,(Rs.sl (.slice (some ⟨bb,o',none⟩) l.length cap) e z enc l).ok h fq→(Rs.rd (.slice (some ⟨bb,o',none⟩) (b - 0) c2) z enc (l.take b)).ok h fq:=fun c2 fq q=>by
   rcases q with ⟨q1,-⟩|⟨b2,o2,cc2,sl2,cap2,q1,q2,q3,-⟩
   ·cases q1
   ·cases q1
    exact .inr ⟨bb,o',c2,cc,e,slk,false,by rw [hlen,Nat.sub_zero],g2,q3,by rw [hlen];exact sub⟩
  cases hk:(slk.isNone && Nat.beq 0 cap) with
  | false =>
   refine go (.slice (some ⟨bb,o',none⟩) (b - 0) (cap - 0)) ?_ (key _);simp only [jd,hu1,hu2,g2,h0b,hbo,t1,t2,hk,zF9,Nat.zero_mul,Nat.add_zero]
  | true =>
   refine go (.slice (some ⟨bb,o',none⟩) (b - 0) (cap - 0)) ?_ (key _);simp only [jd,hu1,hu2,g2,h0b,hbo,t1,t2,hk,zF9]
theorem nw {α:Type} {ty e:TypeId} {zc:List Value} {d:Tmp} (z:Nat) (enc:α→List Value) (S:Hs h0 h rs) (w:∀ u h',Hs h0 h' (.sl u e z enc [] :: rs)→KO P X sz ops os (L.put d u) h' R) (ho:o.op = .buildSlice ty 0 #[]:=by exact rfl) (hg:qp ops L.tree o.guard=some true:=by exact rfl)
 (hs:qV P ty=some e:=by exact rfl) (hz:zg P e=some zc:=by exact rfl) (hdst:o.dst=some d:=by exact rfl) (hds:Nat.blt d sz=true:=by exact rfl):KO P X sz ops (o :: os) L h R :=
 V7 ho hg (show XK L (#[]:Array (Nat×Operand)).toList=some [] by rfl) (qhL hs hz h) (by simp only [qJ,hdst,hds]) (w (.slice (some ⟨h.next,0,none⟩) 0 0) _ ((S.add [] e).qjw (z:=z) enc [] rfl (by simp)))
theorem apd {α:Type} {x y:Operand} {ts tx e:TypeId} {zc:List Value} {by_ z:Nat} {enc:α→List Value} {l l2:List α} {f:Rs→List Rs} {dd:List Rs} {v u:Value} {d:Tmp} (S:Hs h0 h rs) (ho:o.op = .call { callee:=.builtin .append,args:=#[x,y],argTypes:=#[ts,tx] }) (hx:kA L x=some v) [i:HasS rs v α e z enc l f dd]
 (hr:zC h u z enc l2) (w:∀ v' h',Hs h0 h' (.sl v' e z enc (l ++ l2) :: dd)→KO P X sz ops os (L.put d v') h' R) (h1:∀ y∈l2,(enc y).all one? = true:=by intro _ _;rfl) (hg:qp ops L.tree o.guard=some true:=by exact rfl) (hy:kA L y=some u:=by exact rfl) (hs:qV P ts=some e:=by exact rfl) (hz:zg P e=some zc:=by exact rfl) (hzl:zc.length=z:=by exact rfl) (hb:QI P e=some (by_+1):=by exact rfl) (hxs:(qV P tx).isSome=true:=by exact rfl)
 (hlen:∀ y,(enc y).length=z:=by intro _;rfl) (hsz:(l.length+l2.length+1)*(by_+1)≤140737488355328:=by first|omega|(simp only [List.length_nil];omega)|grind) (hdst:o.dst=some d:=by exact rfl) (hds:Nat.blt d sz=true:=by exact rfl):KO P X sz ops (o :: os) L h R:=PH S ho hg hx hy i.dt hr hs hz hzl hb hxs h1 hlen hsz hdst hds w
theorem fB {L':Ks} {x:Operand} {ty:TypeId} {fs:Array Field} {fd:Field} {v:Value} {z k off f m n:Nat} {c:List Value} (S:Hs h0 h rs) (w:KO P X sz ops os L' h R) (ho:o.op = .fieldAddr ty x f:=by exact rfl) (hg:qp ops L.tree o.guard=some true:=by exact rfl)
 (hx:kA L x=some (WP v z k off):=by exact rfl) (hu:P.underlying ty=some (.struct fs):=by exact rfl) (hf:fs[f]? = some fd:=by exact rfl) (hm:zU P fd.type=some (m+1):=by exact rfl) (hr:Rd h0 v z n c:=by assumption) (wf:WfH h0:=by assumption) (hk:k<n:=by first|omega|grind)
 (hp:qJ sz L o.dst (WP v z k (off+fd.offset))=some L':=by exact rfl):KO P X sz ops (o :: os) L h R:=qem ho hg hx hu hf hm (hr.ext wf S.ext) hk hp w
theorem fS {L':Ks} {x:Operand} {ty:TypeId} {fs:Array Field} {fd:Field} {v:Value} {z z' k off f m:Nat} {α:Type} {enc:α→List Value} {l:List α} (S:Hs h0 h rs) (ho:o.op = .fieldAddr ty x f) (hx:kA L x=some (WP v z' k off)) [i:HasR rs v α z enc l] (w:KO P X sz ops os L' h R) (hzz:z'=z:=by exact rfl) (hg:qp ops L.tree o.guard=some true:=by exact rfl)
 (hu:P.underlying ty=some (.struct fs):=by exact rfl) (hf:fs[f]? = some fd:=by exact rfl) (hm:zU P fd.type=some (m+1):=by exact rfl) (hk:k<l.length:=by first|omega|grind) (hp:qJ sz L o.dst (WP v z' k (off+fd.offset))=some L':=by exact rfl):KO P X sz ops (o :: os) L h R:=by
 subst hzz;exact qem ho hg hx hu hf hm (i.rd S) hk hp w
end
end Go.Proofs.Xx
namespace Go.Proofs.Xx
open Go
section
variable {P:Program} {X:Extern} {inR:Bool} {sz:Nat} {L:Ks} {h h0:AH} {rs:List Rs} {ops:Array Oper} {os:List Oper} {o:Oper} {R:Ks→AH→Prop} {Q:KQ}
theorem wrap_u64 {n:Int} (h:0≤n∧n≤18446744073709551615):IntKind.u64.wrap n=n:=qb7 (by simpa [IntKind.min,IntKind.max,IntKind.signed,IntKind.bits] using h)
theorem V9 (n:Int):0≤IntKind.u64.wrap n∧IntKind.u64.wrap n≤18446744073709551615:=by
 simp only [IntKind.wrap,IntKind.signed,IntKind.bits];simp
 omega
theorem cW {L':Ks} {x:Operand} {s d:TypeId} {k k2:IntKind} {a:Int} (w:KO P X sz ops os L' h R) (ho:o.op = .convert s d x:=by exact rfl) (hg:qp ops L.tree o.guard=some true:=by exact rfl) (hx:kA L x=some (.int k a):=by exact rfl) (hs:P.underlying s=some (.int k2):=by exact rfl) (hd:P.underlying d=some (.int .u64):=by exact rfl)
 (hb:0≤a∧a≤18446744073709551615:=by first|omega|grind) (hp:qJ sz L o.dst (.int .u64 a)=some L':=by exact rfl):KO P X sz ops (o :: os) L h R :=
 zJ hg (by rw [ho];simp only [ja,qI hx,jV,hs,hd,wrap_u64 hb]) hp w
theorem sR {L':Ks} {x y:Operand} {ty ty2:TypeId} {k k2:IntKind} {a b:Int} (w:KO P X sz ops os L' h R) (ho:o.op = .binOp .shr ty x y ty2:=by exact rfl) (hg:qp ops L.tree o.guard=some true:=by exact rfl) (hx:kA L x=some (.int k a):=by exact rfl) (hy:kA L y=some (.int k2 b):=by exact rfl)
 (hb:decide (b<0)=false:=by exact rfl) (hp:qJ sz L o.dst (.int k (a / (2 ^ (min b.toNat k.bits):Nat)))=some L':=by exact rfl):KO P X sz ops (o :: os) L h R :=
 jD ho hg hx hy (by
  simp only [QO,hb];rw [Int.fdiv_eq_ediv_of_nonneg _ (by exact_mod_cast zB0 _)];norm_cast) hp w
theorem sL {L':Ks} {x y:Operand} {ty ty2:TypeId} {k2:IntKind} {a b:Int} (w:KO P X sz ops os L' h R) (ho:o.op = .binOp .shl ty x y ty2:=by exact rfl) (hg:qp ops L.tree o.guard=some true:=by exact rfl) (hx:kA L x=some (.int .u64 a):=by exact rfl) (hy:kA L y=some (.int k2 b):=by exact rfl)
 (hb:0≤b∧b≤62:=by omega) (ha:0≤a∧a≤1:=by omega) (hp:qJ sz L o.dst (.int .u64 (a*2 ^ b.toNat))=some L':=by exact rfl):KO P X sz ops (o :: os) L h R :=
 jD ho hg hx hy (by
  have e1:decide (b<0)=false:=decide_eq_false (by omega);have e2:min b.toNat (IntKind.bits .u64)=b.toNat:=zE4 (by show b.toNat≤64;omega);have e3:(2:Int) ^ b.toNat≤2 ^ 62:=by
   have:(2:Nat) ^ b.toNat≤2 ^ 62:=Nat.pow_le_pow_right (by omega) (by omega);exact_mod_cast this
  have e4:(0:Int)<2 ^ b.toNat:=by
   have:0<(2:Nat) ^ b.toNat:=Nat.pos_of_ne_zero (by simp);exact_mod_cast this
  simp only [QO,e1,e2];rw [wrap_u64];have:a=0∨a=1:=by omega
  rcases this with rfl|rfl
  ·omega
  ·omega) hp w
theorem aW {op:BinOp} {x y:Operand} {ty ty2:TypeId} {k2:IntKind} {a b:Int} {d:Tmp} (w:∀ r:Int,0≤r→r≤18446744073709551615→KO P X sz ops os (L.put d (.int .u64 r)) h R) (ho:o.op = .binOp op ty x y ty2:=by exact rfl) (hg:qp ops L.tree o.guard=some true:=by exact rfl) (hx:kA L x=some (.int .u64 a):=by exact rfl) (hy:kA L y=some (.int k2 b):=by exact rfl)
 (hop:(match op,k2 with|.shl,_=>decide (b<0)=false|.xor,.u64=>true=true|.add,.u64=>true=true|.sub,.u64=>true=true|.mul,.u64=>true=true | _,_=>False):=by exact rfl) (hd:o.dst=some d:=by exact rfl) (hs:Nat.blt d sz=true:=by exact rfl):KO P X sz ops (o :: os) L h R:=by
 have go:∀ n,QO P op ty (.int .u64 a) (.int k2 b)=some (.int .u64 (IntKind.u64.wrap n))→KO P X sz ops (o :: os) L h R:=fun n e =>
  jD ho hg hx hy e (by simp only [qJ,hd,hs]) (w _ (V9 n).1 (V9 n).2)
 cases op<;>cases k2<;>first|(exact go _ (by simp only [QO,hop];rfl))|(exact go _ (by simp only [QO,decide_true];rfl))|(exact hop.elim)
theorem aM {x y:Operand} {ty ty2:TypeId} {a b:Int} {d:Tmp} (w:∀ r:Int,0≤r→r≤b→KO P X sz ops os (L.put d (.int .u64 r)) h R) (ho:o.op = .binOp .and ty x y ty2:=by exact rfl) (hg:qp ops L.tree o.guard=some true:=by exact rfl) (hx:kA L x=some (.int .u64 a):=by exact rfl) (hy:kA L y=some (.int .u64 b):=by exact rfl)
 (hb:0≤b∧b≤18446744073709551615:=by omega) (hd:o.dst=some d:=by exact rfl) (hs:Nat.blt d sz=true:=by exact rfl):KO P X sz ops (o :: os) L h R:=by
 obtain ⟨m,rfl⟩:=zH3 hb.1;have hm:m<2 ^ 64:=by omega
 have e1:(BitVec.ofInt 64 (m:Int)).toNat=m:=by
  rw [BitVec.ofInt_natCast,BitVec.toNat_ofNat,Nat.mod_eq_of_lt hm]
 have e2:((BitVec.ofInt 64 a &&& BitVec.ofInt 64 (m:Int)).toNat)≤m:=by
  rw [BitVec.toNat_and,e1];exact Nat.and_le_right
 generalize hr:(BitVec.ofInt 64 a &&& BitVec.ofInt 64 (m:Int)).toNat=r at e2
 refine jD ho hg hx hy (v:=.int .u64 (r:Int)) ?_ (by simp only [qJ,hd,hs];rfl) (w _ (by omega) (by omega));simp only [QO,decide_true];show some (Value.int .u64 (IntKind.u64.wrap ((BitVec.ofInt 64 a &&& BitVec.ofInt 64 (m:Int)).toNat:Int)))=_
 rw [hr,wrap_u64 (by constructor<;>omega)]
theorem sW {L':Ks} {x y:Operand} {ty ty2:TypeId} {a b:Int} (w:KO P X sz ops os L' h R) (ho:o.op = .binOp .sub ty x y ty2:=by exact rfl) (hg:qp ops L.tree o.guard=some true:=by exact rfl) (hx:kA L x=some (.int .u64 a):=by exact rfl) (hy:kA L y=some (.int .u64 b):=by exact rfl)
 (hb:0≤a - b∧a - b≤18446744073709551615:=by omega) (hp:qJ sz L o.dst (.int .u64 (a - b))=some L':=by exact rfl):KO P X sz ops (o :: os) L h R :=
 jD ho hg hx hy (by simp only [QO,decide_true,wrap_u64 hb]) hp w
def qfZ {σ:Type} (I:σ→AH→Prop) (sl:σ→Ks) (Q:KQ):KQ
 | .norm,L',h'=>∃ s,I s h'∧Ks.le (sl s) L'
 | x,L',h'=>Q x L' h'
theorem XY {σ:Type} {a b:Code} (I:σ→AH→Prop) (sl:σ→Ks) (w1:K P X inR sz a L h (qfZ I sl Q)) (w2:∀ s h',I s h'→K P X inR sz b (sl s) h' Q):K P X inR sz (.seq a b) L h Q :=
 qg (w1.mono fun x L' h' q=>by
  cases x with
  | norm=>obtain ⟨s,q1,q2⟩:=q;exact (w2 s h' q1).le q2
  | exit id=>exact q
  | ret=>exact q)
theorem sR1 {L':Ks} {x y:Operand} {ty ty2:TypeId} {k2:IntKind} {a:Int} (w:KO P X sz ops os L' h R) (ho:o.op = .binOp .shr ty x y ty2:=by exact rfl) (hg:qp ops L.tree o.guard=some true:=by exact rfl) (hx:kA L x=some (.int .u64 a):=by exact rfl) (hy:kA L y=some (.int k2 1):=by exact rfl)
 (hp:qJ sz L o.dst (.int .u64 (a / 2))=some L':=by exact rfl):KO P X sz ops (o :: os) L h R:=sR (b:=1) w ho hg hx hy rfl (by rw [show (2 ^ (min (1:Int).toNat (IntKind.bits .u64)):Nat)=2 by rfl];exact hp)
theorem qO {L':Ks} {x i:Operand} {ty:TypeId} {v:Value} {ik:IntKind} {a:Int} {α:Type} {z:Nat} {enc:α→List Value} {l:List α} (S:Hs h0 h rs) (ho:o.op = .indexAddr ty x i) (hx:kA L x=some v) [k:HasR rs v α z enc l] (w:KO P X sz ops os L' h R) (hg:qp ops L.tree o.guard=some true:=by exact rfl) (hi:kA L i=some (.int ik a):=by exact rfl) (hu:Jk P ty=some z:=by exact rfl)
 (ha:0≤a∧a<l.length:=by first|omega|(simp only [zF5,zB2,zC4,List.length_nil];omega)|grind) (hp:qJ sz L o.dst (WP v z a.toNat 0)=some L':=by exact rfl):KO P X sz ops (o :: os) L h R:=qgE ho hg hx hi hu (k.rd S) ha hp w
theorem zk {α:Type} [Inhabited α] {L':Ks} {x:Operand} {ty:TypeId} {v u:Value} {z' z k off:Nat} {enc:α→List Value} {l:List α} (S:Hs h0 h rs) (ho:o.op = .load ty x) (hx:kA L x=some (WP v z' k off)) [i:HasR rs v α z enc l] (w:KO P X sz ops os L' h R) (hzz:z'=z:=by exact rfl) (hg:qp ops L.tree o.guard=some true:=by exact rfl)
 (hz:∀ x,(enc x).length=z:=by intro _;rfl) (hk:k<l.length:=by first|omega|(simp only [zF5,zB2,zC4,List.length_nil];omega)|grind) (hv:JM P ty (enc (l.getD k default)) off=some u:=by exact rfl) (hp:qJ sz L o.dst u=some L':=by exact rfl):KO P X sz ops (o :: os) L h R:=by
 subst hzz;exact qgD ho hg hx (i.rd S) hz hk hv hp w
theorem JY {α:Type} [Inhabited α] {L':Ks} {x yo:Operand} {ty e:TypeId} {v u:Value} {z' z k off:Nat} {enc:α→List Value} {l:List α} {f:Rs→List Rs} {d:List Rs} {y:α} (S:Hs h0 h rs) (ho:o.op = .store ty x yo) (hx:kA L x=some (WP v z' k off)) [i:HasS rs v α e z enc l f d] (w:∀ h',Hs h0 h' (f (.sl v e z enc (l.set k y)))→KO P X sz ops os L' h' R)
 (hzz:z'=z:=by exact rfl) (hg:qp ops L.tree o.guard=some true:=by exact rfl) (hy:kA L yo=some u:=by exact rfl) (hz:∀ x,(enc x).length=z:=by intro _;rfl) (hk:k<l.length:=by first|omega|(simp only [zF5,zB2,zC4,List.length_nil];omega)|grind) (hv:Jq P ty (enc (l.getD k default)) off u=some (enc y):=by exact rfl) (hp:qJ sz L o.dst (.tuple #[])=some L':=by exact rfl):KO P X sz ops (o :: os) L h R:=by
 subst hzz;exact qiX S ho hg hx hy (i.ut _) hz hk hv hp w
end
end Go.Proofs.Xx
namespace Go.Proofs.Xx
open Go
def IsView (v v2:Value) (z k n:Nat):Prop:=∃ b o cap c2,v = .slice (some ⟨b,o,none⟩) n cap∧v2 = .slice (some ⟨b,o+k*z,none⟩) (n - k) c2
theorem IsView.el {v v2:Value} {z k n:Nat} (V:IsView v v2 z k n) (j off:Nat):WP v2 z j off=WP v z (k+j) off:=by
 obtain ⟨b,o,cap,c2,rfl,rfl⟩:=V;simp only [WP];rw [show o+k*z+j*z+off=o+(k+j)*z+off by rw [zE0];omega]
theorem IsView.rd {α:Type} {v v2:Value} {z k:Nat} {h:AH} {enc:α→List Value} {l:List α} (V:IsView v v2 z k l.length) (r:zC h v z enc l) (hz:∀ x,(enc x).length=z) (hk:k≤l.length):zC h v2 z enc (l.drop k):=by
 obtain ⟨b,o,cap,c2,rfl,rfl⟩:=V;rcases r with ⟨q,-⟩|⟨b',o',cap,cc,e,s,q,e1,h1,h2⟩
 ·cases q
 ·cases e1
  have hkz:k*z≤l.length*z:=zD3 z hk;have hsub:k*z+(l.length - k)*z=l.length*z:=by rw [← zE0];congr 1;omega
  refine .inr ⟨b,o+k*z,c2,cc,e,s,q,by rw [zB4],h1,?_⟩;rw [zB4,QY hz,QE h2 (by omega),zF8];rw [zB4,zy hz];omega
section
variable {P:Program} {X:Extern} {inR:Bool} {sz:Nat} {L:Ks} {h h0:AH} {rs:List Rs} {ops:Array Oper} {os:List Oper} {o:Oper} {R:Ks→AH→Prop} {Q:KQ}
theorem cl {α:Type} {x:Operand} {ty e e':TypeId} {v v2:Value} {z k:Nat} {enc:α→List Value} {l:List α} {f:Rs→List Rs} {dd:List Rs} (y0:α) (S:Hs h0 h rs) (V:IsView v v2 z k l.length) (ho:o.op = .call { callee:=.builtin .clear,args:=#[x],argTypes:=#[ty] }) (hx:kA L x=some v2) [i:HasS rs v α e z enc l f dd]
 (w:∀ h',Hs h0 h' (f (.sl v e z enc (l.take k ++ List.replicate (l.length - k) y0)))→KO P X sz ops os L h' R) (hu:P.underlying ty=some (.slice e'):=by exact rfl) (hz0:zg P e'=some (enc y0):=by exact rfl) (h1:(enc y0).all one? = true:=by exact rfl)
 (hz:∀ x,(enc x).length=z:=by intro _;rfl) (hk:k<l.length:=by omega) (hzz:0<z:=by decide) (hg:qp ops L.tree o.guard=some true:=by exact rfl) (hdst:o.dst=none:=by exact rfl):KO P X sz ops (o :: os) L h R:=by
 obtain ⟨b,o',cap,c2,rfl,rfl⟩:=V;obtain ⟨fp,k1,k2,-⟩:=(i.ut (.sl (.slice (some ⟨b,o',none⟩) l.length cap) e z enc l)).ok (h':=h) S.ext.next (zA3 _) S.sep
 rcases k1 with ⟨q,-⟩|⟨b',o2,cc,slk,cap2,g1,g2,g3,g4,g5,g6⟩
 ·cases q
 cases g1
 have hrow:zn (enc y0) (l.length - k)=(List.replicate (l.length - k) y0).flatMap enc:=XE rfl _;have hrl:((List.replicate (l.length - k) y0).flatMap enc).length=(l.length - k)*z:=by rw [zy hz];simp
 have hkz:k*z+(l.length - k)*z=l.length*z:=by rw [← zE0];congr 1;omega
 obtain ⟨he,hlen⟩:l.flatMap enc=(cc.drop o').take (l.length*z)∧o'+l.length*z≤cc.length:=by
  rcases ZO g4 with q|⟨q1,q2⟩
  ·exact q
  ·exfalso
   have:l.length*z=0:=q1;have:=Nat.mul_pos (show 0<l.length by omega) hzz;omega
 have hall:((List.replicate (l.length - k) y0).flatMap enc).all one? = true:=by
  rw [zC8];intro u hu;rw [zG9] at hu;obtain ⟨y,hy,hu⟩:=hu;rw [List.mem_replicate] at hy;rw [hy.2] at hu;exact zC8.1 h1 u hu
 have hput:putCells h b (o'+k*z) cc e slk (zn (enc y0) (l.length - k))=some (h.put b (.cells (splice cc (o'+k*z) ((List.replicate (l.length - k) y0).flatMap enc)) e slk false)):=by
  rw [hrow];unfold putCells;rw [hall,zB3 (by rw [hrl];omega)];rfl
 obtain ⟨m,hm⟩:∃ m,l.length - k=m+1:=⟨l.length - k - 1,by omega⟩
 have hclear:ve P ty (.slice (some ⟨b,o'+k*z,none⟩) (l.length - k) c2) h=some (h.put b (.cells (splice cc (o'+k*z) ((List.replicate (l.length - k) y0).flatMap enc)) e slk false)):=by
  rw [hm] at hput ⊢;simp only [ve,hu,hz0,g2,hput]
 refine zJ (v:=.tuple #[]) (h':=h.put b (.cells (splice cc (o'+k*z) ((List.replicate (l.length - k) y0).flatMap enc)) e slk false)) hg ?_ (by simp only [qJ,hdst]) (w _ ?_)
 ·rw [ho];simp only [ja,jO,qI hx,jK,hclear]
 ·have hsp:splice cc (o'+k*z) ((List.replicate (l.length - k) y0).flatMap enc)=splice cc (o'+k*z+0) ((List.replicate (l.length - k) y0).flatMap enc):=rfl;have hin:=wH (cc:=cc) (uc:=(List.replicate (l.length - k) y0).flatMap enc) (o:=o') (n:=l.length*z) (a:=k*z) (z:=(l.length - k)*z) (off:=0) hlen (by omega) (by rw [hrl];omega);have hfl:((l.take k ++ List.replicate (l.length - k) y0).flatMap enc)=splice ((cc.drop o').take (l.length*z)) (k*z) (splice ((((cc.drop o').take (l.length*z)).drop (k*z)).take ((l.length - k)*z)) 0 ((List.replicate (l.length - k) y0).flatMap enc)):=by
   rw [← he];have hll:(l.flatMap enc).length=l.length*z:=zy hz l;rw [List.flatMap_append,QX hz];simp only [splice,List.take_zero,zC0,zG1];rw [hrl,List.drop_of_length_le (l:=(((l.flatMap enc).drop (k*z)).take ((l.length - k)*z))) (by rw [zA9];omega),zD6,hrl,List.drop_of_length_le (by omega),zD6]
  refine S.turn (i.ut _) (zA3 _) (S.wf.put (k2 b g3).2.1 _) fun fq q1 q2=>?_;have hb:fq b:=by
   rcases q1 with ⟨q,-⟩|⟨b',o2,cc2,sl2,cap2,q3,q4,q5,-⟩
   ·cases q
   ·cases q3;exact q5
  have hnl:(l.take k ++ List.replicate (l.length - k) y0).length=l.length:=by simp;omega
  refine ⟨fun j _ hj=>by rw [AH.get_put,if_neg];intro q;subst q;exact hj hb,fun j=>j=b,.inr ⟨b,o',_,slk,cap,by rw [hnl],by rw [AH.get_put,if_pos rfl],rfl,?_,?_,g6⟩,fun j hj=>by subst hj;exact ⟨(k2 _ g3).2.1,.inl hb⟩⟩
  ·rw [hnl,hfl];exact hin
  ·rw [hnl,Xc (by rw [hrl];omega)];exact g5
end
end Go.Proofs.Xx
namespace Go.Proofs.Xx
open Go
section
variable {P:Program} {X:Extern} {inR:Bool} {sz:Nat} {L:Ks} {h h0:AH} {rs:List Rs} {ops:Array Oper} {os:List Oper} {o:Oper} {R:Ks→AH→Prop} {Q:KQ}
def qkG (P:Program) (ty:TypeId):Option (Nat×Nat):=match P.underlying ty with|some (.array n e)=>(match zU P e with|some z=>some (n,z)|none=>none) | _=>none
end
end Go.Proofs.Xx
namespace Go.Proofs.Xx
open Go
section
variable {P:Program} {X:Extern} {inR:Bool} {sz:Nat} {L:Ks} {h h0:AH} {rs:List Rs} {ops:Array Oper} {os:List Oper} {o:Oper} {R:Ks→AH→Prop} {Q:KQ}
end
end Go.Proofs.Xx
namespace Go.Proofs.Xx
open Go
abbrev lpR (l:Nat) (o:Qz):Rs:=.any (fun h fp=>h.get l=some o∧fp l)
def yv (l:Nat):Value:=.func (.yield l) #[] #[]
section
variable {h h0:AH} {rs:List Rs} {l:Nat} {o:Qz}
theorem Hs.bY (S:Hs h0 h rs) {b:Nat} {o:Qz} (hb:h0.get b=some o) (w:WfH h0):b<h.next :=
 zE3 (Nat.lt_of_not_le fun q=>by have:=w b q;rw [hb] at this;cases this) S.ext.next
end
section
variable {P:Program} {X:Extern} {inR:Bool} {sz:Nat} {L:Ks} {h h0:AH} {rs:List Rs} {ops:Array Oper} {os:List Oper} {o:Oper} {R:Ks→AH→Prop} {Q:KQ}
def Yd (P:Program) (X:Extern) (l:Nat) (args:List Value) (h:AH) (Q:Value→AH→Prop):Prop:=∃ n v h',Zq (exec P X n) l args h=some (v,h')∧Q v h'
theorem Yd.mono {l:Nat} {args:List Value} {Q Q':Value→AH→Prop} (w:Yd P X l args h Q) (hq:∀ v h',Q v h'→Q' v h'):Yd P X l args h Q':=by
 obtain ⟨n,v,h',h1,h2⟩:=w;exact ⟨n,v,h',h1,hq _ _ h2⟩
end
end Go.Proofs.Xx
namespace Go.Proofs.Xx
open Go
section
variable {P:Program} {X:Extern} {sz:Nat} {L:Ks} {h h0:AH} {rs:List Rs} {ops:Array Oper} {os:List Oper} {o:Oper} {R:Ks→AH→Prop}
end
class HasV (rs:List Rs) (v:Value):Prop where
 fp:∀ {lo:Nat} {h:AH} {U:Fp},Sep lo h rs U→v≠.slice none 0 0→U (qju v)
instance HasV.there {rs:List Rs} {v:Value} {s:Rs} [k:HasV rs v]:HasV (s :: rs) v:=⟨fun S hv=>by
 obtain ⟨f,-,-,h3⟩:=S;exact (k.fp h3 hv).1⟩
instance HasV.sl {rs:List Rs} {v:Value} {α:Type} {e:TypeId} {z:Nat} {enc:α→List Value} {l:List α}:HasV (.sl v e z enc l :: rs) v:=⟨fun S hv=>by
 obtain ⟨f,h1,h2,-⟩:=S;rcases h1 with ⟨q,-⟩|⟨b,o,cc,slk,cap,rfl,-,q,-⟩
 ·exact absurd q hv
 ·exact (h2 b q).2.2⟩
instance HasV.rd {rs:List Rs} {v:Value} {α:Type} {z:Nat} {enc:α→List Value} {l:List α}:HasV (.rd v z enc l :: rs) v:=⟨fun S hv=>by
 obtain ⟨f,h1,h2,-⟩:=S;rcases h1 with ⟨q,-⟩|⟨b,o,cap,cc,e,s,r,rfl,-,q,-⟩
 ·exact absurd q hv
 ·exact (h2 b q).2.2⟩
class HasK (rs:List Rs) (b:Nat):Prop where
 fp:∀ {lo:Nat} {h:AH} {U:Fp},Sep lo h rs U→U b
instance HasK.there {rs:List Rs} {b:Nat} {s:Rs} [k:HasK rs b]:HasK (s :: rs) b:=⟨fun S=>by
 obtain ⟨f,-,-,h3⟩:=S;exact (k.fp h3).1⟩
instance HasK.here {rs:List Rs} {b:Nat} {c:List Value} {e:TypeId}:HasK (.blk b c e :: rs) b:=⟨fun S=>by
 obtain ⟨f,h1,h2,-⟩:=S;exact (h2 b h1.2).2.2⟩
class NeB (rs:List Rs) (b:Nat) (v:Value):Prop where
 ne:∀ {lo:Nat} {h:AH} {U:Fp},Sep lo h rs U→v≠.slice none 0 0→qju v≠b
instance NeB.there {rs:List Rs} {b:Nat} {v:Value} {s:Rs} [k:NeB rs b v]:NeB (s :: rs) b v:=⟨fun S hv=>by
 obtain ⟨f,-,-,h3⟩:=S;exact k.ne h3 hv⟩
instance NeB.blk {rs:List Rs} {b:Nat} {v:Value} {c:List Value} {e:TypeId} [k:HasV rs v]:NeB (.blk b c e :: rs) b v:=⟨fun S hv q=>by
 obtain ⟨f,h1,h2,h3⟩:=S;have:=(k.fp h3 hv).2;rw [q] at this;exact this h1.2⟩
instance NeB.sl {rs:List Rs} {b:Nat} {v:Value} {α:Type} {e:TypeId} {z:Nat} {enc:α→List Value} {l:List α} [k:HasK rs b]:NeB (.sl v e z enc l :: rs) b v:=⟨fun S hv q=>by
 obtain ⟨f,h1,h2,h3⟩:=S;rcases h1 with ⟨q',-⟩|⟨b',o,cc,slk,cap,rfl,-,q',-⟩
 ·exact absurd q' hv
 ·have:=(k.fp h3).2;exact this (by rw [← q];exact q')⟩
section
variable {P:Program} {X:Extern} {sz:Nat} {L:Ks} {h h0:AH} {rs:List Rs} {ops:Array Oper} {os:List Oper} {o:Oper} {R:Ks→AH→Prop}
end
abbrev okV (ok:Bool) (v:Value) (b:Bool):Value:=match ok with|true=>.tuple #[v,.bool b]|false=>v
def Ju {α:Type} (k:List UInt8):List (List UInt8×α)→Nat→Option (Nat×α)
 | [],_=>none
 | p :: r,i=>if p.1=k then some (i,p.2) else Ju k r (i+1)
def VK {α:Type} (l:List (List UInt8×α)) (k:List UInt8):Option α:=(Ju k l 0).map (·.2)
theorem qf7 (a b:List UInt8):((⟨a.toArray⟩:ByteArray) == ⟨b.toArray⟩)=decide (a=b):=by
 rw [Bool.eq_iff_iff];constructor
 ·intro h;have h2:=ba_eq h;have h3:a.toArray=b.toArray:=congrArg ByteArray.data h2;simpa using h3
 ·intro h;have h2:a=b:=by simpa using h
  subst h2;exact Gp _
theorem yZ {α:Type} {enc:α→Value} {k:List UInt8}:∀ {es:List (Value×Value×Nat)} {l:List (List UInt8×α)} {i:Nat},es.map (fun e=>(e.1,e.2.1))=l.map (fun p=>(Value.string ⟨p.1.toArray⟩,enc p.2)) →
 Zy .string (str k) es i=some ((Ju k l i).map fun q=>(q.1,enc q.2))
 | [],[],i,_=>rfl
 | [],p :: r,i,h=>by simp at h
 | e :: es,[],i,h=>by simp at h
 | e :: es,p :: r,i,h=>by
  simp only [List.map_cons,List.cons.injEq,Prod.mk.injEq] at h;obtain ⟨⟨h1,h2⟩,h3⟩:=h;have hs:Instr.sameNow .string (str k) e.1=some (decide (k=p.1)):=by
   rw [h1];show some (((⟨k.toArray⟩:ByteArray) == ⟨p.1.toArray⟩))=_
   rw [qf7]
  unfold Zy;unfold Ju;by_cases hk:p.1=k
  ·rw [hs,decide_eq_true hk.symm,if_pos hk,h2];rfl
  ·rw [hs,decide_eq_false (fun q=>hk q.symm),if_neg hk];exact yZ h3
theorem qcO {α:Type} {l:List (List UInt8×α)} {k:List UInt8} (h:VK l k=none):Ju k l 0=none:=by
 unfold VK at h;cases hq:Ju k l 0 with
 | none=>rfl
 | some q=>rw [hq] at h;cases h
theorem qcN {α:Type} {l:List (List UInt8×α)} {k:List UInt8} {x:α} (h:VK l k=some x):∃ i,Ju k l 0=some (i,x):=by
 unfold VK at h;cases hq:Ju k l 0 with
 | none=>rw [hq] at h;cases h
 | some q=>rw [hq] at h;cases h;exact ⟨q.1,rfl⟩
section
variable {P:Program} {X:Extern} {inR:Bool} {sz:Nat} {L:Ks} {h h0:AH} {rs:List Rs} {ops:Array Oper} {os:List Oper} {o:Oper} {R:Ks→AH→Prop} {Q:KQ}
theorem qej {α:Type} {b:Nat} {enc:α→Value} {l:List (List UInt8×α)} (S:Hs h0 h rs) (a:At rs (.mp b enc l)):∃ es clock,h.get b=some (.map es clock)∧es.map (fun e=>(e.1,e.2.1))=l.map (fun p=>(Value.string ⟨p.1.toArray⟩,enc p.2))∧(∀ e∈es,e.2.2<clock)∧(es.map (·.2.2)).Nodup:=by
 obtain ⟨fp,k,_⟩:=a.ok S.sep;obtain ⟨es,clock,h1,h2,h3⟩:=k;exact ⟨es,clock,h1,h3⟩
theorem qcP {α:Type} {b:Nat} {enc:α→Value} {l:List (List UInt8×α)} (S:Hs h0 h rs) (a:At rs (.mp b enc l)) {ty kt et:TypeId} {key:List UInt8} {z:Value} (ok:Bool)
 (hu:P.underlying ty=some (.map kt et)) (hkt:P.underlying kt=some .string) (hz:zeroV P et=some z) :
 Qg P ty (.map (some b)) (str key) ok h=some (match VK l key with
  | some x=>(okV ok (enc x) true)
  | none=>(okV ok z false)):=by
 obtain ⟨es,clock,h1,h2,-⟩:=qej S a;have hT:Vb P ty (str key)=some (.string,et):=by
  unfold Vb;simp only [hu,hkt];rfl
 have hM:Zx (.map (some b)) h=some es:=by
  unfold Zx;simp only [h1]
 have hF:=yZ (enc:=enc) (k:=key) (i:=0) h2;unfold Qg;rw [hT,hM];simp only [hF];cases hq:VK l key with
 | none=>rw [qcO hq];simp only [Option.map_none,hz];rfl
 | some x =>
  obtain ⟨i,hi⟩:=qcN hq;rw [hi];simp only [Option.map_some];rfl
theorem lk {α:Type} {b:Nat} {enc:α→Value} {l:List (List UInt8×α)} {m k:Operand} {ty kt et:TypeId} {key:List UInt8} {z:Value} {d:Tmp} {ok:Bool} (S:Hs h0 h rs) (a:At rs (.mp b enc l))
 (w1:∀ x,VK l key=some x→KO P X sz ops os (L.put d (okV ok (enc x) true)) h R)
 (w2:VK l key=none→KO P X sz ops os (L.put d (okV ok z false)) h R)
 (ho:o.op = .lookup ty m k ok:=by exact rfl) (hg:qp ops L.tree o.guard=some true:=by exact rfl) (hm:kA L m=some (.map (some b)):=by exact rfl) (hk:kA L k=some (str key):=by exact rfl)
 (hu:P.underlying ty=some (.map kt et):=by exact rfl) (hkt:P.underlying kt=some .string:=by exact rfl) (hz:zeroV P et=some z:=by exact rfl) (hdst:o.dst=some d:=by exact rfl) (hds:Nat.blt d sz=true:=by exact rfl):KO P X sz ops (o :: os) L h R:=by
 have e:=qcP (key:=key) S a ok hu hkt hz;cases hq:VK l key with
 | none =>
  rw [hq] at e;refine zJ hg (v:=okV ok z false) (h':=h) ?_ (show qJ sz L o.dst _=some (L.put d _) by simp only [qJ,hdst,hds]) (w2 hq);rw [ho];simp only [ja,qI hm,qI hk,e,orO,qU]
 | some x =>
  rw [hq] at e;refine zJ hg (v:=okV ok (enc x) true) (h':=h) ?_ (show qJ sz L o.dst _=some (L.put d _) by simp only [qJ,hdst,hds]) (w1 x hq);rw [ho];simp only [ja,qI hm,qI hk,e,orO,qU]
theorem Hs.qgx {α:Type} {rs':List Rs} {b clock2:Nat} {enc:α→Value} {l l2:List (List UInt8×α)} {es2:List (Value×Value×Nat)} (S:Hs h0 h rs) (u:Ut rs (.mp b enc l) (.mp b enc l2) rs')
 (h2:es2.map (fun e=>(e.1,e.2.1))=l2.map (fun p=>(Value.string ⟨p.1.toArray⟩,enc p.2))) (hc:∀ e∈es2,e.2.2<clock2) (hn:(es2.map (·.2.2)).Nodup):Hs h0 (h.put b (.map es2 clock2)) rs':=by
 obtain ⟨fp,k,k2,-⟩:=u.ok (h':=h) S.ext.next (zA3 _) S.sep
 obtain ⟨es,clock,g1,g2,-⟩:=k;refine S.turn u (zA3 _) (S.wf.put (k2 b g2).2.1 _) fun fq q1 q2=>⟨fun j _ hj=>?_,fun j=>j=b,⟨es2,clock2,by rw [AH.get_put,if_pos rfl],rfl,h2,hc,hn⟩,fun j hj=>?_⟩
 ·obtain ⟨_,_,_,g,_⟩:=q1;rw [AH.get_put,if_neg];intro q;subst q;exact hj g
 ·obtain ⟨_,_,_,g,_⟩:=q1;subst hj;exact ⟨(q2 _ g).2,.inl g⟩
theorem Hs.qiU {α:Type} (enc:α→Value) (S:Hs h0 h rs):Hs h0 (h.add (.map [] 0)) (.mp h.next enc [] :: rs) :=
 S.grow (fp:=fun b=>b=h.next) ((Ext.refl S.wf).add _) ⟨[],0,by rw [AH.zf,if_pos rfl],rfl,rfl,(fun e he=>by cases he),List.Pairwise.nil⟩ fun b hb=>by subst hb;exact ⟨zA3 _,zG0 _⟩
theorem mkm {α:Type} (enc:α→Value) {ty:TypeId} {d:Tmp} (S:Hs h0 h rs) (w:∀ b h',Hs h0 h' (.mp b enc [] :: rs)→KO P X sz ops os (L.put d (.map (some b))) h' R) (ho:o.op = .makeMap ty none:=by exact rfl) (hg:qp ops L.tree o.guard=some true:=by exact rfl) (hdst:o.dst=some d:=by exact rfl) (hds:Nat.blt d sz=true:=by exact rfl):KO P X sz ops (o :: os) L h R :=
 zJ hg (v:=.map (some h.next)) (h':=h.add (.map [] 0)) (by rw [ho];rfl) (show qJ sz L o.dst _=some (L.put d _) by simp only [qJ,hdst,hds]) (w _ _ (S.qiU enc))
def KG {α:Type} (l:List (List UInt8×α)) (k:List UInt8) (x:α):List (List UInt8×α):=match Ju k l 0 with|some q=>l.set q.1 (k,x)|none=>l ++ [(k,x)]
theorem modify_eq_set {β:Type} {l:List β} {i:Nat} {f:β→β} {y e:β} (he:l[i]? = some e) (hf:f e=y):l.modify i f=l.set i y:=by
 apply List.ext_getElem?
 intro j;rw [List.getElem?_modify,List.getElem?_set];by_cases hj:i=j
 ·subst hj;have hl:i<l.length:=(zD5.1 he).1;have e2:l[i]=e:=(zD5.1 he).2;simp [hl,e2,hf]
 ·simp [hj]
theorem KH {α:Type} {k:List UInt8}:∀ {l:List (List UInt8×α)} {i:Nat} {q:Nat×α},Ju k l i=some q→i≤q.1∧l[q.1 - i]? = some (k,q.2)
 | [],i,q,h=>by cases h
 | p :: r,i,q,h=>by
  unfold Ju at h;split at h
  ·rename_i hk
   cases h
   refine ⟨zA3 _,?_⟩;rw [zG6];show some p=_
   rw [← hk]
  ·obtain ⟨h1,h2⟩:=KH h;refine ⟨by omega,?_⟩;rw [show q.1 - i=(q.1 - (i+1))+1 by omega];exact h2
theorem qck {α:Type} {key:List UInt8} {b:Nat} {enc:α→Value} {l:List (List UInt8×α)} {rs':List Rs} {x:α} (S:Hs h0 h rs) (u:Ut rs (.mp b enc l) (.mp b enc (KG l key x)) rs') (a:At rs (.mp b enc l)) {ty kt et:TypeId}
 (hu:P.underlying ty=some (.map kt et)) (hkt:P.underlying kt=some .string) :
 ∃ h',Qp P ty (.map (some b)) (str key) (enc x) h=some h'∧Hs h0 h' rs':=by
 obtain ⟨es,clock,h1,h2,h3,h4⟩:=qej S a;have hT:Vb P ty (str key)=some (.string,et):=by
  unfold Vb;simp only [hu,hkt];rfl
 have hF:=yZ (enc:=enc) (k:=key) (i:=0) h2;unfold Qp;simp only [hT,h1,hF];unfold KG at u;cases hq:Ju key l 0 with
 | none =>
  rw [hq] at u;refine ⟨_,rfl,S.qgx u ?_ ?_ ?_⟩
  ·rw [zC9,zC9,h2];rfl
  ·intro e he;rcases zB8.1 he with q|q
   ·have:=h3 e q;omega
   ·simp at q;subst q;exact zG0 _
  ·rw [zC9,zG4];refine ⟨h4,by simp,?_⟩;intro c hc d hd;obtain ⟨e,he,rfl⟩:=zF1.1 hc;simp at hd;subst hd;have:=h3 e he;omega
 | some q =>
  rw [hq] at u;obtain ⟨i,y⟩:=q;obtain ⟨-,hl⟩:=KH hq;have hle:es.length=l.length:=by simpa using congrArg List.length h2
  obtain ⟨e,he⟩:∃ e,es[i]? = some e:=⟨es[i]'(by have:=(zD5.1 hl).1;omega),by simp⟩
  have hm:=modify_eq_set (f:=fun e:Value×Value×Nat=>(str key,enc x,e.2.2)) (y:=(str key,enc x,e.2.2)) he rfl;refine ⟨_,rfl,S.qgx u ?_ ?_ ?_⟩
  ·rw [hm,List.map_set,List.map_set,h2];rfl
  ·intro e1 h1;rw [hm] at h1;rcases List.mem_or_eq_of_mem_set h1 with q|q
   ·exact h3 e1 q
   ·subst q;exact h3 e (List.mem_of_getElem? he)
  ·rw [hm,List.map_set];have:(es.map (·.2.2)).set i e.2.2=es.map (·.2.2):=by
    apply List.ext_getElem?
    intro j;rw [List.getElem?_set];by_cases hj:i=j
    ·subst hj;have hl2:=(zD5.1 he)
     obtain ⟨g1,g2⟩:=hl2;simp [g1,g2]
    ·simp [hj]
   rw [this];exact h4
theorem up {α:Type} {L':Ks} {b:Nat} {enc:α→Value} {l:List (List UInt8×α)} {rs':List Rs} {key:List UInt8} {y:Value} {m k v:Operand} {ty kt et:TypeId} (x:α) (S:Hs h0 h rs) (a:At rs (.mp b enc l)) (u:Ut rs (.mp b enc l) (.mp b enc (KG l key x)) rs')
 (w:∀ h',Hs h0 h' rs'→KO P X sz ops os L' h' R) (ho:o.op = .mapUpdate ty m k v∨o.op = .insert ty m k v) (hg:qp ops L.tree o.guard=some true:=by exact rfl) (hm:kA L m=some (.map (some b)):=by exact rfl) (hk:kA L k=some (str key):=by exact rfl) (hv:kA L v=some y:=by exact rfl) (hy:y=enc x:=by exact rfl)
 (hu:P.underlying ty=some (.map kt et):=by exact rfl) (hkt:P.underlying kt=some .string:=by exact rfl) (hp:qJ sz L o.dst (.tuple #[])=some L':=by exact rfl):KO P X sz ops (o :: os) L h R:=by
 subst hy;obtain ⟨h',e1,e2⟩:=qck (x:=x) S u a hu hkt;refine xq hg (h':=h') ?_ hp (w h' e2);rcases ho with ho|ho
 ·rw [ho];simp only [ja,qI hm,qI hk,qI hv,e1]
 ·rw [ho];simp only [ja,qI hm,qI hk,qI hv,e1]
theorem qen {α:Type} {l:List (List UInt8×α)} {k:List UInt8} {x:α}:∀ (j:List UInt8),VK (KG l k x) j=if j=k then some x else VK l j:=by
 intro j;have key:∀ (l:List (List UInt8×α)) (i:Nat),(Ju j (match Ju k l i with|some q=>l.set (q.1 - i) (k,x)|none=>l ++ [(k,x)]) i).map (·.2)=if j=k then some x else (Ju j l i).map (·.2):=by
  intro l;induction l with
  | nil =>
   intro i;simp only [Ju,zC0];by_cases h:j=k
   ·subst h;simp
   ·rw [if_neg (fun q=>h q.symm),if_neg h]
  | cons p r ih =>
   intro i;by_cases hk:p.1=k
   ·simp only [Ju,if_pos hk,zG6,List.set_cons_zero];by_cases hj:j=k
    ·subst hj;simp
    ·rw [if_neg (fun q=>hj q.symm),if_neg hj,if_neg (fun q=>hj (q.symm.trans hk))]
   ·have e:=ih (i+1);simp only [Ju,if_neg hk];cases hq:Ju k r (i+1) with
    | none =>
     rw [hq] at e;simp only [zC6,Ju] at e ⊢;by_cases hj:p.1=j
     ·rw [if_pos hj,if_pos hj,if_neg (fun q=>hk (hj.trans q))]
     ·rw [if_neg hj,if_neg hj];exact e
    | some q =>
     rw [hq] at e;obtain ⟨g1,-⟩:=KH hq;simp only at e ⊢;rw [show q.1 - i=(q.1 - (i+1))+1 by omega];simp only [List.set_cons_succ,Ju];by_cases hj:p.1=j
     ·rw [if_pos hj,if_pos hj,if_neg (fun q=>hk (hj.trans q))]
     ·rw [if_neg hj,if_neg hj];exact e
 have:=key l 0;unfold VK KG;exact this
end
def jE (a b:List UInt8):Prop:=Op.bytesLess a b=true
instance (a b:List UInt8):Decidable (jE a b):=inferInstanceAs (Decidable (_=true))
theorem Y4 (a:List UInt8):¬ jE a []:=by unfold jE;cases a<;>simp [Op.bytesLess]
theorem W9 (b:UInt8) (l:List UInt8):jE [] (b :: l):=by unfold jE;simp [Op.bytesLess]
theorem ZQ {a b:UInt8} {x y:List UInt8}:jE (a :: x) (b :: y)↔a<b∨(a=b∧jE x y):=by
 unfold jE;simp [Op.bytesLess]
theorem zL:∀ a:List UInt8,¬ jE a a
 | []=>Y4 _
 | a :: x=>by
  rw [ZQ];rintro (h|⟨-,h⟩)
  ·exact UInt8.lt_irrefl _ h
  ·exact zL x h
theorem je:∀ {a b c:List UInt8},jE a b→jE b c→jE a c
 | _,[],_,h,_=>absurd h (Y4 _)
 | _,_ :: _,[],_,h=>absurd h (Y4 _)
 | [],_ :: _,c :: z,_,_=>W9 _ _
 | a :: x,b :: y,c :: z,h1,h2=>by
  rw [ZQ] at h1 h2 ⊢;rcases h1 with h1|⟨rfl,h1⟩<;>rcases h2 with h2|⟨rfl,h2⟩
  ·exact .inl (UInt8.lt_trans h1 h2)
  ·exact .inl h1
  ·exact .inl h2
  ·exact .inr ⟨rfl,je h1 h2⟩
theorem Zd:∀ (a b:List UInt8),jE a b∨a=b∨jE b a
 | [],[]=>.inr (.inl rfl)
 | [],b :: y=>.inl (W9 _ _)
 | a :: x,[]=>.inr (.inr (W9 _ _))
 | a :: x,b :: y=>by
  rw [ZQ,ZQ];rcases zE6 a.toNat b.toNat with h|h|h
  ·exact .inl (.inl (UInt8.lt_iff_toNat_lt.2 h))
  ·have e:a=b:=UInt8.toNat_inj.1 h;subst e;rcases Zd x y with h|h|h
   ·exact .inl (.inr ⟨rfl,h⟩)
   ·exact .inr (.inl (by rw [h]))
   ·exact .inr (.inr (.inr ⟨rfl,h⟩))
  ·exact .inr (.inr (.inl (UInt8.lt_iff_toNat_lt.2 h)))
theorem VC {a b:List UInt8} (h:jE a b):¬ jE b a:=fun q=>zL a (je h q)
theorem qdU {a b:List UInt8} (h:jE a b):a≠b:=fun e=>by subst e;exact zL _ h
theorem qg4 {a b:List UInt8} (h:¬ jE a b):b=a∨jE b a:=by
 rcases Zd a b with q|q|q
 ·exact absurd q h
 ·exact .inl q.symm
 ·exact .inr q
def VA (a b:List UInt8):List UInt8:=if jE b a then b else a
def VB (a b:List UInt8):List UInt8:=if jE a b then b else a
def qhg (op:BinOp) (a b:List UInt8):Option Prop :=
 match op with
 | .lss=>some (jE a b)
 | .geq=>some (¬ jE a b)
 | .gtr=>some (jE b a)
 | .leq=>some (¬ jE b a)
 | _=>none
theorem yu (a b:List UInt8):(Op.bytesLess a b || zA ⟨a.toArray⟩ ⟨b.toArray⟩) = !(Op.bytesLess b a):=by
 rw [jP];rcases Zd a b with h|h|h
 ·have h2:Op.bytesLess b a=false:=by
   have:=VC h;unfold jE at this;simpa using this
  unfold jE at h;rw [h,h2];rfl
 ·subst h;have h2:Op.bytesLess a a=false:=by
   have:=zL a;unfold jE at this;simpa using this
  rw [h2];simp
 ·have h2:Op.bytesLess a b=false:=by
   have:=VC h;unfold jE at this;simpa using this
  have h3:decide (a=b)=false:=decide_eq_false fun e=>zL b (by rw [e] at h;exact h);unfold jE at h;rw [h,h2,h3];rfl
theorem Pv {P:Program} {op:BinOp} {ty:TypeId} {a b:List UInt8} {p:Prop} (h:qhg op a b=some p) (v:Bool) (hv:p↔v=true):QO P op ty (str a) (str b)=some (.bool v):=by
 have key:∀ q:Prop,∀ d:Bool,(q↔d=true)→(q↔v=true)→d=v:=fun q d h1 h2=>by
  cases d<;>cases v<;>simp_all
 unfold str;cases op<;>simp only [qhg,Option.some.injEq] at h<;>try (cases h;done)
 all_goals (subst h)
 all_goals (simp only [QO,zF6,yu,Option.some.injEq,Value.bool.injEq])
 ·exact key _ _ Iff.rfl hv
 ·exact key _ _ (by unfold jE;simp) hv
 ·exact key _ _ (by unfold jE;simp) hv
 ·exact key _ _ (by unfold jE;simp) hv
section
variable {P:Program} {X:Extern} {inR:Bool} {sz:Nat} {L:Ks} {h h0:AH} {rs:List Rs} {ops:Array Oper} {os:List Oper} {o:Oper} {R:Ks→AH→Prop} {Q:KQ}
theorem tO {L1 L2:Ks} {op:BinOp} {x y:Operand} {ty ty2:TypeId} {l m:List UInt8} {p:Prop} (w1:p→KO P X sz ops os L1 h R) (w2:¬ p→KO P X sz ops os L2 h R) (ho:o.op = .binOp op ty x y ty2:=by exact rfl) (hg:qp ops L.tree o.guard=some true:=by exact rfl) (hx:kA L x=some (str l):=by exact rfl) (hy:kA L y=some (str m):=by exact rfl)
 (hop:qhg op l m=some p:=by exact rfl) (hp1:qJ sz L o.dst (.bool true)=some L1:=by exact rfl) (hp2:qJ sz L o.dst (.bool false)=some L2:=by exact rfl):KO P X sz ops (o :: os) L h R:=by
 by_cases q:p
 ·exact jD ho hg hx hy (Pv hop true (by simp [q])) hp1 (w1 q)
 ·exact jD ho hg hx hy (Pv hop false (by simp [q])) hp2 (w2 q)
theorem mnS {L':Ks} {x y:Operand} {tys:Array TypeId} {a b:List UInt8} (w:KO P X sz ops os L' h R) (ho:o.op = .call { callee:=.builtin .min,args:=#[x,y],argTypes:=tys }:=by exact rfl) (hg:qp ops L.tree o.guard=some true:=by exact rfl) (hx:kA L x=some (str a):=by exact rfl) (hy:kA L y=some (str b):=by exact rfl)
 (hp:qJ sz L o.dst (str (VA a b))=some L':=by exact rfl):KO P X sz ops (o :: os) L h R :=
 zJ hg (by
  rw [ho];unfold str;have e:(if (Op.bytesLess a b || zA ⟨a.toArray⟩ ⟨b.toArray⟩)=true then (⟨a.toArray⟩:ByteArray) else ⟨b.toArray⟩)=⟨(VA a b).toArray⟩:=by
   rw [yu];unfold VA jE;by_cases hb:Op.bytesLess b a=true<;>simp [hb]
  have hx':=qI hx;have hy':=qI hy;unfold str at hx' hy';simp only [ja,jO,hx',hy',jK,Vj,lesser,qU,e]) hp w
theorem mxS {L':Ks} {x y:Operand} {tys:Array TypeId} {a b:List UInt8} (w:KO P X sz ops os L' h R) (ho:o.op = .call { callee:=.builtin .max,args:=#[x,y],argTypes:=tys }:=by exact rfl) (hg:qp ops L.tree o.guard=some true:=by exact rfl) (hx:kA L x=some (str a):=by exact rfl) (hy:kA L y=some (str b):=by exact rfl)
 (hp:qJ sz L o.dst (str (VB a b))=some L':=by exact rfl):KO P X sz ops (o :: os) L h R :=
 zJ hg (by
  rw [ho];unfold str;have e:(if (!Op.bytesLess a b)=true then (⟨a.toArray⟩:ByteArray) else ⟨b.toArray⟩)=⟨(VB a b).toArray⟩:=by
   unfold VB jE;by_cases hb:Op.bytesLess a b=true<;>simp [hb]
  have hx':=qI hx;have hy':=qI hy;unfold str at hx' hy';simp only [ja,jO,hx',hy',jK,Vj,greater,qU,e]) hp w
theorem gE {L1 L2:Ks} {op:BinOp} {x y:Operand} {ty ty2:TypeId} {a b:Array Value} {fs:Array Field} {r v:Bool} (w1:r=true→KO P X sz ops os L1 h R) (w2:r=false→KO P X sz ops os L2 h R) (ho:o.op = .binOp op ty x y ty2:=by exact rfl) (hg:qp ops L.tree o.guard=some true:=by exact rfl)
 (hx:kA L x=some (.agg a):=by exact rfl) (hy:kA L y=some (.agg b):=by exact rfl) (hu:P.underlying ty=some (.struct fs):=by exact rfl) (hf:qbX P ty=true:=by decide +kernel) (hr:zo P fs.toList a.toList b.toList=some r:=by exact rfl)
 (hn:(match a.toList with|.int .i64 _ :: _=>false | _=>true)=true:=by exact rfl) (hop:(match op with|.eql=>some true|.neq=>some false | _=>none)=some v:=by exact rfl) (hp1:qJ sz L o.dst (.bool v)=some L1:=by exact rfl) (hp2:qJ sz L o.dst (.bool !v)=some L2:=by exact rfl):KO P X sz ops (o :: os) L h R:=by
 have hq:zN P ty a.toList b.toList=some r:=by unfold zN;rw [hu,hf];exact hr
 have key:QO P op ty (.agg a) (.agg b)=some (.bool (if v then r else !r)):=by
  cases op<;>simp only [Option.some.injEq] at hop<;>try (cases hop;done)
  all_goals subst hop
  all_goals unfold QO
  ·simp only;split
   ·rename_i e1 e2;rw [e1] at hn;cases hn
   ·rename_i e;rw [hq];rfl
   ·rename_i e;cases e
   ·rename_i e _ ; exact absurd rfl (by assumption)
  ·simp only [hq];rfl
 cases r with
 | true=>exact jD ho hg hx hy key (by cases v<;>exact hp1) (w1 rfl)
 | false=>exact jD ho hg hx hy key (by cases v<;>exact hp2) (w2 rfl)
end
section
variable {P:Program} {X:Extern} {inR:Bool} {sz:Nat} {L:Ks} {h h0:AH} {rs:List Rs} {ops:Array Oper} {os:List Oper} {o:Oper} {R:Ks→AH→Prop} {Q:KQ}
theorem jC {σ:Type} {a b c:Code} (I:σ→AH→Prop) (sl:σ→Ks) (w1:K P X inR sz a L h (wB P X inR sz b (qfZ I sl Q))) (w2:∀ s h',I s h'→K P X inR sz c (sl s) h' Q):K P X inR sz a L h (wB P X inR sz b (wB P X inR sz c Q)):=by
 have key:∀ x L' h',qfZ I sl Q x L' h'→wB P X inR sz c Q x L' h':=fun x L' h' q=>by
  cases x with
  | norm=>obtain ⟨s,q1,q2⟩:=q;exact (w2 s h' q1).le q2
  | exit id=>exact q
  | ret=>exact q
 refine w1.mono fun x L' h' q=>?_;cases x with
 | norm=>exact K.mono q key
 | exit id=>exact q
 | ret=>exact q
theorem GN {σ:Type} {a c:Code} (I:σ→AH→Prop) (sl:σ→Ks) (w1:K P X inR sz a L h (qfZ I sl Q)) (w2:∀ s h',I s h'→K P X inR sz c (sl s) h' Q):K P X inR sz a L h (wB P X inR sz c Q) :=
 w1.mono fun x L' h' q=>by
  cases x with
  | norm=>obtain ⟨s,q1,q2⟩:=q;exact (w2 s h' q1).le q2
  | exit id=>exact q
  | ret=>exact q
end
theorem Sep.perm {lo:Nat} {h:AH} {rs rs':List Rs} (p:rs.Perm rs'):∀ {U:Fp},Sep lo h rs U→Sep lo h rs' U:=by
 induction p with
 | nil=>intro U k;exact k
 | cons x p ih=>intro U ⟨fp,h1,h2,h3⟩;exact ⟨fp,h1,h2,ih h3⟩
 | swap x y l =>
  intro U ⟨fy,h1,h2,fx,g1,g2,g3⟩;exact ⟨fx,g1,fun b hb=>⟨(g2 b hb).1,(g2 b hb).2.1,(g2 b hb).2.2.1⟩,fy,h1,fun b hb=>⟨(h2 b hb).1,(h2 b hb).2.1,(h2 b hb).2.2,fun q=>(g2 b q).2.2.2 hb⟩,g3.mono fun b hb=>⟨⟨hb.1.1,hb.2⟩,hb.1.2⟩⟩
 | trans p q ih1 ih2=>intro U k;exact ih2 (ih1 k)
theorem Hs.perm {h0 h:AH} {rs rs':List Rs} (S:Hs h0 h rs) (p:rs.Perm rs'):Hs h0 h rs':=⟨S.ext,S.sep.perm p⟩
structure SlV where
 p:Option Addr
 n:Nat
 c:Nat
abbrev SlV.val (s:SlV):Value:=.slice s.p s.n s.c
theorem Rd.PP {h:AH} {v:Value} {z n:Nat} {c:List Value} (r:Rd h v z n c):∃ s:SlV,v=s.val:=by
 rcases r with ⟨rfl,-,-⟩|⟨b,o,cap,cc,e,s,q,rfl,-,-⟩
 ·exact ⟨⟨none,0,0⟩,rfl⟩
 ·exact ⟨⟨some ⟨b,o,none⟩,n,cap⟩,rfl⟩
theorem Hs.Xg {h0 h:AH} {rs:List Rs} {α:Type} {e:TypeId} {z:Nat} {enc:α→List Value} (S:Hs h0 h rs):Hs h0 h (.sl (.slice none 0 0) e z enc [] :: rs) :=
 S.grow (fp:=fun _=>False) (Ext.refl S.wf) (.inl ⟨rfl,rfl⟩) fun b hb=>hb.elim
theorem Hs.anyS {h0 h:AH} {rs:List Rs} {p:AH→Fp→Prop} (S:Hs h0 h rs) (k:∀ h',p h' fun _=>False):Hs h0 h (.any p :: rs) :=
 S.grow (fp:=fun _=>False) (Ext.refl S.wf) (fun h' _=>k h') fun b hb=>hb.elim
theorem Hs.qe5 {h0 h:AH} {rs:List Rs} {p:AH→Fp→Prop} (S:Hs h0 h rs) (a:At rs (.any p)):∃ fp,p h fp:=by
 obtain ⟨fp,k,-⟩:=a.ok S.sep;exact ⟨fp,k h fun _ _=>rfl⟩
theorem Hs.qjp {h0 h:AH} {rs:List Rs} {v:Value} {α:Type} {e:TypeId} {z:Nat} {enc:α→List Value} {l:List α} (S:Hs h0 h rs) (a:At rs (.sl v e z enc l)):Q7 v:=by
 obtain ⟨fp,k,-⟩:=a.ok S.sep;rcases k with ⟨rfl,-⟩|⟨b,o,cc,slk,cap,rfl,-,-,-,h,-⟩
 ·exact zA3 _
 ·exact h.1
theorem Hs.conv {h0 h:AH} {rs:List Rs} {r r':Rs} (S:Hs h0 h (r :: rs)) (k:∀ fp,r.ok h fp→r'.ok h fp):Hs h0 h (r' :: rs):=by
 obtain ⟨fp,k1,k2⟩:=S.sep;exact ⟨S.ext,fp,k fp k1,k2⟩
theorem gA1 {α:Type} {l m:List α} {j:Nat} {d:α} (h:j<l.length):(l ++ m).getD j d=l.getD j d:=by simp [List.getD,zH7 h]
theorem gA2 {α:Type} {l m:List α} {j:Nat} {d:α} (h:l.length≤j):(l ++ m).getD j d=m.getD (j - l.length) d:=by simp [List.getD,List.getElem?_append_right h]
theorem Hs.qjZ {h0 h:AH} {rs:List Rs} {α:Type} {v:Value} {e:TypeId} {z:Nat} {enc:α→List Value} {l:List α} (S:Hs h0 h (.sl v e z enc l :: rs)):Hs h0 h (.rd v z enc l :: rs):=S.conv fun fp k=>by
 rcases k with k|⟨b,o,cc,slk,cap,h1,h2,h3,h4,-⟩
 ·exact .inl k
 ·exact .inr ⟨b,o,_,cc,e,slk,false,h1,h2,h3,h4⟩
theorem Hs.sV {h0 h:AH} {rs:List Rs} (S:Hs h0 h rs) (v:Value) {α:Type} {z:Nat} {enc:α→List Value} {l:List α} [i:HasR rs v α z enc l]:∃ s:SlV,v=s.val:=(i.rd S).PP
end Go.Proofs.Xx
namespace Go.Proofs.Xx
open Go Go.RowKit
def kF (c:UInt8):List UInt8→Option Nat
 | []=>none
 | x :: s=>if x=c then some 0 else (kF c s).map (· + 1)
def qhy (c:UInt8) (s:List UInt8):Int:=match kF c s with|some i=>i|none=>-1
def qkf (c:UInt8) (s:List UInt8):Nat:=s.countP (· == c)
theorem kE (c:UInt8):∀ s:List UInt8,(kF c s=none∧Lib.indexByte s c = -1)∨∃ i:Nat,kF c s=some i∧Lib.indexByte s c=i
 | []=>.inl ⟨rfl,rfl⟩
 | x :: s=>by
  unfold kF Lib.indexByte;by_cases e:x=c
  ·rw [if_pos e,if_pos (by simpa using e)];exact .inr ⟨0,rfl,rfl⟩
  ·rw [if_neg e,if_neg (by simpa using e)];rcases kE c s with ⟨h1,h2⟩|⟨i,h1,h2⟩
   ·rw [h1,h2];exact .inl ⟨rfl,rfl⟩
   ·rw [h1,h2];refine .inr ⟨i+1,rfl,?_⟩;rw [if_neg (by intro q;have:=eq_of_beq q;omega)];rfl
theorem qeB (c:UInt8) (s:List UInt8):Lib.indexByte s c=qhy c s:=by
 unfold qhy;rcases kE c s with ⟨h1,h2⟩|⟨i,h1,h2⟩
 ·rw [h1,h2]
 ·rw [h1,h2]
def withBytes (X:Extern) (cnt ix:Nat):Extern:=fun g args h=>match Nat.beq g cnt,Nat.beq g ix,args with
 | true,_,[.string s,.int .u8 c]=>some (.int .i64 (qkf c.toNat.toUInt8 s.data.toList:Nat),h)
 | _,true,[.string s,.int .u8 c]=>some (.int .i64 (qhy c.toNat.toUInt8 s.data.toList),h)
 | _,_,_=>X g args h
theorem kW [Glob] {P:Program} {X:Extern} (hX:Yl P X) {cnt ix:Nat} {f1 f2:Func} (h1:P.funcs[cnt]? = some f1) (h2:P.funcs[ix]? = some f2) (n1:(f1.name == "runtime.NumGoroutine")=false) (n2:(f2.name == "runtime.NumGoroutine")=false)
 (b1:f1.body.isNone=true) (b2:f2.body.isNone=true) (m1:Extern.findNext f1=none) (m2:Extern.findNext f2=none) (e1:Extern.find f1=some Extern.BytealgCount.count) (e2:Extern.find f2=some Extern.BytealgIndexByte.indexByte):Yl P (withBytes X cnt ix):=by
 intro f args h v h' hx B e w args' r hargs;unfold withBytes at hx;split at hx
 ·rename_i s c hf
  cases hx
  have:=zA6 hf;subst this;obtain ⟨x',r',rfl,hx',hr'⟩:=hargs.cons_inv;obtain ⟨y',r2,rfl,hy',hr2⟩:=hr'.cons_inv;have:=hr2.jv;subst this;cases hx';cases hy'
  refine ⟨e,_,w,r,Turn.refl _ _ _,.int _ _,.inl ?_⟩;rw [run_callFunc_extern h1 n1 b1 m1 e1,Lib.run_countString];rfl
 ·rename_i s c hg hf
  cases hx
  have:=zA6 hg;subst this;obtain ⟨x',r',rfl,hx',hr'⟩:=hargs.cons_inv;obtain ⟨y',r2,rfl,hy',hr2⟩:=hr'.cons_inv;have:=hr2.jv;subst this;cases hx';cases hy'
  refine ⟨e,_,w,r,Turn.refl _ _ _,.int _ _,.inl ?_⟩;rw [run_callFunc_extern h2 n2 b2 m2 e2,Lib.run_indexByteString,qeB];rfl
 ·exact hX _ _ _ _ _ hx B e w args' r hargs
end Go.Proofs.Xx
