/-
  clear,bytes and strings;then every operation at once: what the checked run does,the machine does.
-/
import Derived.Test.YtnponmgkfkdkaaaGreatDoorM1
import Derived.Laws.BytesString
import Derived.Laws.BytesArg
import Derived.Lib.UnsafeStr
set_option linter.unusedSectionVars false
set_option linter.unusedSimpArgs false
set_option linter.unusedVariables false
namespace Go.Proofs.Xx
open Go
section
variable {P:Program}
theorem yj {f:Emb} {kd:TypeDesc} {k k':Value} (ho:YX kd k=true) (h:VR f k k'):k'=k:=by
 unfold YX at ho;split at ho
 ·cases h;rfl
 ·cases h;rfl
 ·cases ho
theorem JF {f:Emb} {kd:TypeDesc} {k a a':Value} {b:Bool} (hs:Instr.sameNow kd k a=some b) (h:VR f a a'):Instr.sameNow kd k a'=some b:=by
 unfold Instr.sameNow at hs;split at hs
 ·cases h;exact hs
 ·cases h;exact hs
 ·cases h;exact hs
 ·cases hs
theorem Kz {t:TypeId} {k:Value} {kd:TypeDesc} {et:TypeId} (h:WG P t k=some (kd,et)):∃ kt,P.underlying t=some (.map kt et)∧P.underlying kt=some kd∧YX kd k=true:=by
 unfold WG at h;split at h
 ·rename_i kt et' hu
  split at h
  ·rename_i kd' hk
   split at h
   ·rename_i ho
    cases h
    exact ⟨kt,hu,hk,ho⟩
   ·cases h
  ·cases h
 ·cases h
theorem vM {kt:TypeId} {kd:TypeDesc} (hu:P.underlying kt=some kd) {k:Value} (ho:YX kd k=true) (b:Bool) (w:World) (n:Nat):(Instr.checkKey b (n+1) kt k).run P w = .ok () w:=by
 unfold YX at ho;split at ho
 ·simp only [Instr.checkKey,zA5,run_underlying hu,zA1];rfl
 ·simp only [Instr.checkKey,zA5,run_underlying hu,zA1];rfl
 ·cases ho
theorem run_checkKey {kt:TypeId} {kd:TypeDesc} (hu:P.underlying kt=some kd) {k:Value} (ho:YX kd k=true) (b:Bool) (w:World):(Instr.checkKey b 10000 kt k).run P w = .ok () w:=vM hu ho b w 9999
def qhx (f:Emb):Option (Nat×Value)→Option (Nat×Value)→Prop
 | none,none=>True
 | some (i,v),some (j,u)=>i=j∧VR f v u
 | _,_=>False
theorem QF {f:Emb} {kd:TypeDesc} {k:Value} {es:List (Value×Value×Nat)} {es':List MapEntry} (h:EsR f es es'):∀ {i:Nat} {r:Option (Nat×Value)},Zp kd k es i=some r→∃ r',Instr.findNow kd k es' i=some r'∧qhx f r r':=by
 induction h with
 | nil=>intro i r h;cases h;exact ⟨none,rfl,True.intro⟩
 | cons he _ ih =>
  intro i r h;unfold Zp at h;split at h
  ·rename_i q
   cases h
   exact ⟨some (i,_),by simp only [Instr.findNow,JF q he.1],rfl,he.2.1⟩
  ·rename_i q
   obtain ⟨r',q1,q2⟩:=ih h;exact ⟨r',by simp only [Instr.findNow,JF q he.1,q1],q2⟩
  ·cases h
theorem VU {kd:TypeDesc} {k v:Value} {j:Nat}:∀ {es:List (Value×Value×Nat)} {i:Nat},Zp kd k es i=some (some (j,v))→∃ m e,j=i+m∧es[m]? = some e∧Instr.sameNow kd k e.1=some true∧e.2.1=v
 | [],i,h=>by cases h
 | e :: es,i,h=>by
  unfold Zp at h;split at h
  ·rename_i q
   cases h
   exact ⟨0,e,rfl,rfl,q,rfl⟩
  ·obtain ⟨m,e',q1,q2,q3⟩:=VU h;exact ⟨m+1,e',by omega,by simpa using q2,q3⟩
  ·cases h
theorem run_findKey {kt:TypeId} {kd:TypeDesc} (hu:P.underlying kt=some kd) {k:Value} {es:List MapEntry} {r:Option (Nat×Value)} (h:Instr.findNow kd k es 0=some r) (w:World):(Instr.findKey kt k es).run P w = .ok r w:=by
 simp only [Instr.findKey,zA5,run_underlying hu,zA1,h];rfl
theorem EsR.get {f:Emb} {es:List (Value×Value×Nat)} {es':List MapEntry} (h:EsR f es es'):∀ {i:Nat} {e:Value×Value×Nat},es[i]? = some e→∃ e',es'[i]? = some e'∧EntR f e e':=by
 induction h with
 | nil=>intro i e h;simp at h
 | cons he _ ih =>
  intro i e h;cases i with
  | zero=>simp at h;subst h;exact ⟨_,rfl,he⟩
  | succ i=>simp at h;simpa using ih h
theorem EsR.modify {f:Emb} {es:List (Value×Value×Nat)} {es':List MapEntry} {g:Value×Value×Nat→Value×Value×Nat} {g':MapEntry→MapEntry} (h:EsR f es es') (hg:∀ e e',EntR f e e'→EntR f (g e) (g' e')):∀ i:Nat,EsR f (es.modify i g) (es'.modify i g'):=by
 induction h with
 | nil=>intro i;cases i<;>exact .nil
 | cons he hr ih =>
  intro i;cases i with
  | zero=>exact .cons (hg _ _ he) hr
  | succ i=>exact .cons he (ih i)
theorem EsR.snoc {f:Emb} {es:List (Value×Value×Nat)} {es':List MapEntry} (h:EsR f es es') {e:Value×Value×Nat} {e':MapEntry} (he:EntR f e e'):EsR f (es ++ [e]) (es' ++ [e']):=by
 induction h with
 | nil=>exact .cons he .nil
 | cons h _ ih=>exact .cons h ih
theorem EsR.len {f:Emb} {es:List (Value×Value×Nat)} {es':List MapEntry} (h:EsR f es es'):es.length=es'.length:=by
 induction h with
 | nil=>rfl
 | cons h _ ih=>simp [ih]
theorem Yy {t:TypeId} {z:Value} (h:zeroV P t=some z) (w:World):(zeroValue t).run P w = .ok z w∧QJ z=true:=by
 unfold zeroV at h;split at h
 ·rename_i z' hz
  split at h
  ·rename_i hp
   cases h
   unfold X5 at hz;split at hz
   ·rename_i i hi
    exact ⟨by simp [zeroValue,typeInfo,hi,hz],hp⟩
   ·cases hz
  ·cases h
 ·cases h
theorem Rel.Pq [Glob] {B:Bs} {f:Emb} {h:AH} {w:World} (r:Rel B f h w) {b:Nat} {L:Loc} {es:List (Value×Value×Nat)} {clock:Nat} (hf:f b=some L) (hg:h.get b=some (.map es clock)):∃ es',(getObj L.blk).run P w = .ok (.map es' clock) w∧EsR f es es'.toList:=by
 obtain ⟨es',h1,h2⟩:=r.obj b L _ hf hg;exact ⟨es',by simp [getObj,Sem.run,h1],h2⟩
theorem ww [Glob] {B:Bs} {f:Emb} {h:AH} {w:World} (r:Rel B f h w) {t:TypeId} {m m' k k' v:Value} {ok:Bool} (ha:Qw P t m k ok h=some v) (hm:VR f m m') (hk:VR f k k') :
 ∃ v',(Instr.lookup t m' k' ok).run P w = .ok v' w∧VR f v v':=by
 unfold Qw at ha;split at ha
 ·rename_i kd et es hT hM
  obtain ⟨kt,u1,u2,ho⟩:=Kz hT;obtain rfl:=yj ho hk;have key:∃ es':Array MapEntry,EsR f es es'.toList∧∀ (x:Option (Nat×Value)) (u:Value),Instr.findNow kd k' es'.toList 0=some x→(match x with|some (_,u)=>u|none=>u)=u→(∀ w1:World,x=none→(zeroValue et).run P w1 = .ok u w1) →
   (Instr.lookup t m' k' ok).run P w = .ok (match ok with|true=>.tuple #[u,.bool x.isSome]|false=>u) w:=by
   unfold XB at hM;split at hM
   ·cases hM;cases hm
    refine ⟨#[],.nil,fun x u hx hu hz=>?_⟩;cases x with
    | some p=>cases hx
    | none =>
     have h1:(Instr.findKey kt k' ([]:List MapEntry)).run P w = .ok none w:=run_findKey u2 hx w;have h2:=hz w rfl;have h3:=run_checkKey (P:=P) u2 ho true w;cases ok<;>simp [Instr.lookup,run_underlying u1,h1,h2,h3,Result.andThen]
   ·rename_i b
    cases hm with
    | map b L hL =>
     split at hM
     ·rename_i es0 cl hg
      cases hM
      obtain ⟨es',q1,q2⟩:=r.Pq (P:=P) hL hg;refine ⟨es',q2,fun x u hx hu hz=>?_⟩;have h1:(Instr.findKey kt k' es'.toList).run P w = .ok x w:=run_findKey u2 hx w;have h3:=run_checkKey (P:=P) u2 ho es'.isEmpty w;cases x with
      | some p =>
       obtain ⟨i,v'⟩:=p;have hu:v'=u:=hu;subst hu;cases ok<;>simp [Instr.lookup,run_underlying u1,q1,h1,h3,Result.andThen]
      | none =>
       have h2:=hz w rfl;cases ok<;>simp [Instr.lookup,run_underlying u1,q1,h1,h2,h3,Result.andThen]
     ·cases hM
   ·cases hM
  obtain ⟨es',he,hrun⟩:=key;split at ha
  ·rename_i j u hF
   obtain ⟨r',q1,q2⟩:=QF he hF;match r',q1,q2 with
   | some (j',u'),q1,q2 =>
    cases ha
    refine ⟨_,hrun _ u' q1 rfl (fun _ q=>by cases q),?_⟩;cases ok
    ·exact q2.2
    ·exact VR.tuple _ _ (.cons _ _ _ _ q2.2 (.cons _ _ _ _ (.bool true) .nil))
   | none,_,q2=>exact q2.elim
  ·rename_i hF
   obtain ⟨r',q1,q2⟩:=QF he hF;match r',q1,q2 with
   | none,q1,_ =>
    split at ha
    ·rename_i z hz
     cases ha
     refine ⟨_,hrun _ z q1 rfl (fun w1 _=>(Yy hz w1).1),?_⟩;have hv:=VR.plain f z (Yy (P:=P) hz w).2;cases ok
     ·exact hv
     ·exact VR.tuple _ _ (.cons _ _ _ _ hv (.cons _ _ _ _ (.bool false) .nil))
    ·cases ha
   | some _,_,q2=>exact q2.elim
  ·cases ha
 ·cases ha
theorem qaE {w:World} {k:Nat} {es:Array MapEntry} {clock:Nat} (o:Obj) (h:w.heap[k]? = some (.map es clock)):(setObj k o).run P w = .ok () { w with heap:=w.heap.setIfInBounds k o }:=by simp [setObj,Sem.run,h]
theorem qbY {w:World} {k:Nat} (o:Obj) (hk:k<w.heap.size):Wrote w { w with heap:=w.heap.setIfInBounds k o } k o :=
 ⟨by simp [Array.getElem?_setIfInBounds,hk],fun j hj=>by simp [Array.getElem?_setIfInBounds,Ne.symm hj],by simp,rfl,rfl,rfl⟩
theorem ba_eq {a b:ByteArray} (h:(a == b)=true):a=b:=by
 cases a with|mk x=>cases b with|mk y =>
 have h2:(x == y)=true:=h;rw [eq_of_beq h2]
theorem qbS (a:ByteArray):(a == a)=true:=by
 cases a with|mk x =>
 show (x == x)=true
 exact beq_self_eq_true x
theorem We {kd:TypeDesc} {k a:Value} (ho:YX kd k=true) (h:Instr.sameNow kd k a=some true) (n:Nat):Instr.sameBits n a k=true:=by
 unfold YX at ho;split at ho
 ·rename_i c j x
  cases a<;>simp only [Instr.sameNow] at h<;>try cases h
  rename_i j2 y
  split at h
  ·rename_i e
   subst e;have e3:=eq_of_beq (Option.some.inj h);subst e3;cases n<;>simp [Instr.sameBits]
  ·cases h
 ·rename_i x
  cases a<;>simp only [Instr.sameNow] at h<;>try cases h
  rename_i y
  have e3:=ba_eq (Option.some.inj h);subst e3;cases n<;>simp [Instr.sameBits,qbS]
 ·cases ho
theorem wP {old new:Value} (h:Instr.sameBits 10000 old new=true) (w:World):(Instr.keyThatStays old new).run P w = .ok new w:=by
 unfold Instr.keyThatStays;rw [if_pos h];rfl
theorem Rel.Vu [Glob] {B:Bs} {f:Emb} {h:AH} {w:World} (r:Rel B f h w) {b:Nat} {L:Loc} {es es2:List (Value×Value×Nat)} {clock c2:Nat} (hf:f b=some L) (hg:h.get b=some (.map es clock)) {es2':Array MapEntry} (he:EsR f es2 es2'.toList) :
 ∃ w',(setObj L.blk (.map es2' c2)).run P w = .ok () w'∧Rel B f (h.put b (.map es2 c2)) w'∧Turn f h w f (h.put b (.map es2 c2)) w':=by
 obtain ⟨es',h1,h2⟩:=r.obj b L _ hf hg;have wr:=qbY (w:=w) (k:=L.blk) (.map es2' c2) (r.rng b L hf);obtain ⟨q1,q2⟩:=r.put hf hg rfl wr (o':=.map es2 c2) ⟨es2',wr.here,he⟩ (fun _=>rfl);exact ⟨_,qaE _ h1,q1,q2⟩
theorem Jr [Glob] {B:Bs} {f:Emb} {h h':AH} {w:World} (r:Rel B f h w) {t:TypeId} {m m' k k' v v':Value} (ha:Qi P t m k v h=some h') (hm:VR f m m') (hk:VR f k k') (hv:VR f v v') :
 ∃ w',(Instr.mapUpdate t m' k' v').run P w = .ok () w'∧Rel B f h' w'∧Turn f h w f h' w':=by
 unfold Qi at ha;split at ha
 ·rename_i kd et b hT
  obtain ⟨kt,u1,u2,ho⟩:=Kz hT;obtain rfl:=yj ho hk;cases hm with
  | map b L hL =>
   split at ha
   ·rename_i es clock hg
    obtain ⟨es',q1,q2⟩:=r.Pq (P:=P) hL hg;have h3:=run_checkKey (P:=P) u2 ho false w;split at ha
    ·rename_i i u hF
     cases ha
     obtain ⟨r',p1,p2⟩:=QF q2 hF;match r',p1,p2 with
     | some (j,u'),p1,p2 =>
      obtain ⟨rfl,-⟩:=p2;obtain ⟨m,e,em,eg,es1,-⟩:=VU hF;obtain rfl:i=m:=by omega
      obtain ⟨e',g1,g2⟩:=q2.get eg;have h1:=run_findKey (P:=P) u2 p1 w;have hs:=wP (P:=P) (We ho (JF es1 g2.1) 10000) w;have he2:EsR f (es.modify i fun e=>(k',v,e.2.2)) (es'.modify i fun e=>{ e with key:=k',val:=v' }).toList:=by
       rw [Array.toList_modify];exact q2.modify (g:=fun e=>(k',v,e.2.2)) (g':=fun e=>{ e with key:=k',val:=v' }) (fun e e' q=>⟨hk,hv,q.2.2⟩) i
      obtain ⟨w',z1,z2,z3⟩:=r.Vu (P:=P) (c2:=clock) hL hg he2;refine ⟨w',?_,z2,z3⟩;have g1':es'[i]? = some e':=by rw [← zC1];exact g1
      simp [Instr.mapUpdate,run_underlying u1,q1,h1,h3,g1',hs,z1,Result.andThen]
     | none,_,p2=>exact p2.elim
    ·rename_i hF
     cases ha
     obtain ⟨r',p1,p2⟩:=QF q2 hF;match r',p1,p2 with
     | none,p1,_ =>
      have h1:=run_findKey (P:=P) u2 p1 w;have he2:EsR f (es ++ [(k',v,clock)]) (es'.push { key:=k',val:=v',born:=clock }).toList:=by
       rw [Array.toList_push];exact q2.snoc ⟨hk,hv,rfl⟩
      obtain ⟨w',z1,z2,z3⟩:=r.Vu (P:=P) (c2:=clock+1) hL hg he2;refine ⟨w',?_,z2,z3⟩;simp [Instr.mapUpdate,run_underlying u1,q1,h1,h3,z1,Result.andThen]
     | some _,_,p2=>exact p2.elim
    ·cases ha
   ·cases ha
 ·cases ha
theorem WM [Glob] {B:Bs} {f:Emb} {h h':AH} {w:World} (r:Rel B f h w) {t:TypeId} {m m' k k' v:Value} (ha:VQ P t m k h=some (v,h')) (hm:VR f m m') (hk:VR f k k') :
 ∃ f' v' w',(Instr.mapEntry t m' k').run P w = .ok v' w'∧Rel B f' h' w'∧Turn f h w f' h' w'∧VR f' v v':=by
 unfold VQ at ha;split at ha
 ·rename_i kd et b hT
  obtain ⟨kt,u1,u2,ho⟩:=Kz hT;obtain rfl:=yj ho hk;cases hm with
  | map b L hL =>
   split at ha
   ·rename_i es clock hg
    obtain ⟨es',q1,q2⟩:=r.Pq (P:=P) hL hg;have h3:=run_checkKey (P:=P) u2 ho false w;split at ha
    ·rename_i i u hF
     split at ha
     ·rename_i e eg
      cases ha
      obtain ⟨r',p1,p2⟩:=QF q2 hF;match r',p1,p2 with
      | some (j,u'),p1,p2 =>
       obtain ⟨rfl,hu⟩:=p2;obtain ⟨m,e2,em,eg2,es1,-⟩:=VU hF;obtain rfl:i=m:=by omega
       obtain rfl:e=e2:=Option.some.inj (eg.symm.trans eg2);obtain ⟨e',g1,g2⟩:=q2.get eg;have h1:=run_findKey (P:=P) u2 p1 w;have hs:=wP (P:=P) (We ho (JF es1 g2.1) 10000) w;have he2:EsR f (es.modify i fun e=>(k',e.2)) (es'.modify i fun e=>{ e with key:=k' }).toList:=by
        rw [Array.toList_modify];exact q2.modify (g:=fun e=>(k',e.2)) (g':=fun e=>{ e with key:=k' }) (fun e e' q=>⟨hk,q.2⟩) i
       obtain ⟨w',z1,z2,z3⟩:=r.Vu (P:=P) (c2:=clock) hL hg he2;have g1':es'[i]? = some e':=by rw [← zC1];exact g1
       refine ⟨f,.tuple #[u',.int .i64 e'.born],w',?_,z2,z3,?_⟩
       ·simp [Instr.mapEntry,run_underlying u1,q1,h1,h3,g1',hs,z1,Result.andThen,goInt]
       ·have:e.2.2=e'.born:=g2.2.2;rw [this];exact VR.tuple _ _ (.cons _ _ _ _ hu (.cons _ _ _ _ (.int _ _) .nil))
      | none,_,p2=>exact p2.elim
     ·cases ha
    ·rename_i hF
     split at ha
     ·rename_i z hz
      cases ha
      obtain ⟨r',p1,p2⟩:=QF q2 hF;match r',p1,p2 with
      | none,p1,_ =>
       have h1:=run_findKey (P:=P) u2 p1 w;have h2:=(Yy (P:=P) hz w).1;have hv:=VR.plain f z (Yy (P:=P) hz w).2;have he2:EsR f (es ++ [(k',z,clock)]) (es'.push { key:=k',val:=z,born:=clock }).toList:=by
        rw [Array.toList_push];exact q2.snoc ⟨hk,hv,rfl⟩
       obtain ⟨w',z1,z2,z3⟩:=r.Vu (P:=P) (c2:=clock+1) hL hg he2;refine ⟨f,.tuple #[z,.int .i64 clock],w',?_,z2,z3,VR.tuple _ _ (.cons _ _ _ _ hv (.cons _ _ _ _ (.int _ _) .nil))⟩;simp [Instr.mapEntry,run_underlying u1,q1,h1,h2,h3,z1,Result.andThen,goInt]
      | some _,_,p2=>exact p2.elim
     ·cases ha
    ·cases ha
   ·cases ha
 ·cases ha
theorem EsR.born {f:Emb} {es:List (Value×Value×Nat)} {es':List MapEntry} (h:EsR f es es') (n:Int):es.findIdx? (fun e=>decide ((e.2.2:Int)=n))=es'.findIdx? (fun e=>(e.born:Int) == n):=by
 induction h with
 | nil=>rfl
 | cons he _ ih =>
  rename_i e e' r r' _
  have hb:decide ((e.2.2:Int)=n)=((e'.born:Int) == n):=by rw [he.2.2];rfl
  simp only [List.findIdx?_cons,hb,ih]
theorem Vd [Glob] {B:Bs} {f:Emb} {h h':AH} {w:World} (r:Rel B f h w) {t:TypeId} {m m' s s' v v':Value} (ha:XC m s v h=some h') (hm:VR f m m') (hs:VR f s s') (hv:VR f v v') :
 ∃ w',(Instr.entryStore t m' s' v').run P w = .ok () w'∧Rel B f h' w'∧Turn f h w f h' w':=by
 unfold XC at ha;split at ha
 ·rename_i b kk n
  cases hm with
  | map b L hL =>
   cases hs
   split at ha
   ·rename_i es clock hg
    obtain ⟨es',q1,q2⟩:=r.Pq (P:=P) hL hg;split at ha
    ·rename_i i hi
     cases ha
     rw [q2.born n] at hi;have he2:EsR f (es.modify i fun e=>(e.1,v,e.2.2)) (es'.modify i fun e=>{ e with val:=v' }).toList:=by
      rw [Array.toList_modify];exact q2.modify (g:=fun e=>(e.1,v,e.2.2)) (g':=fun e=>{ e with val:=v' }) (fun e e' q=>⟨q.1,hv,q.2.2⟩) i
     obtain ⟨w',z1,z2,z3⟩:=r.Vu (P:=P) (c2:=clock) hL hg he2;refine ⟨w',?_,z2,z3⟩;have hi':es'.findIdx? (fun e=>(e.born:Int) == n)=some i:=by
      clear z1 he2 q2 q1;cases es' with|mk l=>simpa using hi
     simp [Instr.entryStore,asInt,asIntOf,q1,hi',z1,Result.andThen]
    ·cases ha
   ·cases ha
 ·cases ha
theorem yR [Glob] {B:Bs} {f:Emb} {h:AH} {w:World} (r:Rel B f h w) (t:TypeId) :
 ∃ f' v' w',(Instr.makeMap t none).run P w = .ok v' w'∧Rel B f' (Vb h).2 w'∧Turn f h w f' (Vb h).2 w'∧VR f' (Vb h).1 v':=by
 have hp:=zU w (.map #[] 0);obtain ⟨q1,q2⟩:=r.add hp (o:=.map [] 0) (s:=0) ⟨#[],by simp,.nil⟩;refine ⟨_,.map (some w.heap.size),_,?_,q1,q2,?_⟩
 ·simp only [Instr.makeMap,zA5,run_newObj,zA1];rfl
 ·exact VR.map h.next ⟨w.heap.size,0,0⟩ (Emb.qL _ _ _)
theorem WN [Glob] {B:Bs} {f:Emb} {h h':AH} {w:World} (r:Rel B f h w) {t ty kt et:TypeId} {ts:List TypeId} {x x':Value} {rs:List Value} (hu:P.underlying t=some (.map kt et)) (hc:VW x h=some h') (hx:VR f x x') :
 ∃ w',(Builtin.clear_ (t :: ts).toArray ty (x' :: rs).toArray).run P w = .ok (.tuple #[]) w'∧Rel B f h' w'∧Turn f h w f h' w':=by
 have e1:((t :: ts).toArray)[0]? = some t:=by simp
 have e2:((x' :: rs).toArray)[0]? = some x':=by simp
 unfold VW at hc;split at hc
 ·cases hc;cases hx
  refine ⟨w,?_,r,Turn.refl _ _ _⟩;simp only [Builtin.clear_,e1,e2,zA5,run_underlying hu,zA1];rfl
 ·rename_i b
  cases hx with
  | map b L hL =>
   split at hc
   ·rename_i es clock hg
    cases hc
    obtain ⟨es',q1,q2⟩:=r.Pq (P:=P) hL hg;obtain ⟨w',z1,z2,z3⟩:=r.Vu (P:=P) (es2:=[]) (c2:=clock) hL hg (es2':=#[]) .nil;refine ⟨w',?_,z2,z3⟩;simp only [Builtin.clear_,e1,e2,zA5,run_underlying hu,zA1,q1,z1,zB1]
   ·cases hc
 ·cases hc
end
section
variable {P:Program}
theorem Gw [Glob] {B:Bs} {f:Emb} {h h':AH} {w:World} (r:Rel B f h w) {t ty:TypeId} {ts:List TypeId} {x x':Value} {rs:List Value} (hc:yV P t x h=some h') (hx:VR f x x') :
 ∃ w',(Builtin.clear_ (t :: ts).toArray ty (x' :: rs).toArray).run P w = .ok (.tuple #[]) w'∧Rel B f h' w'∧Turn f h w f h' w':=by
 have e1:((t :: ts).toArray)[0]? = some t:=by simp
 have e2:((x' :: rs).toArray)[0]? = some x':=by simp
 unfold yV at hc;split at hc
 ·rename_i e hu
  cases hc;cases hx
  refine ⟨w,?_,r,Turn.refl _ _ _⟩;simp only [Builtin.clear_,e1,e2,zA5,run_underlying hu,zA1];rfl
 ·rename_i e b o n cap hu
  obtain ⟨L,o',hL,rfl,hlc,ho⟩:=hx.jm;split at hc
  ·cases hc
   refine ⟨w,?_,r,Turn.refl _ _ _⟩;simp only [Builtin.clear_,e1,e2,zA5,run_underlying hu,zA1];rfl
  ·rename_i hn0
   have hn0:n≠0:=fun q=>hn0 (by subst q;rfl);split at hc
   ·rename_i z c eb slk hz hg
    obtain ⟨i,zv,hi,hzv,hzl,hsz,hz0,hpl⟩:=jw hz;have hzr:VRs f z z:=by rw [← hzl];exact (VR.plain f zv hpl).cells
    obtain ⟨w',q1,q2,q3⟩:=QI (P:=P) r hL hg hc (hzr.zg n);have ho':o'=⟨L.blk,L.sh+o,none⟩:=by
     rcases ho with ho|⟨h0,-⟩
     ·exact ho
     ·omega
    subst ho';refine ⟨w',?_,q2,q3⟩;have hzz:Builtin.zeroCells zv.cells n=(zg z n).toArray:=by
     have hlz:zv.cells.size=z.length:=by rw [← hzl,zC2]
     unfold Builtin.zeroCells;rw [← QT hzl hz0 n,hlz]
    have hzrun:(zeroValue e).run P w = .ok zv w:=by simp [zeroValue,typeInfo,hi,hzv]
    obtain ⟨m,rfl⟩:∃ m,n=m+1:=⟨n - 1,by omega⟩
    simp only [Builtin.clear_,e1,e2,zA5,run_underlying hu,zA1,hzrun,hzz,zF6,q1,zB1]
   ·cases hc
 ·rename_i hu
  exact WN r hu hc hx
 ·cases hc
theorem bytesOf?_ints {xs:List Value} {s:List UInt8} (h:bytesOf? xs=some s):∃ ns:List Int,xs=ns.map (Value.int .u8)∧(ns.map fun n=>UInt8.ofNat n.toNat)=s:=by
 induction xs generalizing s with
 | nil=>cases h;exact ⟨[],rfl,rfl⟩
 | cons v r ih =>
  simp only [bytesOf?] at h;split at h
  ·rename_i b t hb ht
   cases h
   obtain ⟨n,rfl,rfl⟩:=byteOf?_eq hb;obtain ⟨ns,h1,h2⟩:=ih ht;exact ⟨n :: ns,by simp [h1],by simp [h2]⟩
  ·cases h
theorem WL [Glob] {B:Bs} {f:Emb} {h:AH} {w:World} (r:Rel B f h w) {s d:TypeId} {x x' v:Value} (hc:zS P s d x h=some v) (hx:VR f x x') :
 ∃ v',(convert s d x').run P w = .ok v' w∧VR f v v':=by
 unfold zS at hc;split at hc
 ·rename_i e h1 h2
  split at hc
  ·rename_i h3
   cases hc;cases hx
   refine ⟨_,?_,.string _⟩;simp [convert,run_underlying h1,run_underlying h2,run_underlying h3,Conv.bytesToString]
   rfl
  ·cases hc
 ·rename_i e b o len cap h1 h2
  obtain ⟨L,o',hL,rfl,hlc,ho⟩:=hx.jm;split at hc
  ·rename_i h3
   split at hc
   ·rename_i c eb slk ro hg
    split at hc
    ·rename_i xs hxs
     split at hc
     ·rename_i bs hbs
      cases hc
      obtain ⟨xs',q1,q2,q3⟩:=(r.obj b L _ hL hg).seg hxs;obtain ⟨ns,n1,n2⟩:=bytesOf?_ints hbs;have hxx:=(bytesOf?_VRs hbs q1).1;subst hxx;have hld:(loadCells o' len).run P w = .ok (ns.map (Value.int .u8)).toArray w:=by
       by_cases hl0:len=0
       ·subst hl0;have:xs'=[]:=zE9.1 (by omega);rw [← n1,this];simp [loadCells,loadCellsFrom]
       ·have ho':o'=⟨L.blk,L.sh+o,none⟩:=by
         rcases ho with ho|⟨h0,-⟩
         ·exact ho
         ·omega
        subst ho';rw [← n1];exact jY q2 q3
      refine ⟨.string ⟨bs.toArray⟩,?_,.string _⟩;simp only [convert,zA5,run_underlying h1,run_underlying h2,run_underlying h3,zA1];rw [run_bytesToString w _ len _ ns hld,foldl_push_bytes,n2];congr 2
      apply ByteArray.ext
      simp
     ·cases hc
    ·cases hc
   ·cases hc
  ·cases hc
 ·cases hc
theorem VO [Glob] {B:Bs} {f:Emb} {h:AH} {w:World} (r:Rel B f h w) {s d:TypeId} {x x' v:Value} (hc:jb P s d x h=some v) (hx:VR f x x') :
 ∃ v',(convert s d x').run P w = .ok v' w∧VR f v v':=by
 unfold jb at hc;split at hc
 ·rename_i t b o h1 h2
  obtain ⟨L,hL,rfl⟩:=hx.zM;split at hc
  ·rename_i c e slk ro n hg hs
   split at hc
   ·rename_i hlt
    cases hc
    obtain ⟨cc,fr,hh,hsz,-⟩:=r.obj b L _ hL hg;rw [Nat.blt_eq] at hlt;have hsh:w.shape? L.blk=some (e,cc.size):=by simp [World.shape?,hh]
    refine ⟨_,?_,.pointer b o L hL⟩;have hseen:(Conv.seenAt ⟨L.blk,L.sh+o,none⟩).run P w = .ok ⟨L.blk,L.sh+o,none⟩ w:=by
     simp [Conv.seenAt,viewAt,zA5,run_shape,hsh]
    have hcells:(cellsIn L.blk).run P w = .ok (some cc.size) w:=by
     simp [cellsIn,zA5,run_shape,hsh]
    have hno:¬ (cc.size≤L.sh+o):=by omega
    simp only [convert,zA5,run_underlying h1,run_underlying h2,zA1,Conv.unsafePointer,hseen,hcells,zA hs];simp [hno]
   ·cases hc
  ·cases hc
 ·rename_i u b o h1 h2
  obtain ⟨L,hL,rfl⟩:=hx.zM;split at hc
  ·rename_i c e n hg hs
   split at hc
   ·rename_i hli
    cases hc
    obtain ⟨cc,fr,hh,hsz,-,hx1,-⟩:=r.obj b L _ hL hg;obtain ⟨-,hx2⟩:=hx1 rfl;obtain ⟨h3,h4⟩:=hx2 rfl;have hsh:w.shape? L.blk=some (e,cc.size):=by simp [World.shape?,hh]
    refine ⟨_,?_,.pointer b o L hL⟩;have hseen:(Conv.seenAt ⟨L.blk,L.sh+o,none⟩).run P w = .ok ⟨L.blk,L.sh+o,none⟩ w:=by
     simp [Conv.seenAt,viewAt,zA5,run_shape,hsh]
    have hva:(variablesAt ⟨L.blk,L.sh+o,none⟩ u 1).run P w = .ok true w:=by
     have:L.sh+o=o:=by omega
     simp [variablesAt,zA5,run_shape,hsh,this,h4,hli]
    simp only [convert,zA5,run_underlying h1,run_underlying h2,zA1,Conv.unsafePointer,hseen,hva,zA hs];simp
   ·cases hc
  ·cases hc
 ·cases hc
theorem VP {f:Emb} {w:World} {ts:Array TypeId} {ty:TypeId} {x x' v:Value} (hc:JS x=some v) (hx:VR f x x') :
 ∃ v',(Builtin.unsafeSliceData_ ts ty #[x']).run P w = .ok v' w∧VR f v v':=by
 unfold JS at hc;split at hc
 ·cases hc;cases hx
  exact ⟨_,Lib.run_unsafeSliceData_nil w ts ty 0 0,.nilPointer⟩
 ·rename_i b o n cap
  cases hc
  obtain ⟨L,o',hL,rfl,hlc,ho⟩:=hx.jm;have ho':o'=⟨L.blk,L.sh+o,none⟩:=by
   rcases ho with ho|⟨h0,-⟩
   ·exact ho
   ·omega
  subst ho';exact ⟨_,Lib.run_unsafeSliceData_row w ts ty _ _ _ (by omega),.pointer b o L hL⟩
 ·cases hc
theorem Pz {e:TypeId} (hc:P.cellsOf e=1) (count off n:Nat) (hn:off+n≤count):liesAt P P.depth e count off e n=true:=by
 have hd:P.depth=(2*(P.types.size+Made.depth)+1)+1:=rfl;rw [hd];simp only [liesAt,zG8];left
 rw [hd];simp [rowAt,hc,hn,sameLayout]
 omega
theorem KU {w:World} {b o n:Nat} {cc:Array Value} {e:TypeId} {fr:Nat×Nat} (hb:w.heap[b]? = some (.cells cc e fr)):∃ fr',Wrote w (w.freeze ⟨b,o,none⟩ n) b (.cells cc e fr'):=by
 obtain ⟨lo,hi⟩:=fr;unfold World.freeze;split
 ·exact ⟨(lo,hi),Wrote.same hb⟩
 ·have hlt:b<w.heap.size:=(zB9.1 hb).1;have hv:w.heap[b] = .cells cc e (lo,hi):=(zB9.1 hb).2;refine ⟨if lo == hi then (o,o+n) else (min lo o,max hi (o+n)),?_,fun j hj=>?_,?_,rfl,rfl,rfl⟩
  ·rw [zE2 (by simpa using hlt),Array.getElem_modify];simp [hv]
  ·simp [Array.getElem?_modify,Ne.symm hj]
  ·simp
theorem YT {w:World}:∀ (xs:List Int) (b o:Nat) (acc:ByteArray),(∀ (j:Nat) x,xs[j]? = some x→w.cell? ⟨b,o+j,none⟩=some (.int .u8 x)) →
 (loadBytes ⟨b,o,none⟩ acc xs.length).run P w = .ok ⟨acc.data ++ (xs.map fun n=>UInt8.ofNat n.toNat).toArray⟩ w
 | [],b,o,acc,_=>by simp [loadBytes]
 | x :: l,b,o,acc,h=>by
  have h0:w.cell? ⟨b,o,none⟩=some (.int .u8 x):=h 0 x rfl;have ih:=YT l b (o+1) (acc.push (UInt8.ofNat x.toNat)) (fun j y hy=>by
   rw [show o+1+j=o+(j+1) by omega];exact h (j+1) y (by simpa using hy))
  have hx:x.toNat.toUInt8=UInt8.ofNat x.toNat:=rfl;simp only [zC4,loadBytes,zA5,run_load,h0,Result.andThen,hx,jI];rw [ih];congr 1
  apply ByteArray.ext
  simp [ByteArray.push]
theorem qeS (ts:Array TypeId) (ty:TypeId) (len:Value):Builtin.unsafeString_ ts ty #[.pointer none,len]=(do
 let n ← asInt len
 let some pt:=ts[0]?|stuck "unsafe.String: no argument types"
 if n<0 then runtimePanic (.error "unsafe.String: len out of range")
 if n > IntKind.i64.max then unsupported (.unsafePointer "String: a length above the largest int")
 if n=0 then pure (.string .empty)
 else runtimePanic (.error "unsafe.String: ptr is nil and len is not zero")):=rfl
theorem qbp (ts:Array TypeId) (ty:TypeId) (a:Addr) (len:Value):Builtin.unsafeString_ ts ty #[.pointer (some a),len]=(do
 let n ← asInt len
 let some pt:=ts[0]?|stuck "unsafe.String: no argument types"
 if n<0 then runtimePanic (.error "unsafe.String: len out of range")
 if n > IntKind.i64.max then unsupported (.unsafePointer "String: a length above the largest int")
 if n=0 then pure (.string .empty)
 else if ← variablesAt a (← elemOf pt) n.toNat then do
  let s ← loadBytes a .empty n.toNat
  freeze a n.toNat
  pure (.string s)
 else unsupported (.unsafePointer "String: not so many bytes at ptr")):=rfl
theorem X4 [Glob] {B:Bs} {f:Emb} {h h':AH} {w:World} (r:Rel B f h w) {types:List TypeId} {ty:TypeId} {p p' n n' v:Value} (hc:Qs P types p n h=some (v,h')) (hp:VR f p p') (hn:VR f n n') :
 ∃ v' w',(Builtin.unsafeString_ types.toArray ty #[p',n']).run P w = .ok v' w'∧Rel B f h' w'∧Turn f h w f h' w'∧VR f v v':=by
 have hmax:IntKind.i64.max=9223372036854775807:=by decide
 unfold Qs at hc;split at hc
 ·cases hp;cases hn
  split at hc
  rotate_left
  ·cases hc
  rename_i pt rest
  have e1:((pt :: rest).toArray)[0]? = some pt:=by simp
  cases hc
  refine ⟨_,w,?_,r,Turn.refl _ _ _,.string _⟩;rw [qeS];simp only [zA5,asInt,asIntOf,zB1,zA1,e1,hmax];rw [if_neg (by decide),if_neg (by decide),if_pos trivial];rfl
 ·rename_i b o kk k
  obtain ⟨L,hL,rfl⟩:=hp.zM;cases hn
  split at hc
  rotate_left
  ·cases hc
  rename_i pt rest
  have e1:((pt :: rest).toArray)[0]? = some pt:=by simp
  split at hc
  rotate_left
  ·cases hc
  rename_i e hu
  split at hc
  rotate_left
  ·cases hc
  rename_i c eb slk hg hue hse
  split at hc
  rotate_left
  ·cases hc
  rename_i xs hq hxs
  simp only [zA8] at hq;obtain rfl:=zA6 hq.1;have hk:=zB6 hq.2;split at hc
  rotate_left
  ·cases hc
  rename_i bs hbs
  have hO:=r.obj b L _ hL hg;obtain ⟨xs',q1,q2,q3⟩:=hO.seg hxs;obtain ⟨ns,n1,n2⟩:=bytesOf?_ints hbs;have hxx:=(bytesOf?_VRs hbs q1).1;subst hxx;obtain ⟨cc,fr,h1,h2,h3,h4,h5,h6⟩:=hO;have hnn:¬ ((Int.ofNat k)<0):=by have:=Int.natCast_nonneg k;exact Int.not_lt.2 this
  have hnm:¬ ((Int.ofNat k) > 9223372036854775807):=by
   intro q;have q:(9223372036854775807:Int)<(k:Int):=q;omega
  split at hc
  ·cases hc
   refine ⟨_,w,?_,r,Turn.refl _ _ _,.string _⟩;rw [qbp];simp only [zA5,asInt,asIntOf,zB1,zA1,e1,hmax];rw [if_neg (by decide),if_neg (by decide),if_pos (by decide)];rfl
  ·rename_i hk0
   have hk0:k≠0:=fun q=>hk0 (by subst q;rfl);cases hc
   have hxlen:xs'.length=k:=q2;have hbl:bs.length=k:=by rw [(bytesOf?_VRs hbs q1).2,q2]
   have hc1:P.cellsOf eb=1:=by
    unfold zI at hse;unfold Program.cellsOf;cases hi:P.info? eb with
    | none=>rw [hi] at hse;cases hse
    | some i=>rw [hi] at hse;simp only [Option.some.injEq] at hse;simp [hse]
   have hnsl:ns.length=k:=by rw [← q2,n1,zC5]
   have hcells:∀ (j:Nat) x,ns[j]? = some x→w.cell? ⟨L.blk,L.sh+o+j,none⟩=some (.int .u8 x):=by
    intro j x hj;exact q3 j _ (by rw [n1,zH8,hj];rfl)
   have hlb:=YT (P:=P) ns L.blk (L.sh+o) .empty hcells;have hrange:L.sh+o+k≤cc.size:=by
    rcases (Jg hxs).2.2 with h|h
    ·omega
    ·omega
   have hlies:=Pz (P:=P) hc1 (cc.size / P.cellsOf eb) (L.sh+o) k (by rw [hc1,Nat.div_one];exact hrange);obtain ⟨fr',hwr⟩:=KU (o:=L.sh+o) (n:=k) h1;obtain ⟨r1,r2⟩:=r.put hL hg rfl hwr (o':=.cells c eb slk true) ⟨cc,fr',hwr.here,h2,h3,(fun q=>⟨(h4 q).1,fun q=>by cases q⟩),h5,fun q=>by cases q⟩ (fun _=>rfl);refine ⟨_,_,?_,r1,r2,.string ⟨bs.toArray⟩⟩;have hkz:¬ (Int.ofNat k=0):=fun q=>hk0 (Int.ofNat.inj q);have htn:(Int.ofNat k).toNat=k:=rfl;rw [hnsl,n2] at hlb;rw [qbp];simp only [zA5,asInt,asIntOf,zB1,zA1,e1,hmax];rw [if_neg hnn,if_neg hnm,if_neg hkz];simp only [zA5,elemOf,run_underlying hu,zB1,zA1,variablesAt,run_program,run_shape,World.shape?,h1,htn,hlies,if_true,hlb,run_freeze];congr 2
   apply ByteArray.ext
   simp
 ·cases hc
end
end Go.Proofs.Xx
namespace Go.Proofs.Xx
open Go
section
variable {P:Program}
def Gz [Glob] (P:Program) (B:Bs) (f:Emb) (h:AH) (w:World) (s:Sem Next):J4→Prop
 | .val v h'=>∃ f' v' w',s.run P w = .ok (.value v') w'∧Rel B f' h' w'∧Turn f h w f' h' w'∧VR f' v v'
 | .skip h'=>∃ w',s.run P w = .ok .skip w'∧Rel B f h' w'∧Turn f h w f h' w'
 | .call g args=>∃ args':List Value,s.run P w=(callFunc g args'.toArray).run P w∧VRs f args args'
 | .yield l args=>∃ (L:Loc) (args':List Value),f l=some L∧s.run P w=(Instr.yield L.blk args'.toArray).run P w∧VRs f args args'
theorem zq [Glob] {B:Bs} {f:Emb} {h:AH} {w:World} {s:Sem Value} {o:Option Value} {n:J4} (r:Rel B f h w) (hn:qM o h=some n)
 (hs:∀ v,o=some v→∃ v',s.run P w = .ok v' w∧VR f v v'):Gz P B f h w (do pure (.value (← s))) n:=by
 unfold qM at hn;split at hn
 ·rename_i v
  cases hn
  obtain ⟨v',q1,q2⟩:=hs v rfl;exact ⟨f,v',w,by simp only [zA5,q1,zA1];rfl,r,Turn.refl _ _ _,q2⟩
 ·cases hn
theorem Qe [Glob] {B:Bs} {f:Emb} {h:AH} {w:World} {s:Sem Value} {o:Option (Value×AH)} {n:J4} (hn:Qa o=some n)
 (hs:∀ v h',o=some (v,h')→∃ f' v' w',s.run P w = .ok v' w'∧Rel B f' h' w'∧Turn f h w f' h' w'∧VR f' v v'):Gz P B f h w (do pure (.value (← s))) n:=by
 unfold Qa at hn;split at hn
 ·rename_i v h'
  cases hn
  obtain ⟨f',v',w',q1,q2,q3,q4⟩:=hs v h' rfl;exact ⟨f',v',w',by simp only [zA5,q1,zA1];rfl,q2,q3,q4⟩
 ·cases hn
theorem VRs.cons_inv {f:Emb} {v:Value} {r c:List Value} (h:VRs f (v :: r) c):∃ v' r',c=v' :: r'∧VR f v v'∧VRs f r r':=by
 cases h with
 | cons _ v' _ r' hv hr=>exact ⟨v',r',rfl,hv,hr⟩
theorem VRs.jB {f:Emb} {c:List Value} (h:VRs f [] c):c=[]:=by cases h;rfl
theorem qac [Glob] {B:Bs} {f:Emb} {h h':AH} {w:World} (r:Rel B f h w) {t ty:TypeId} {ts:List TypeId} {d d' x x' v:Value}
 (ha:qeJ P t d x h=some (v,h')) (hd:VR f d d') (hx:VR f x x') :
 ∃ f' v' w',(Builtin.copy_ (t :: ts).toArray ty #[d',x']).run P w = .ok v' w'∧Rel B f' h' w'∧Turn f h w f' h' w'∧VR f' v v':=by
 unfold qeJ at ha;split at ha
 rotate_left
 ·cases ha
 rename_i e he
 have hu:=QH he;split at ha
 rotate_left
 ·cases ha
 rename_i z hz
 obtain ⟨i,zv,hi,hzv,hzl,hsz,hz0,hpl⟩:=jw hz;split at ha
 rotate_left
 ·cases ha
 rename_i b o len cap b2 o2 n2 c2
 split at ha
 rotate_left
 ·cases ha
 rename_i hcond
 simp only [zA8] at hcond;have hl1:=zB6 hcond.1;have hn1:=zB6 hcond.2.1;have hn2:=zB6 hcond.2.2;split at ha
 rotate_left
 ·cases ha
 rename_i n new c eb slk hsrc hg
 split at ha
 rotate_left
 ·cases ha
 rename_i h2 hput
 cases ha
 obtain ⟨L,o',hL,rfl,hlc,ho⟩:=hd.jm;obtain ⟨L2,o2',hL2,rfl,hlc2,ho2⟩:=hx.jm;have hmin:Nat.min n2 len≤n2:=Nat.min_le_left _ _;obtain ⟨new',k1,-,k3⟩:=Ye (P:=P) r hsrc (.slice b2 o2 o2' (Nat.min n2 len) c2 L2 hL2 (by omega) ho2);obtain ⟨w',q1,q2,q3⟩:=QI (P:=P) r hL hg hput k1;have ho':o'=⟨L.blk,L.sh+o,none⟩:=by
  rcases ho with ho|⟨h0,-⟩
  ·exact ho
  ·omega
 subst ho';have hfn:n=Nat.min n2 len:=by
  unfold Q9 at hsrc;simp only at hsrc;split at hsrc
  ·split at hsrc
   ·cases hsrc;rfl
   ·cases hsrc
  ·cases hsrc
 subst hfn;have k4:=k3 w rfl;simp only [Builtin.firstCells] at k4;refine ⟨f,.int .i64 ((Nat.min n2 len:Nat):Int),w',?_,q2,q3,.int _ _⟩;rw [show (List.toArray (t :: ts))=(t :: ts).toArray from rfl];simp [Builtin.copy_,run_underlying hu,Builtin.lenOf,Builtin.firstCells,sizeOf,typeInfo,hi,hsz,k4,q1]
 try rfl
theorem yX [Glob] {B:Bs} {f:Emb} {h:AH} {w:World} (r:Rel B f h w) {b:Builtin} {types:List TypeId} {ty:TypeId} {consts:Array Bool} {args args':List Value} {n:J4} (hb:jk P b types args h=some n) (ha:VRs f args args') :
 Gz P B f h w (builtin b types.toArray ty consts args'.toArray) n:=by
 unfold jk at hb;split at hb
 ·rename_i t ts x rest
  obtain ⟨x',r',rfl,hx,hr⟩:=ha.cons_inv;exact zq r hb fun v hv=>qbh hv hx r'
 ·rename_i t ts x rest
  obtain ⟨x',r',rfl,hx,hr⟩:=ha.cons_inv;exact zq r hb fun v hv=>qbk hv hx r'
 ·rename_i s x
  obtain ⟨s',r',rfl,hs,hr⟩:=ha.cons_inv;obtain ⟨x',r'',rfl,hx,hr'⟩:=hr.cons_inv;have:=hr'.jB;subst this;exact Qe hb fun v h' hv=>wz r hv hs hx
 ·rename_i t ts s x
  obtain ⟨s',r',rfl,hs,hr⟩:=ha.cons_inv;obtain ⟨x',r'',rfl,hx,hr'⟩:=hr.cons_inv;have:=hr'.jB;subst this;exact Qe hb fun v h' hv=>qac (ts:=ts) r hv hs hx
 ·rename_i x rest
  obtain ⟨x',r',rfl,hx,hr⟩:=ha.cons_inv;refine zq r hb fun v hv=>?_;obtain ⟨v',q1,q2⟩:=Xq (P:=P) (w:=w) (fun a a' b b' u hu h1 h2=>KF hu h1 h2) hv hx hr;exact ⟨v',by simpa [Builtin.min_] using q1,q2⟩
 ·rename_i x rest
  obtain ⟨x',r',rfl,hx,hr⟩:=ha.cons_inv;refine zq r hb fun v hv=>?_;obtain ⟨v',q1,q2⟩:=Xq (P:=P) (w:=w) (fun a a' b b' u hu h1 h2=>vW hu h1 h2) hv hx hr;exact ⟨v',by simpa [Builtin.max_] using q1,q2⟩
 ·rename_i t ts x rest
  obtain ⟨x',r',rfl,hx,hr⟩:=ha.cons_inv;split at hb
  ·rename_i h' hc
   cases hb
   obtain ⟨w',q1,q2,q3⟩:=Gw (ts:=ts) (ty:=ty) (rs:=r') r hc hx;exact ⟨f,.tuple #[],w',by simp only [builtin,zA5,q1,zA1];rfl,q2,q3,VR.tuple [] [] .nil⟩
  ·cases hb
 ·rename_i x
  obtain ⟨x',r',rfl,hx,hr⟩:=ha.cons_inv;have:=hr.jB;subst this;exact zq r hb fun v hv=>VP hv hx
 ·rename_i p m
  obtain ⟨p',r',rfl,hp,hr⟩:=ha.cons_inv;obtain ⟨m',r'',rfl,hm,hr'⟩:=hr.cons_inv;have:=hr'.jB;subst this;refine Qe hb fun v h' hv=>?_;obtain ⟨v',w',q⟩:=X4 (ty:=ty) r hv hp hm;exact ⟨f,v',w',q⟩
 ·cases hb
theorem pG {f:Emb} {op:BinOp} {t:TypeId} {x y:Operand} {a a' b b' v:Value} {w:World} (h:jP P op t a b=some v) (ha:VR f a a') (hb:VR f b b'):(eqGuard op t x y a' b').run P w = .ok () w:=by
 unfold jP at h;split at h
 ·cases ha;cases hb
  unfold eqGuard;cases op<;>rfl
 ·cases ha;cases hb
  unfold eqGuard;cases op<;>rfl
 ·cases ha;cases hb
  unfold eqGuard;cases op<;>rfl
 ·cases hb
  cases ha with
  | nilSlice=>unfold eqGuard;cases op<;>rfl
  | slice=>unfold eqGuard;cases op<;>rfl
 ·cases hb
  cases ha with
  | nilPointer=>unfold eqGuard;cases op<;>rfl
  | pointer=>unfold eqGuard;cases op<;>rfl
 ·cases ha;cases hb
  unfold eqGuard;cases op<;>rfl
 ·obtain ⟨a',rfl,-⟩:=ha.XX;obtain ⟨b',rfl,-⟩:=hb.XX;split at h
  ·split at h
   ·rename_i hp
    obtain ⟨fs,f,g,-,-,-,-,-,-,-,-,-,-,-,hg⟩:=Pi hp;exact run_eqGuard_agg w _ _ _ _ _ _ hg
   ·cases h
  ·split at h
   ·rename_i hq
    exact run_eqGuard_agg w _ _ _ _ _ _ (Y1 hq)
   ·cases h
  ·split at h
   ·rename_i hq
    exact run_eqGuard_agg w _ _ _ _ _ _ (Y1 hq)
   ·cases h
  ·cases h
 ·cases hb
  cases ha with
  | nilMap=>unfold eqGuard;cases op<;>rfl
  | map=>unfold eqGuard;cases op<;>rfl
 ·cases h
theorem XY [Glob] {B:Bs} {f:Emb} {h:AH} {w:World} (r:Rel B f h w) {sz:Nat} {t:Tr Value} {tm:Array Value} (T:TR f sz t tm) {o:Oper} {n:J4} (hop:zX P t h o.op=some n) :
 Gz P B f h w (execOp (J7 tm) o) n:=by
 obtain ⟨dst,op,type,pos,after,guard⟩:=o;simp only at hop;unfold execOp;simp only;cases op<;>simp only [zX] at hop<;>dsimp only
 case move x =>
  unfold qM at hop;split at hop
  ·rename_i v hv
   cases hop
   exact ⟨f,_,w,(by first|rfl|(rw [zA5];rfl)),r,Turn.refl _ _ _,qC T hv⟩
  ·cases hop
 case assign x =>
  unfold qM at hop;split at hop
  ·rename_i v hv
   cases hop
   exact ⟨f,_,w,(by first|rfl|(rw [zA5];rfl)),r,Turn.refl _ _ _,qC T hv⟩
  ·cases hop
 case pick c a b =>
  split at hop
  ·rename_i hc
   have:=qC T hc;generalize hq:J7 tm c=c' at this
   cases this
   unfold qM at hop;split at hop
   ·rename_i v hv
    cases hop
    exact ⟨f,_,w,(by first|rfl|(rw [zA5];rfl)),r,Turn.refl _ _ _,qC T hv⟩
   ·cases hop
  ·rename_i hc
   have:=qC T hc;generalize hq:J7 tm c=c' at this
   cases this
   unfold qM at hop;split at hop
   ·rename_i v hv
    cases hop
    exact ⟨f,_,w,(by first|rfl|(rw [zA5];rfl)),r,Turn.refl _ _ _,qC T hv⟩
   ·cases hop
  ·cases hop
 case alloc e =>
  split at hop
  ·rename_i z hz
   split at hop
   ·rename_i hpl
    cases hop
    obtain ⟨f',w',q1,q2,q3,q4⟩:=YW (P:=P) r e (VR.plain f z hpl);refine ⟨f',_,w',?_,q2,q3,q4⟩;simp only [Instr.alloc,zA5,wO hz,zA1,q1,zB1]
   ·cases hop
  ·cases hop
 case box e x =>
  split at hop
  ·rename_i v hv
   cases hop
   obtain ⟨f',w',q1,q2,q3,q4⟩:=YW (P:=P) r e (qC T hv);refine ⟨f',_,w',?_,q2,q3,q4⟩;simp only [Instr.box,zA5,zA1,q1,zB1]
  ·cases hop
 case build ty ps =>
  split at hop
  ·rename_i vs hvs
   refine zq r hop fun v hv=>?_;obtain ⟨v',q1,q2⟩:=Gx (w:=w) hv (Q5 T hvs);refine ⟨v',?_,q2⟩;rw [← q1];congr 2
   apply Array.ext'
   simp
  ·cases hop
 case buildSlice ty m ps =>
  split at hop
  ·rename_i vs hvs
   refine Qe hop fun v h' hv=>?_;obtain ⟨f',v',w',q1,q2⟩:=Ve r hv (Q5 T hvs);refine ⟨f',v',w',?_,q2⟩;rw [← q1];congr 2
   apply Array.ext'
   simp
  ·cases hop
 case load ty a =>
  split at hop
  ·rename_i v hv
   exact zq r hop fun u hu=>Wy r hu (qC T hv)
  ·cases hop
 case store ty a x =>
  split at hop
  ·rename_i p v hp hv
   split at hop
   ·rename_i h' hh
    cases hop
    obtain ⟨w',q1,q2⟩:=Gl (P:=P) r hh (qC T hp) (qC T hv);exact ⟨w',by simp only [zA5,q1,zA1];rfl,q2⟩
   ·cases hop
  ·cases hop
 case nilCheck x =>
  split at hop
  ·rename_i a hv
   cases hop
   have:=qC T hv;generalize hq:J7 tm x=x' at this
   have h2:=this;cases this with
   | pointer b o L hb=>exact ⟨f,_,w,rfl,r,Turn.refl _ _ _,h2⟩
  ·cases hop
 case binOp bop ty x y ty2 =>
  split at hop
  ·rename_i a b ha hb
   refine zq r hop fun u hu=>?_;obtain ⟨v',q1,q2⟩:=qbm (w:=w) hu (qC T ha) (qC T hb);exact ⟨v',by simp only [zA5,pG hu (qC T ha) (qC T hb),zA1,q1],q2⟩
  ·cases hop
 case unOp uop ty x =>
  split at hop
  ·rename_i a ha
   exact zq r hop fun u hu=>qcX hu (qC T ha)
  ·cases hop
 case convert s d x =>
  split at hop
  ·rename_i a ha
   split at hop
   ·rename_i v hv
    cases hop
    obtain ⟨v',q1,q2⟩:=yU (w:=w) hv (qC T ha);exact ⟨f,v',w,by simp only [zA5,q1,zA1];rfl,r,Turn.refl _ _ _,q2⟩
   ·split at hop
    ·rename_i v hv
     cases hop
     obtain ⟨v',q1,q2⟩:=WL r hv (qC T ha);exact ⟨f,v',w,by simp only [zA5,q1,zA1];rfl,r,Turn.refl _ _ _,q2⟩
    ·exact zq r hop fun u hu=>VO r hu (qC T ha)
  ·cases hop
 case makeFunc fn first captured =>
  cases fn<;>simp only at hop
  case func g =>
   split at hop
   ·rename_i a b ha hb
    cases hop
    have h1:=ZX T ha;have h2:=ZX T hb;refine ⟨f,_,w,rfl,r,Turn.refl _ _ _,?_⟩;have e1:first.map (J7 tm)=((first.toList).map (J7 tm)).toArray:=by apply Array.ext';simp
    have e2:captured.map (J7 tm)=((captured.toList).map (J7 tm)).toArray:=by apply Array.ext';simp
    rw [e1,e2];exact .func g _ _ _ _ h1 h2
   ·cases hop
  all_goals cases hop
 case makeSlice ty l c =>
  split at hop
  ·rename_i a b ha hb
   exact Qe hop fun v h' hv=>VS r hv (qC T ha) (qC T hb)
  ·cases hop
 case makeMap ty rs =>
  cases rs with
  | none =>
   exact Qe hop fun v h' hv=>by
    cases hv
    obtain ⟨f',v',w',q1,q2,q3,q4⟩:=yR (P:=P) r ty;exact ⟨f',v',w',q1,q2,q3,q4⟩
  | some _=>cases hop
 case lookup ty m k ok =>
  split at hop
  ·rename_i a b ha hb
   exact zq r hop fun u hu=>ww r hu (qC T ha) (qC T hb)
  ·cases hop
 case mapUpdate ty m k x =>
  split at hop
  ·rename_i a b c ha hb hc
   split at hop
   ·rename_i h' hh
    cases hop
    obtain ⟨w',q1,q2⟩:=Jr (P:=P) r hh (qC T ha) (qC T hb) (qC T hc);exact ⟨w',by simp only [zA5,q1,zA1];rfl,q2⟩
   ·cases hop
  ·cases hop
 case insert ty m k x =>
  split at hop
  ·rename_i a b c ha hb hc
   split at hop
   ·rename_i h' hh
    cases hop
    obtain ⟨w',q1,q2⟩:=Jr (P:=P) r hh (qC T ha) (qC T hb) (qC T hc);exact ⟨w',by simp only [zA5,q1,zA1];rfl,q2⟩
   ·cases hop
  ·cases hop
 case mapEntry ty m k =>
  split at hop
  ·rename_i a b ha hb
   exact Qe hop fun v h' hv=>WM r hv (qC T ha) (qC T hb)
  ·cases hop
 case entryStore ty m s x =>
  split at hop
  ·rename_i a b c ha hb hc
   split at hop
   ·rename_i h' hh
    cases hop
    obtain ⟨w',q1,q2⟩:=Vd (P:=P) (t:=ty) r hh (qC T ha) (qC T hb) (qC T hc);exact ⟨w',by simp only [zA5,q1,zA1];rfl,q2⟩
   ·cases hop
  ·cases hop
 case slice ty x lo hi mx =>
  split at hop
  ·rename_i a l rr m ha hl hr hm
   split at hop
   ·rename_i q hq
    exact Qe (o:=some q) hop fun v h' hv=>by
     cases hv
     exact wu r hq (qC T ha) (QE T hl) (QE T hr) (QE T hm)
   ·exact zq r hop fun u hu=>Gm r hu (qC T ha) (QE T hl) (QE T hr) (QE T hm)
  ·cases hop
 case fieldAddr s x k =>
  split at hop
  ·rename_i a ha
   exact zq r hop fun u hu=>VV hu (qC T ha)
  ·cases hop
 case field s x k =>
  split at hop
  ·rename_i a ha
   exact zq r hop fun u hu=>Gv hu (qC T ha)
  ·cases hop
 case indexAddr ty x i =>
  split at hop
  ·rename_i a k ha hk
   exact zq r hop fun u hu=>VT hu (qC T ha) (qC T hk)
  ·cases hop
 case index ty x i =>
  split at hop
  ·rename_i a k ha hk
   exact zq r hop fun u hu=>Gq hu (qC T ha) (qC T hk)
  ·cases hop
 case extract x k =>
  split at hop
  ·rename_i vs ha
   obtain ⟨vs',e,hvs⟩:=(qC T ha).wB;refine zq r hop fun u hu=>?_;obtain ⟨u',q1,q2⟩:=hvs.get _ _ hu;refine ⟨u',?_,q2⟩;rw [zC1] at q1;simp only [e,Instr.extract,q1];rfl
  ·cases hop
 case call c =>
  obtain ⟨callee,args,argTypes⟩:=c;simp only at hop;split at hop
  rotate_left
  ·cases hop
  rename_i vs hvs
  have hargs:=ZX T hvs;have e1:args.map (J7 tm)=((args.toList).map (J7 tm)).toArray:=by apply Array.ext';simp
  split at hop
  ·rename_i b
   have:=yX (ty:=type) (consts:=args.map fun|.const _=>true | _=>false) r hop hargs;rw [← e1,show argTypes.toList.toArray=argTypes by simp] at this;exact this
  ·rename_i g
   split at hop
   ·rename_i fn first captured hf
    cases hop
    obtain ⟨a',c',e,h1,h2⟩:=(qC T hf).PN;refine ⟨a'.toList ++ ((args.toList).map (J7 tm) ++ c'.toList),?_,h1.append (hargs.append h2)⟩;simp only [zA5,resolve,e,Deferred.ofValue,zB1,zA1,invoke];congr 2
    apply Array.ext'
    simp
   ·rename_i l first captured hf
    split at hop
    rotate_left
    ·cases hop
    rename_i z1 z2
    have y1:first=#[]:=Array.ext' z1
    have y2:captured=#[]:=Array.ext' z2;subst y1;subst y2;cases hop
    obtain ⟨L,hL,e⟩:=(qC T hf).qbX;refine ⟨L,_,hL,?_,hargs⟩;simp only [zA5,resolve,e,Deferred.ofValue,zB1,zA1,invoke];congr 2
    apply Array.ext'
    simp
   ·cases hop
  ·cases hop
 all_goals cases hop
end
end Go.Proofs.Xx
namespace Go.Proofs.Xx
open Go
def fr (fn:FuncId) (ro:Option Nat) (tm:Array Value) (todo:List Item) (ds:List Deferred):Frame :=
 { fn:=fn,tmps:=tm,todo:=todo,defers:=ds,mode:=.run,kind:=.normal,roundOf:=ro }
theorem JL (fn:FuncId) (ro:Option Nat) (tm:Array Value) (todo:List Item) (ds:List Deferred):(fr fn ro tm todo ds).eval=J7 tm:=by
 funext o;cases o<;>rfl
section
variable {P:Program} {fn:FuncId} {ro:Option Nat} {tm:Array Value} {k:List Item} {ds:List Deferred} {cs:List Frame} {w:World}
theorem qeW:step P (lone (fr fn ro tm (.code .skip :: k) ds) cs w) = .next (lone (fr fn ro tm k ds) cs w):=step_lone_go (by simp [stepG,stepG.exec,fr])
theorem qdp {l:Nat}:step P (lone (fr fn ro tm (.code (.label l) :: k) ds) cs w) = .next (lone (fr fn ro tm k ds) cs w):=step_lone_go (by simp [stepG,stepG.exec,fr])
theorem qay {id:Nat}:step P (lone (fr fn ro tm (.inBlock id :: k) ds) cs w) = .next (lone (fr fn ro tm k ds) cs w):=step_lone_go (by simp [stepG,stepG.exec,fr])
theorem qax {c:Code}:step P (lone (fr fn ro tm (.inScope c :: k) ds) cs w) = .next (lone (fr fn ro tm k ds) cs w):=step_lone_go (by simp [stepG,stepG.exec,fr])
theorem qav {x y:Code}:step P (lone (fr fn ro tm (.code (.seq x y) :: k) ds) cs w) = .next (lone (fr fn ro tm (.code x :: .code y :: k) ds) cs w):=step_lone_go (by simp [stepG,stepG.exec,fr])
theorem qbs {c:Operand} {x y:Code} {b:Bool} (h:J7 tm c = .bool b):step P (lone (fr fn ro tm (.code (.cond c x y) :: k) ds) cs w) = .next (lone (fr fn ro tm (.code (if b then x else y) :: k) ds) cs w) :=
 step_lone_go (by
  have:=congrFun (JL fn ro tm (.code (.cond c x y) :: k) ds) c;simp only [fr] at this;simp [stepG,stepG.exec,fr,this,h])
theorem YN {id:Nat} {c:Code}:step P (lone (fr fn ro tm (.code (.block id c) :: k) ds) cs w) = .next (lone (fr fn ro tm (.code c :: .inBlock id :: k) ds) cs w):=step_lone_go (by simp [stepG,stepG.exec,fr])
theorem XI {c:Code}:step P (lone (fr fn ro tm (.code (.loop c) :: k) ds) cs w) = .next (lone (fr fn ro tm (.code c :: .inLoop c :: k) ds) cs w):=step_lone_go (by simp [stepG,stepG.exec,fr])
theorem qb8 {c:Code}:step P (lone (fr fn ro tm (.inLoop c :: k) ds) cs w) = .next (lone (fr fn ro tm (.code c :: .inLoop c :: k) ds) cs w):=step_lone_go (by simp [stepG,stepG.exec,fr])
theorem xw {c:Code}:step P (lone (fr fn ro tm (.code (.scope c) :: k) ds) cs w) = .next (lone (fr fn ro tm (.code c :: .inScope c :: k) ds) cs w):=step_lone_go (by simp [stepG,stepG.exec,fr])
theorem qeY {id:Nat} {k':List Item} (h:exitTo id k=some k'):step P (lone (fr fn ro tm (.code (.exit id) :: k) ds) cs w) = .next (lone (fr fn ro tm k' ds) cs w):=step_lone_go (by simp [stepG,stepG.exec,fr,h])
theorem qb7 {id:Nat} {ops:Array Oper}:step P (lone (fr fn ro tm (.code (.region id ops false) :: k) ds) cs w) = .next (lone (fr fn ro tm (.inRegion ops (List.range ops.size) :: k) ds) cs w):=step_lone_go (by simp [stepG,stepG.exec,fr])
theorem xx {id:Nat} {ops:Array Oper}:step P (lone (fr fn ro tm (.code (.region id ops true) :: k) ds) cs w) =
 .next (lone (fr fn ro tm (.inRegion ops (Region.schedule (P.follows .mixedOrders) ops (w.tape w.drawn (.order fn id))) :: k) ds) cs { w with drawn:=w.drawn+1 }) :=
 step_lone_go (by simp [stepG,stepG.exec,fr,choose,Sem.run,Question.forced,Question.cut])
theorem X6 {ops:Array Oper}:step P (lone (fr fn ro tm (.inRegion ops [] :: k) ds) cs w) = .next (lone (fr fn ro tm k ds) cs w):=step_lone_go (by simp [stepG,stepG.exec,fr])
def xQ (tm:Array Value) (d:Option Tmp) (v:Value):Array Value:=match d with|some d=>tm.setIfInBounds d v|none=>tm
theorem Jo {ops:Array Oper} {i:Nat} {rest:List Nat} (v:Value):(fr fn ro tm (.inRegion ops (i :: rest) :: k) ds).finish v=fr fn ro (xQ tm ((ops[i]?).bind (·.dst)) v) (.inRegion ops rest :: k) ds:=by
 unfold Frame.finish fr xQ;simp only;cases (ops[i]?).bind (·.dst)<;>rfl
theorem xy {ops:Array Oper} {i:Nat} {rest:List Nat} (h:((ops[i]?).map (Region.wanted · (yielded ops tm))).getD false=false) :
 step P (lone (fr fn ro tm (.inRegion ops (i :: rest) :: k) ds) cs w) = .next (lone (fr fn ro (xQ tm ((ops[i]?).bind (·.dst)) undef) (.inRegion ops rest :: k) ds) cs w):=by
 refine step_lone_go ?_;rw [← Jo];simp [stepG,stepG.exec,fr,h]
def Zw:Op→Bool
 | .defer _=>true
 | _=>false
theorem Xc {ops:Array Oper} {i:Nat} {rest:List Nat} {o:Oper} {v:Value} {w':World} (ho:ops[i]? = some o) (hw:Region.wanted o (yielded ops tm)=true) (hd:Zw o.op=false)
 (hr:(execOp (J7 tm) o).run P w = .ok (.value v) w') :
 step P (lone (fr fn ro tm (.inRegion ops (i :: rest) :: k) ds) cs w) = .next (lone (fr fn ro (xQ tm o.dst v) (.inRegion ops rest :: k) ds) cs w'):=by
 refine step_lone_go ?_;have h1:=Jo (fn:=fn) (ro:=ro) (tm:=tm) (k:=k) (ds:=ds) (ops:=ops) (i:=i) (rest:=rest) v;have h2:=JL fn ro tm (.inRegion ops (i :: rest) :: k) ds;simp only [ho,Option.bind_some] at h1;rw [← h1];simp only [fr] at h2 ⊢;simp only [stepG,stepG.exec,ho,Option.map_some,hw,zH6,if_true,stepG.oper,Frame.oper?];have h3:∀ (x:GStep) (y:Call→GStep),(match ro,o.op with|some l,.defer c=>y c | _,_=>x)=x:=by
  intro x y;cases hop:o.op<;>first|(cases ro<;>rfl)|(rw [hop] at hd;cases hd)
 cases ro with
 | none=>simp [stepG.apply,h2,hr]
 | some l =>
  cases hop:o.op<;>first|(rw [hop] at hd;cases hd;done)|simp [stepG.apply,h2,hr]
end
end Go.Proofs.Xx
namespace Go.Proofs.Xx
open Go
section
variable {P:Program} {fn:FuncId} {ro:Option Nat} {tm:Array Value} {k:List Item} {ds:List Deferred} {cs:List Frame} {w:World}
theorem qaw {ops:Array Oper} {i:Nat} {rest:List Nat} {o:Oper} {w':World} (ho:ops[i]? = some o) (hw:Region.wanted o (yielded ops tm)=true) (hd:Zw o.op=false)
 (hr:(execOp (J7 tm) o).run P w = .ok .skip w') :
 step P (lone (fr fn ro tm (.inRegion ops (i :: rest) :: k) ds) cs w) = .next (lone (fr fn ro (xQ tm o.dst undef) (.inRegion ops rest :: k) ds) cs w'):=by
 refine step_lone_go ?_;have h1:=Jo (fn:=fn) (ro:=ro) (tm:=tm) (k:=k) (ds:=ds) (ops:=ops) (i:=i) (rest:=rest) undef;have h2:=JL fn ro tm (.inRegion ops (i :: rest) :: k) ds;simp only [ho,Option.bind_some] at h1;rw [← h1];simp only [fr] at h2 ⊢;simp only [stepG,stepG.exec,ho,Option.map_some,hw,zH6,if_true,stepG.oper,Frame.oper?];cases ro with
 | none=>simp [stepG.apply,h2,hr]
 | some l =>
  cases hop:o.op<;>first|(rw [hop] at hd;cases hd;done)|simp [stepG.apply,h2,hr]
theorem G7 {ops:Array Oper} {i:Nat} {rest:List Nat} {o:Oper} {w':World} {g:FuncId} {args:Array Value} (ho:ops[i]? = some o) (hw:Region.wanted o (yielded ops tm)=true) (hd:Zw o.op=false)
 (hr:(execOp (J7 tm) o).run P w = .ok (.enter g args) w') :
 step P (lone (fr fn ro tm (.inRegion ops (i :: rest) :: k) ds) cs w) = .next (lone (Frame.enter P g args .normal) (fr fn ro tm (.inRegion ops (i :: rest) :: k) ds :: cs) w'):=by
 refine step_lone_go ?_;have h2:=JL fn ro tm (.inRegion ops (i :: rest) :: k) ds;simp only [fr] at h2 ⊢;simp only [stepG,stepG.exec,ho,Option.map_some,hw,zH6,if_true,stepG.oper,Frame.oper?];cases ro with
 | none=>simp [stepG.apply,h2,hr]
 | some l =>
  cases hop:o.op<;>first|(rw [hop] at hd;cases hd;done)|simp [stepG.apply,h2,hr]
theorem G6 {ops:Array Oper} {i:Nat} {rest:List Nat} {o:Oper} {w':World} {l:Nat} {g:FuncId} {t:Array Value} {asg bo:Code} (ho:ops[i]? = some o) (hw:Region.wanted o (yielded ops tm)=true) (hd:Zw o.op=false)
 (hr:(execOp (J7 tm) o).run P w = .ok (.round l g t asg bo) w') :
 step P (lone (fr fn ro tm (.inRegion ops (i :: rest) :: k) ds) cs w) = .next (lone (fr g (some l) t [.code asg,.beginRound,.code bo] []) (fr fn ro tm (.inRegion ops (i :: rest) :: k) ds :: cs) w'):=by
 refine step_lone_go ?_;have h2:=JL fn ro tm (.inRegion ops (i :: rest) :: k) ds;simp only [fr] at h2 ⊢;simp only [stepG,stepG.exec,ho,Option.map_some,hw,zH6,if_true,stepG.oper,Frame.oper?];cases ro with
 | none=>simp [stepG.apply,h2,hr,Frame.round]
 | some l =>
  cases hop:o.op<;>first|(rw [hop] at hd;cases hd;done)|simp [stepG.apply,h2,hr,Frame.round]
theorem vH {l:Nat} {w':World} (hr:(Instr.beginRound l).run P w = .ok () w') :
 step P (lone (fr fn (some l) tm (.beginRound :: k) ds) cs w) = .next (lone (fr fn (some l) tm k ds) cs w') :=
 step_lone_go (by simp [stepG,stepG.exec,fr,stepG.apply,hr,Frame.finish])
theorem gW {l:Nat} {w':World} {v:Value} {c:Frame} (hr:(Instr.endRound l none).run P w = .ok v w') :
 step P (lone (fr fn (some l) tm [] ds) (c :: cs) w) = .next (lone (c.finish v) cs w') :=
 step_lone_go (by simp [stepG,stepG.exec,fr,hr,doReturn])
theorem gU {l:Nat} {w':World} {v:Value} {c:Frame} (hr:(Instr.endRound l (some .ret)).run P w = .ok v w') :
 step P (lone (fr fn (some l) tm (.code .ret :: k) ds) (c :: cs) w) = .next (lone (c.finish v) cs w') :=
 step_lone_go (by simp [stepG,stepG.exec,fr,hr,doReturn])
theorem vG {l id:Nat} {w':World} {v:Value} {c:Frame} (he:exitTo id k=none) (hr:(Instr.endRound l (some (.exit id))).run P w = .ok v w') :
 step P (lone (fr fn (some l) tm (.code (.exit id) :: k) ds) (c :: cs) w) = .next (lone (c.finish v) cs w') :=
 step_lone_go (by simp [stepG,stepG.exec,fr,he,hr,doReturn])
def gone (fn:FuncId) (tm:Array Value) (todo:List Item) (ds:List Deferred):Frame:={ fn:=fn,tmps:=tm,todo:=todo,defers:=ds,mode:=.returning,kind:=.normal,roundOf:=none }
theorem qdo:step P (lone (fr fn none tm (.code .ret :: k) ds) cs w) = .next (lone (gone fn tm (.code .ret :: k) ds) cs w):=step_lone_go (by simp [stepG,stepG.exec,fr,gone])
theorem qdq:step P (lone (fr fn none tm [] ds) cs w) = .next (lone (gone fn tm [] ds) cs w):=step_lone_go (by simp [stepG,stepG.exec,fr,gone])
theorem qeX {r:Nat} {w':World} (hr:(Instr.takeDeferred r).run P w = .ok [] w'):step P (lone (gone fn tm k ({ target:=.collected r,args:=#[] } :: ds)) cs w) = .next (lone (gone fn tm k ds) cs w') :=
 step_lone_go (by simp [stepG,unwind,gone,hr])
theorem qb6 {c:Frame} {f:Func} {v:Value} {w':World} (hf:P.funcs[fn]? = some f) (hr:(results f tm).run P w = .ok v w'):step P (lone (gone fn tm k []) (c :: cs) w) = .next (lone (c.finish v) cs w') :=
 step_lone_go (by simp [stepG,unwind,gone,hf,hr,doReturn])
theorem gQ {f:Operand} {ps:Array Tmp} {asg bo:Code} {g:FuncId} {first captured args:Array Value} {w1 w2:World} {l r:Nat}
 (he:(Instr.enterLoop fn tm ps asg bo none).run P w = .ok (l,[{ target:=.collected r,args:=#[] }]) w1) (hf:J7 tm f = .func (.func g) first captured)
 (hc:(callFunc g (first ++ #[.func (.yield l) #[] #[]] ++ captured)).run P w1 = .ok (.enter g args) w2) :
 step P (lone (fr fn none tm (.code (.rangeFunc f ps asg bo) :: k) ds) cs w) =
  .next (lone (Frame.enter P g args .normal) (fr fn none tm (.inRangeFunc l :: k) ({ target:=.collected r,args:=#[] } :: ds) :: cs) w2):=by
 refine step_lone_go ?_;have h2:=JL fn none tm (.inRangeFunc l :: k) ({ target:=.collected r,args:=#[] } :: ds);simp only [fr] at h2 ⊢;simp [stepG,stepG.exec,he,stepG.apply,resolve,h2,hf,Deferred.ofValue,invoke]
 have h9:first ++ #[Value.func (.yield l) #[] #[]] ++ captured=first.push (.func (.yield l) #[] #[]) ++ captured:=by apply Array.ext';simp
 rw [h9] at hc;simp [J7,hc]
theorem Yj {f:Operand} {ps:Array Tmp} {asg bo:Code} {g:FuncId} {first captured:Array Value} {v:Value} {w1 w2:World} {l r:Nat}
 (he:(Instr.enterLoop fn tm ps asg bo none).run P w = .ok (l,[{ target:=.collected r,args:=#[] }]) w1) (hf:J7 tm f = .func (.func g) first captured)
 (hc:(callFunc g (first ++ #[.func (.yield l) #[] #[]] ++ captured)).run P w1 = .ok (.value v) w2) :
 step P (lone (fr fn none tm (.code (.rangeFunc f ps asg bo) :: k) ds) cs w) =
  .next (lone (fr fn none tm (.endRangeFunc l :: k) ({ target:=.collected r,args:=#[] } :: ds)) cs w2):=by
 refine step_lone_go ?_;have h2:=JL fn none tm (.inRangeFunc l :: k) ({ target:=.collected r,args:=#[] } :: ds);simp only [fr] at h2 ⊢;simp [stepG,stepG.exec,he,stepG.apply,resolve,h2,hf,Deferred.ofValue,invoke]
 have h9:first ++ #[Value.func (.yield l) #[] #[]] ++ captured=first.push (.func (.yield l) #[] #[]) ++ captured:=by apply Array.ext';simp
 rw [h9] at hc;simp [J7,hc,Frame.finish]
theorem qcZ {l:Nat} (v:Value):(fr fn ro tm (.inRangeFunc l :: k) ds).finish v=fr fn ro tm (.endRangeFunc l :: k) ds:=rfl
theorem Xe {l:Nat} {j:Option Code} {w':World} (hr:(Instr.endLoop l).run P w = .ok j w') :
 step P (lone (fr fn ro tm (.endRangeFunc l :: k) ds) cs w) = .next (lone (fr fn ro tm ((j.map Item.code).toList ++ k) ds) cs w') :=
 step_lone_go (by simp [stepG,stepG.exec,fr,hr])
end
end Go.Proofs.Xx
namespace Go.Proofs.Xx
open Go
section
variable {P:Program}
def CallOk [Glob] (P:Program) (callf:FuncId→List Value→AH→Option (Value×AH)):Prop:=∀ f args h v h',callf f args h=some (v,h')→∀ B e w args',Rel B e h w→VRs e args args' →
 ∃ e' v' w',Rel B e' h' w'∧Turn e h w e' h' w'∧VR e' v v' ∧
  ((
   callFunc f args'.toArray).run P w = .ok (.value v') w' ∨
   ((callFunc f args'.toArray).run P w = .ok (.enter f args'.toArray) w∧∀ c cs,Steps P (lone (Frame.enter P f args'.toArray .normal) (c :: cs) w) (lone (c.finish v') cs w')))
def Yf [Glob] (P:Program) (X:Extern):Prop:=CallOk P X
def XZ [Glob] (P:Program) (yieldf:Nat→List Value→AH→Option (Value×AH)):Prop:=∀ l args h v h',yieldf l args h=some (v,h')→∀ B e w args' L,Rel B e h w→e l=some L→VRs e args args' →
 ∃ e' v' w',Rel B e' h' w'∧Turn e h w e' h' w'∧VR e' v v' ∧
  ∃ g t asg bo,(Instr.yield L.blk args'.toArray).run P w = .ok (.round L.blk g t asg bo) w∧∀ c cs,Steps P (lone (fr g (some L.blk) t [.code asg,.beginRound,.code bo] []) (c :: cs) w) (lone (c.finish v') cs w')
def mark (r:Nat):Deferred:={ target:=.collected r,args:=#[] }
structure Marks (N:Nat) (e:Emb) (w:World) (ds:List Deferred):Prop where
 ex:∃ rs:List Nat,ds=rs.map mark∧rs.Nodup∧∀ r∈rs,N≤r∧w.heap[r]? = some (.deferred (some []))∧∀ b L,e b=some L→L.blk≠r
theorem Marks.nil (N:Nat) (e:Emb) (w:World):Marks N e w []:=⟨[],rfl,.nil,fun _ h=>by cases h⟩
theorem Marks.turn {N:Nat} {e e':Emb} {h h':AH} {w w':World} {ds:List Deferred} (m:Marks N e w ds) (t:Turn e h w e' h' w'):Marks N e' w' ds:=by
 obtain ⟨rs,h1,h2,h3⟩:=m.ex;refine ⟨rs,h1,h2,fun r hr=>?_⟩;obtain ⟨a1,a2,a3⟩:=h3 r hr;have hlt:r<w.heap.size:=(zB9.1 a2).1;refine ⟨a1,(t.keep r hlt fun b L q1 q2=>absurd q2 (a3 b L q1)).trans a2,fun b L q1 q2=>?_⟩;cases h0:e b with
 | some M=>have:=t.le b M h0;rw [q1] at this;cases this;exact a3 b L h0 q2
 | none =>
  rcases t.fresh b L q1 h0 with q|⟨c,M,p1,p2,-⟩
  ·omega
  ·exact a3 c M p1 (p2.trans q2)
def After [Glob] (P:Program) (fn:FuncId) (ro:Option Nat) (tm tm':Array Value) (ds ds':List Deferred) (c:Code) (k:List Item) (cs:List Frame) (w w':World):AX→Prop
 | .norm=>Steps P (lone (fr fn ro tm (.code c :: k) ds) cs w) (lone (fr fn ro tm' k ds') cs w')
 | .exit id=>∃ k',exitTo id k'=exitTo id k∧Steps P (lone (fr fn ro tm (.code c :: k) ds) cs w) (lone (fr fn ro tm' (.code (.exit id) :: k') ds') cs w')
 | .ret=>∃ k',Steps P (lone (fr fn ro tm (.code c :: k) ds) cs w) (lone (fr fn ro tm' (.code .ret :: k') ds') cs w')
def Vg [Glob] (P:Program) (run:zF):Prop:=∀ inR sz c t h x t' h',run inR sz c t h=some (x,t',h')→∀ B e w tm fn ro,Rel B e h w→TR e sz t tm→(inR=false→ro=none) →
 ∃ e' w' tm' dn,Rel B e' h' w'∧Turn e h w e' h' w'∧TR e' sz t' tm'∧Marks w.heap.size e' w' dn∧(inR=true→dn=[])∧∀ ds k cs,After P fn ro tm tm' ds (dn ++ ds) c k cs w w' x
theorem Marks.append {N:Nat} {e e':Emb} {h h':AH} {w w':World} {ds dn:List Deferred} (m:Marks N e w ds) (t:Turn e h w e' h' w') (m':Marks w.heap.size e' w' dn) (hN:N≤w.heap.size):Marks N e' w' (dn ++ ds):=by
 obtain ⟨rs,a1,a2,a3⟩:=(m.turn t).ex;obtain ⟨rn,b1,b2,b3⟩:=m'.ex;obtain ⟨rs',c1,c2,c3⟩:=m.ex;have hrs:rs'=rs:=by
  have:rs'.map mark=rs.map mark:=c1.symm.trans a1;exact (List.map_inj_right (f:=mark) (fun x y q=>by simpa [mark] using q)).1 this
 subst hrs;refine ⟨rn ++ rs',by rw [zC9,b1,a1],?_,fun r hr=>?_⟩
 ·rw [zG4];refine ⟨b2,c2,fun x hx y hy q=>?_⟩;subst q;have:=(b3 x hx).1;have:=(zB9.1 (c3 x hy).2.1).1;omega
 ·rcases zB8.1 hr with hr|hr
  ·obtain ⟨p1,p2⟩:=b3 r hr;exact ⟨by omega,p2⟩
  ·exact a3 r hr
theorem Vx [Glob] {X:Extern} {run:zF} (hC:CallOk P (Qr P X run)) (hY:XZ P (Ze run)) {B:Bs} {e:Emb} {h h':AH} {w:World} {sz:Nat} {t:Tr Value} {tm:Array Value} {v:Value}
 {ops:Array Oper} {i:Nat} {o:Oper} (ho:ops[i]? = some o) (hop:vz P X run t h o.op=some (v,h')) (r:Rel B e h w) (T:TR e sz t tm) (hw:Region.wanted o (yielded ops tm)=true) :
 ∃ e' v' w',Rel B e' h' w'∧Turn e h w e' h' w'∧VR e' v v'∧∀ (fn:FuncId) (ro:Option Nat) (rest:List Nat) (k:List Item) (ds:List Deferred) (cs:List Frame),
  Steps P (lone (fr fn ro tm (.inRegion ops (i :: rest) :: k) ds) cs w) (lone (fr fn ro (xQ tm o.dst v') (.inRegion ops rest :: k) ds) cs w'):=by
 unfold vz at hop;split at hop
 ·rename_i v0 h0 hn
  cases hop
  have hd:Zw o.op=false:=by cases hq:o.op<;>first|rfl|(rw [hq] at hn;cases hn)
  obtain ⟨e',v',w',q1,q2,q3,q4⟩:=XY r T hn;exact ⟨e',v',w',q2,q3,q4,fun fn ro rest k ds cs=>.one (Xc ho hw hd q1)⟩
 ·rename_i h0 hn
  cases hop
  have hd:Zw o.op=false:=by cases hq:o.op<;>first|rfl|(rw [hq] at hn;cases hn)
  obtain ⟨w',q1,q2,q3⟩:=XY r T hn;exact ⟨e,undef,w',q2,q3,.tuple [] [] .nil,fun fn ro rest k ds cs=>.one (qaw ho hw hd q1)⟩
 ·rename_i g args hn
  have hd:Zw o.op=false:=by cases hq:o.op<;>first|rfl|(rw [hq] at hn;cases hn)
  obtain ⟨args',q1,q2⟩:=XY r T hn;obtain ⟨e',v',w',p1,p2,p3,p4⟩:=hC _ _ _ _ _ hop B e w args' r q2;refine ⟨e',v',w',p1,p2,p3,fun fn ro rest k ds cs=>?_⟩;rcases p4 with p4|⟨p4,p5⟩
  ·exact .one (Xc ho hw hd (q1.trans p4))
  ·refine .head (G7 ho hw hd (q1.trans p4)) ?_;have:=p5 (fr fn ro tm (.inRegion ops (i :: rest) :: k) ds) cs;rw [Jo,ho] at this;exact this
 ·rename_i l args hn
  have hd:Zw o.op=false:=by cases hq:o.op<;>first|rfl|(rw [hq] at hn;cases hn)
  obtain ⟨L,args',hL,q1,q2⟩:=XY r T hn;obtain ⟨e',v',w',p1,p2,p3,g,tt,asg,bo,p4,p5⟩:=hY _ _ _ _ _ hop B e w args' L r hL q2;refine ⟨e',v',w',p1,p2,p3,fun fn ro rest k ds cs=>?_⟩;refine .head (G6 ho hw hd (q1.trans p4)) ?_;have:=p5 (fr fn ro tm (.inRegion ops (i :: rest) :: k) ds) cs;rw [Jo,ho] at this;exact this
 ·cases hop
theorem QY {e:Emb} {sz:Nat} {t t':Tr Value} {tm:Array Value} {d:Option Tmp} {v v':Value} (T:TR e sz t tm) (h:J6 sz t d v=some t') (hv:VR e v v'):TR e sz t' (xQ tm d v'):=by
 unfold J6 at h;split at h
 ·cases h;exact T
 ·split at h
  ·rename_i k hk
   cases h
   rw [Nat.blt_eq] at hk;exact T.set hk hv
  ·cases h
theorem JJ {e:Emb} {sz:Nat} {t:Tr Value} {tm:Array Value} {ops:Array Oper} {o:Oper} {b:Bool} (T:TR e sz t tm) (h:qo ops t o.guard=some b):Region.wanted o (yielded ops tm)=b:=by
 unfold qo at h;unfold Region.wanted;split at h
 ·rename_i hg;cases h;rw [hg]
 ·rename_i j want hg
  rw [hg];split at h
  ·rename_i o' ho'
   split at h
   ·rename_i d hd
    split at h
    ·rename_i c hc
     cases h
     obtain ⟨v',q1,q2⟩:=T.2 d _ hc;cases q2
     simp only [yielded,ho',Option.bind_some,hd,q1];cases c<;>cases want<;>rfl
    ·rename_i cs hc
     cases h
     obtain ⟨v',q1,q2⟩:=T.2 d _ hc;obtain ⟨cs',rfl,-⟩:=q2.wB;simp only [yielded,ho',Option.bind_some,hd,q1];rfl
    ·cases h
   ·cases h
  ·cases h
theorem qaQ [Glob] {X:Extern} {run:zF} (hC:CallOk P (Qr P X run)) (hY:XZ P (Ze run)) {B:Bs} {sz:Nat} {ops:Array Oper} :
 ∀ (n i:Nat) (t:Tr Value) (h:AH) (t':Tr Value) (h':AH) (e:Emb) (w:World) (tm:Array Value),i+n=ops.size→Xk P X run sz ops (ops.toList.drop i) t h=some (t',h')→Rel B e h w→TR e sz t tm →
 ∃ e' w' tm',Rel B e' h' w'∧Turn e h w e' h' w'∧TR e' sz t' tm'∧∀ (fn:FuncId) (ro:Option Nat) (k:List Item) (ds:List Deferred) (cs:List Frame),
  Steps P (lone (fr fn ro tm (.inRegion ops (List.range' i n) :: k) ds) cs w) (lone (fr fn ro tm' (.inRegion ops [] :: k) ds) cs w'):=by
 intro n;induction n with
 | zero =>
  intro i t h t' h' e w tm hi ho r T;have:ops.toList.drop i=[]:=List.drop_eq_nil_of_le (by rw [zC2];omega);rw [this] at ho;cases ho
  exact ⟨e,w,tm,r,Turn.refl _ _ _,T,fun _ _ _ _ _=>.refl _ _⟩
 | succ n ih =>
  intro i t h t' h' e w tm hi ho r T;have hlt:i<ops.size:=by omega
  have hl2:i<ops.toList.length:=by rw [zC2];exact hlt
  have hoi:ops[i]? = some ops[i]:=zE2 hlt;rw [zG7 hl2] at ho;simp only [Xk,Array.getElem_toList] at ho;rw [List.range'_succ];split at ho
  ·rename_i hg
   have hw:=JJ T hg;split at ho
   ·rename_i v h1 hop
    split at ho
    ·rename_i t1 hp
     obtain ⟨e1,v',w1,q1,q2,q3,q4⟩:=Vx hC hY hoi hop r T hw;have T1:=QY (T.mono q2.le) hp q3;obtain ⟨e2,w2,tm2,p1,p2,p3,p4⟩:=ih (i+1) _ _ _ _ e1 w1 _ (by omega) ho q1 T1;exact ⟨e2,w2,tm2,p1,q2.trans p2 r.dom,p3,fun fn ro k ds cs=>(q4 fn ro _ k ds cs).trans (p4 fn ro k ds cs)⟩
    ·cases ho
   ·cases ho
  ·rename_i hg
   have hw:=JJ T hg;split at ho
   ·rename_i t1 hp
    have T1:=QY T hp (VR.tuple [] [] .nil);obtain ⟨e2,w2,tm2,p1,p2,p3,p4⟩:=ih (i+1) _ _ _ _ e w _ (by omega) ho r T1;refine ⟨e2,w2,tm2,p1,p2,p3,fun fn ro k ds cs=>.head (xy (by rw [hoi];simp [hw])) ?_⟩;rw [hoi];exact p4 fn ro k ds cs
   ·cases ho
  ·cases ho
theorem JW {e:Emb} {sz:Nat}:∀ {ps:List Tmp} {vs vs':List Value} {t t':Tr Value} {tm:Array Value},Vm ps vs t=some t'→ps.all (fun p=>Nat.blt p sz)=true→TR e sz t tm→VRs e vs vs' →
 vs'.length=ps.length∧TR e sz t' ((ps.zip vs').foldl (fun tm (q:Tmp×Value)=>tm.setIfInBounds q.1 q.2) tm)
 | [],[],_,t,t',tm,h,_,T,.nil=>by cases h;exact ⟨rfl,T⟩
 | [],_ :: _,_,_,_,_,h,_,_,_=>by cases h
 | _ :: _,[],_,_,_,_,h,_,_,_=>by cases h
 | p :: ps,v :: vs,_,t,t',tm,h,ha,T,.cons _ v' _ r' hv hr=>by
  simp only [List.all_cons,zA8,Nat.blt_eq] at ha;obtain ⟨h1,h2⟩:=JW (ps:=ps) (vs:=vs) (vs':=r') h ha.2 (T.set ha.1 hv) hr;exact ⟨by simp [h1],by simpa using h2⟩
theorem Zq {w:World} {k:Nat} {o ob:Obj} (h:w.heap[k]? = some ob) (hc:∀ c e f,ob≠.cells c e f) :
 (setObj k o).run P w = .ok () { w with heap:=w.heap.setIfInBounds k o }∧Wrote w { w with heap:=w.heap.setIfInBounds k o } k o:=by
 have hlt:k<w.heap.size:=(zB9.1 h).1;refine ⟨?_,?_,fun j hj=>?_,by simp,rfl,rfl,rfl⟩
 ·simp only [setObj,Sem.run,h]
 ·simp [hlt]
 ·simp only [Array.getElem?_setIfInBounds_ne (Ne.symm hj)]
theorem run_getLoop {w:World} {k:Nat} {r:Loop} (h:w.heap[k]? = some (.loop r)):(Instr.getLoop k).run P w = .ok r w:=by
 simp only [Instr.getLoop,zA5,getObj,Sem.run,h,zA1];rfl
theorem Yz [Glob] {run:zF} (hR:Vg P run):XZ P (Ze run):=by
 intro l args h v h' hy B e w args' L r hL hargs;unfold Ze at hy;split at hy
 rotate_left
 ·cases hy
 rename_i sz tmps params asg bo hg
 split at hy
 rotate_left
 ·cases hy
 rename_i t0 hall hset
 split at hy
 rotate_left
 ·cases hy
 rename_i t1 h1 hrun1
 split at hy
 rotate_left
 ·cases hy
 rename_i sz' tmps' params' asg' bo' hg1
 split at hy
 rotate_left
 ·cases hy
 rename_i x t2 h2 hrun2
 split at hy
 rotate_left
 ·cases hy
 rename_i sz2 tmps2 params2 as2 bo2 hg2
 obtain ⟨fn,tm,D,hb,T⟩:=r.obj l L _ hL hg;obtain ⟨hlen,T0⟩:=JW hset hall T hargs;obtain ⟨e1,w1,tm1,ds1,r1,u1,T1,m1,hd1,a1⟩:=hR _ _ _ _ _ _ _ _ hrun1 B e w _ fn (some L.blk) r T0 (by simp);have hL1:=u1.le l L hL;obtain ⟨fn1,tmx,D1,hb1,Tx⟩:=r1.obj l L _ hL1 hg1;obtain ⟨s1,wr1⟩:=Zq (P:=P) (o:=.loop { state:=.busy,pending:=none,fn:=fn1,tmps:=tmx,params:=params'.toArray,assign:=asg',body:=bo',defers:=D1 }) hb1 (by intro _ _ _ q;cases q);obtain ⟨r2,u2⟩:=r1.put hL1 hg1 rfl wr1 (o':=.loop .busy none sz' tmps' params' asg' bo') ⟨fn1,tmx,D1,wr1.here,Tx⟩ (fun _=>rfl);obtain ⟨e3,w3,tm3,ds3,r3,u3,T3,m3,hd3,a3⟩:=hR _ _ _ _ _ _ _ _ hrun2 B e1 _ tm1 fn (some L.blk) r2 T1 (by simp);have hL3:=u3.le l L hL1;obtain ⟨fn3,tmy,D3,hb3,Ty⟩:=r3.obj l L _ hL3 hg2;have hbegin:(Instr.beginRound L.blk).run P w1 = .ok () { w1 with heap:=w1.heap.setIfInBounds L.blk (.loop { state:=.busy,pending:=none,fn:=fn1,tmps:=tmx,params:=params'.toArray,assign:=asg',body:=bo',defers:=D1 }) }:=by
  simp only [Instr.beginRound,zA5,run_getLoop hb1,zA1,s1];rfl
 have hyield:(Instr.yield L.blk args'.toArray).run P w = .ok (.round L.blk fn ((params.zip args').foldl (fun tm (q:Tmp×Value)=>tm.setIfInBounds q.1 q.2) tm) asg bo) w:=by
  simp only [Instr.yield,zA5,run_getLoop hb,zA1];rw [if_neg (by simp [hlen])];simp only [zB1];congr 2
  rw [List.zip_toArray,List.foldl_toArray]
 have fin:∀ (j:Option Code) (st:LoopState),st=(if j.isNone then .ready else .done)→∀ hh,hh=h2.put l (.loop st j sz2 tmps2 params2 as2 bo2) →
  ∃ w4,(Instr.endRound L.blk j).run P w3 = .ok (.bool j.isNone) w4∧Rel B e3 hh w4∧Turn e h w e3 hh w4:=by
  intro j st hst hh hhh;subst hst;subst hhh;obtain ⟨s4,wr4⟩:=Zq (P:=P) (o:=.loop { state:=if j.isNone then .ready else .done,pending:=j,fn:=fn3,tmps:=tmy,params:=params2.toArray,assign:=as2,body:=bo2,defers:=D3 }) hb3 (by intro _ _ _ q;cases q);obtain ⟨r4,u4⟩:=r3.put hL3 hg2 rfl wr4 (o':=.loop (if j.isNone then .ready else .done) j sz2 tmps2 params2 as2 bo2) ⟨fn3,tmy,D3,wr4.here,Ty⟩ (fun _=>rfl);refine ⟨_,?_,r4,((u1.trans u2 r.dom).trans u3 r.dom).trans u4 r.dom⟩;simp only [Instr.endRound,zA5,run_getLoop hb3,zA1,s4];rfl
 have e1:=hd1 rfl;have e3:=hd3 rfl;subst e1;subst e3;have hsteps:∀ c cs,Steps P (lone (fr fn (some L.blk) ((params.zip args').foldl (fun tm (q:Tmp×Value)=>tm.setIfInBounds q.1 q.2) tm) [.code asg,.beginRound,.code bo] []) (c :: cs) w)
  (lone (fr fn (some L.blk) tm1 [.code bo] []) (c :: cs) { w1 with heap:=w1.heap.setIfInBounds L.blk (.loop { state:=.busy,pending:=none,fn:=fn1,tmps:=tmx,params:=params'.toArray,assign:=asg',body:=bo',defers:=D1 }) }):=by
  intro c cs;exact Steps.trans (a1 [] [.beginRound,.code bo] (c :: cs)) (.one (vH hbegin))
 cases x with
 | norm =>
  cases hy
  obtain ⟨w4,q1,q2,q3⟩:=fin none .ready rfl _ rfl;exact ⟨_,.bool true,w4,q2,q3,.bool true,fn,_,asg,bo,hyield,fun c cs=>(hsteps c cs).trans (Steps.trans (a3 [] [] (c :: cs)) (.one (gW q1)))⟩
 | exit id =>
  cases hy
  obtain ⟨w4,q1,q2,q3⟩:=fin (some (.exit id)) .done rfl _ rfl;refine ⟨_,.bool false,w4,q2,q3,.bool false,fn,_,asg,bo,hyield,fun c cs=>?_⟩;obtain ⟨k',p1,p2⟩:=a3 [] [] (c :: cs);exact (hsteps c cs).trans (Steps.trans p2 (.one (vG p1 q1)))
 | ret =>
  cases hy
  obtain ⟨w4,q1,q2,q3⟩:=fin (some .ret) .done rfl _ rfl;refine ⟨_,.bool false,w4,q2,q3,.bool false,fn,_,asg,bo,hyield,fun c cs=>?_⟩;obtain ⟨k',p2⟩:=a3 [] [] (c :: cs);exact (hsteps c cs).trans (Steps.trans p2 (.one (gU q1)))
theorem Zi {e:Emb} {sz:Nat}:∀ {vs vs':List Value} {i:Nat} {t:Tr Value} {tm:Array Value},TR e sz t tm→VRs e vs vs'→i+vs.length≤sz →
 (∀ j,j<vs'.length→tm[i+j]? = vs'[j]?)→TR e sz (jq i vs t) tm
 | [],_,i,t,tm,T,.nil,_,_=>T
 | v :: r,_,i,t,tm,T,.cons _ v' _ r' hv hr,hi,hq=>by
  simp only [zC4] at hi;have T1:TR e sz (t.set i v) tm:=by
   refine ⟨T.1,fun k u hk=>?_⟩;rw [Tr.QM] at hk;by_cases hki:k=i
   ·rw [if_pos hki] at hk;cases hk
    subst hki;exact ⟨v',by have:=hq 0 (by simp);simpa using this,hv⟩
   ·rw [if_neg hki] at hk;exact T.2 k u hk
  show TR e sz (jq (i+1) r (t.set i v)) tm
  refine Zi T1 hr (by omega) fun j hj=>?_;have:=hq (j+1) (by simp only [zC4];omega);rw [show i+1+j=i+(j+1) by omega];simpa using this
def pO (tm:Array Value):ResultVar→Sem Value
 | .tmp t=>pure (tm.getD t undef)
 | .cell a t=>do loadVar t (← asAddr (tm.getD a undef))
theorem xM (f:Func) (tm:Array Value):results f tm=(do let vs ← f.results.mapM (pO tm);pure (if h:vs.size=1 then vs[0] else .tuple vs)):=rfl
theorem vP [Glob] {B:Bs} {e:Emb} {h:AH} {w:World} (r:Rel B e h w) {sz:Nat} {t:Tr Value} {tm:Array Value} (T:TR e sz t tm) {rv:ResultVar} {v:Value} (hv:JG P t h rv=some v) :
 ∃ v',(pO tm rv).run P w = .ok v' w∧VR e v v':=by
 cases rv with
 | tmp k =>
  obtain ⟨v',q1,q2⟩:=T.2 k v hv;exact ⟨v',by simp [pO,q1],q2⟩
 | cell a ty =>
  simp only [JG] at hv;split at hv
  ·rename_i p hp
   obtain ⟨p',q1,q2⟩:=T.2 a p hp;obtain ⟨v',s1,s2⟩:=Wy (P:=P) r hv q2;refine ⟨v',?_,s2⟩;unfold Z8 at hv;split at hv
   ·rename_i b o c ee s ro hc
    obtain ⟨rfl,-⟩:=Yr hc;obtain ⟨L,hL,rfl⟩:=q2.zM;simp only [Instr.loadAt,Instr.sureAddr,zA5,zB1,zA1] at s1;simp only [pO,zH2,q1,zH6,asAddr,zA5,zB1,zA1,s1]
   ·cases hv
  ·cases hv
theorem ZE [Glob] {B:Bs} {e:Emb} {h:AH} {w:World} (r:Rel B e h w) {sz:Nat} {t:Tr Value} {tm:Array Value} (T:TR e sz t tm):∀ {rs:List ResultVar} {vs:List Value},jR P t h rs=some vs →
 ∃ vs',(rs.mapM (pO tm)).run P w = .ok vs' w∧VRs e vs vs'
 | [],vs,hv=>by cases hv;exact ⟨[],by simp,.nil⟩
 | rv :: rs,vs,hv=>by
  simp only [jR] at hv;split at hv
  ·rename_i v us h1 h2
   cases hv
   obtain ⟨v',q1,q2⟩:=vP r T h1;obtain ⟨us',p1,p2⟩:=ZE r T h2;refine ⟨v' :: us',?_,.cons _ _ _ _ q2 p2⟩;rw [List.mapM_cons];simp only [zA5,q1,p1,zB1,zA1]
  ·cases hv
theorem Jl {e:Emb} {vs vs':List Value} (h:VRs e vs vs'):VR e (jh vs) (if h:vs'.toArray.size=1 then vs'.toArray[0] else .tuple vs'.toArray):=by
 cases h with
 | nil=>exact .tuple [] [] .nil
 | cons v v' r r' hv hr =>
  cases hr with
  | nil=>exact hv
  | cons u u' s s' hu hs=>exact .tuple _ _ (.cons _ _ _ _ hv (.cons _ _ _ _ hu hs))
structure Beside (N:Nat) (e:Emb) (w w':World):Prop where
 size:w'.heap.size=w.heap.size
 low:∀ k,k<N→w'.heap[k]? = w.heap[k]?
 img:∀ b L,e b=some L→w'.heap[L.blk]? = w.heap[L.blk]?
 os:w'.os=w.os
 tape:w'.tape=w.tape
 output:w'.output=w.output
theorem Rel.beside [Glob] {B:Bs} {N:Nat} {e:Emb} {h:AH} {w w':World} (r:Rel B e h w) (b:Beside N e w w') (hN:B.lo≤N):Rel B e h w' :=
 ⟨r.dom,r.wf,fun k L q=>by rw [b.size];exact r.rng k L q,fun k L o q1 q2=>(r.obj k L o q1 q2).world (b.img k L q1),r.inj,r.own,by rw [b.size];exact r.base,fun k hk=>(b.low k (by omega)).trans (r.keep k hk),r.glob⟩
theorem Turn.beside {e e':Emb} {h h':AH} {w w' w2:World} (t:Turn e h w e' h' w') (b:Beside w.heap.size e' w' w2):Turn e h w e' h' w2 :=
 ⟨t.le,t.next,t.low,t.old,t.fresh,by rw [b.size];exact t.size,fun k hk hq=>(b.low k hk).trans (t.keep k hk hq),t.same,b.os.trans t.os,b.tape.trans t.tape,b.output.trans t.output⟩
theorem Jy {N:Nat} {e:Emb} {fn:FuncId} {tm:Array Value}:∀ (rs:List Nat) (w:World),rs.Nodup→(∀ r∈rs,N≤r∧w.heap[r]? = some (.deferred (some []))∧∀ b L,e b=some L→L.blk≠r) →
 ∃ w',Beside N e w w'∧∀ k cs,Steps P (lone (gone fn tm k (rs.map mark)) cs w) (lone (gone fn tm k []) cs w')
 | [],w,_,_=>⟨w,⟨rfl,fun _ _=>rfl,fun _ _ _=>rfl,rfl,rfl,rfl⟩,fun _ _=>.refl _ _⟩
 | r :: rs,w,hn,h=>by
  obtain ⟨a1,a2,a3⟩:=h r (by simp);have hlt:r<w.heap.size:=(zB9.1 a2).1;obtain ⟨s1,wr⟩:=Zq (P:=P) (o:=.deferred none) a2 (by intro _ _ _ q;cases q);have ht:(Instr.takeDeferred r).run P w = .ok [] { w with heap:=w.heap.setIfInBounds r (.deferred none) }:=by
   simp only [Instr.takeDeferred,zA5,getObj,Sem.run,a2,zA1,s1,zB1]
  rw [List.nodup_cons] at hn;obtain ⟨w',b,st⟩:=Jy (N:=N) (e:=e) (fn:=fn) (tm:=tm) rs { w with heap:=w.heap.setIfInBounds r (.deferred none) } hn.2 (fun q hq=>by
   obtain ⟨c1,c2,c3⟩:=h q (by simp [hq]);exact ⟨c1,(wr.other q fun p=>hn.1 (p ▸ hq)).trans c2,c3⟩)
  refine ⟨w',⟨b.size.trans wr.size,fun j hj=>(b.low j hj).trans (wr.other j (by omega)),fun p L q=>(b.img p L q).trans (wr.other _ (a3 p L q)),b.os,b.tape,b.output⟩,fun k cs=>?_⟩;exact .head (qeX ht) (st k cs)
theorem Zc [Glob] {X:Extern} {run:zF} (hX:Yf P X) (hN:∀ (f:FuncId) (fn:Func),P.funcs[f]? = some fn→fn.body.isSome=true→(fn.name == "runtime.NumGoroutine")=false) (hR:Vg P run):CallOk P (Qr P X run):=by
 intro f args h v h' hc B e w args' r hargs;unfold Qr at hc;split at hc
 ·rename_i hx
  cases hc
  exact hX _ _ _ _ _ hx B e w args' r hargs
 split at hc
 rotate_left
 ·cases hc
 rename_i fn hfn
 split at hc
 rotate_left
 ·cases hc
 rename_i body hb
 have hcall:(callFunc f args'.toArray).run P w = .ok (.enter f args'.toArray) w:=by
  simp only [callFunc,zA5,run_program,zA1,hfn,hN f fn hfn (by simp [hb]),zD9,if_false,hb,Option.isNone_some,zB1]
 have hlen:=hargs.length;have hent:Frame.enter P f args'.toArray .normal=fr f none (args'.toArray ++ Array.replicate (fn.ntmps - args'.length) undef) [.code body] []:=by
  simp [Frame.enter,fr,hfn,hb]
 have T:TR e (args.length+(fn.ntmps - args.length)) (jq 0 args .e) (args'.toArray ++ Array.replicate (fn.ntmps - args'.length) undef):=by
  refine Zi ⟨by simp [hlen],fun k u hk=>by rw [Tr.kF] at hk;cases hk⟩ hargs (by omega) fun j hj=>?_;rw [zG1,Array.getElem?_append_left (by simpa using hj)];simp
 split at hc
 ·cases hc
 rotate_left
 ·cases hc
 rename_i x t h1 hx hrun
 split at hc
 rotate_left
 ·cases hc
 rename_i vs hvs
 cases hc
 obtain ⟨e1,w1,tm1,dn,r1,u1,T1,m1,-,a1⟩:=hR _ _ _ _ _ _ _ _ hrun B e w _ f none r T (fun _=>rfl);obtain ⟨rs,d1,d2,d3⟩:=m1.ex;have main:(∀ cs,∃ todo,Steps P (lone (fr f none (args'.toArray ++ Array.replicate (fn.ntmps - args'.length) undef) [.code body] []) cs w) (lone (gone f tm1 todo dn) cs w1)) →
  ∃ e' v' w',Rel B e' h' w'∧Turn e h w e' h' w'∧VR e' (jh vs) v'∧∀ c cs,Steps P (lone (Frame.enter P f args'.toArray .normal) (c :: cs) w) (lone (c.finish v') cs w'):=by
  intro hst;obtain ⟨w2,b2,st2⟩:=Jy (P:=P) (N:=w.heap.size) (e:=e1) (fn:=f) (tm:=tm1) rs w1 d2 d3;have r2:=r1.beside b2 r.base;obtain ⟨vs',p1,p2⟩:=ZE (P:=P) r2 T1 hvs;refine ⟨e1,_,w2,r2,u1.beside b2,Jl p2,fun c cs=>?_⟩;rw [hent];obtain ⟨todo,hst⟩:=hst (c :: cs);refine hst.trans ?_;rw [d1];refine (st2 todo (c :: cs)).trans (.one (qb6 hfn ?_));rw [xM,zA5,Array.mapM_eq_mapM_toList,Sem.run_map,p1];rfl
 have fin:∃ e' v' w',Rel B e' h' w'∧Turn e h w e' h' w'∧VR e' (jh vs) v'∧∀ c cs,Steps P (lone (Frame.enter P f args'.toArray .normal) (c :: cs) w) (lone (c.finish v') cs w'):=by
  cases x with
  | norm =>
   refine main fun cs=>⟨[],?_⟩
   have:=a1 [] [] cs;rw [zD7] at this;exact Steps.trans this (.one qdq)
  | exit id=>exact (hx id rfl).elim
  | ret =>
   refine main fun cs=>?_;obtain ⟨k',hk⟩:=a1 [] [] cs;rw [zD7] at hk;exact ⟨_,Steps.trans hk (.one qdo)⟩
 obtain ⟨e',v',w',q1,q2,q3,q4⟩:=fin;exact ⟨e',v',w',q1,q2,q3,.inr ⟨hcall,q4⟩⟩
end
end Go.Proofs.Xx
