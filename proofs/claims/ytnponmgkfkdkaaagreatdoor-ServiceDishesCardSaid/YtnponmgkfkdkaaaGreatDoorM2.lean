/-
  clear,bytes and strings;then every operation at once: what the checked run does,the machine does.
-/
import Derived.Test.YtnponmgkfkdkaaaGreatDoorM1
import Derived.Laws.BytesString
import Derived.Laws.BytesArg
import Derived.Lib.UnsafeStr
set_option linter.unusedSectionVars false
set_option linter.unusedSimpArgs false
set_option linter.unusedVariables false
namespace Go.Proofs.Xx
open Go
section
variable {P:Program}
theorem yz {f:Emb} {kd:TypeDesc} {k k':Value} (ho:Vf kd k=true) (h:VR f k k'):k'=k:=by
 unfold Vf at ho;split at ho
 ·cases h;rfl
 ·cases h;rfl
 ·cases ho
theorem Xf {f:Emb} {kd:TypeDesc} {k a a':Value} {b:Bool} (hs:Instr.sameNow kd k a=some b) (h:VR f a a'):Instr.sameNow kd k a'=some b:=by
 unfold Instr.sameNow at hs;split at hs
 ·cases h;exact hs
 ·cases h;exact hs
 ·cases h;exact hs
 ·cases hs
theorem KF {t:TypeId} {k:Value} {kd:TypeDesc} {et:TypeId} (h:Vb P t k=some (kd,et)):∃ kt,P.underlying t=some (.map kt et)∧P.underlying kt=some kd∧Vf kd k=true:=by
 unfold Vb at h;split at h
 ·rename_i kt et' hu
  split at h
  ·rename_i kd' hk
   split at h
   ·rename_i ho
    cases h
    exact ⟨kt,hu,hk,ho⟩
   ·cases h
  ·cases h
 ·cases h
theorem vO {kt:TypeId} {kd:TypeDesc} (hu:P.underlying kt=some kd) {k:Value} (ho:Vf kd k=true) (b:Bool) (w:World) (n:Nat):(Instr.checkKey b (n+1) kt k).run P w = .ok () w:=by
 unfold Vf at ho;split at ho
 ·simp only [Instr.checkKey,zA5,run_underlying hu,zA1];rfl
 ·simp only [Instr.checkKey,zA5,run_underlying hu,zA1];rfl
 ·cases ho
theorem run_checkKey {kt:TypeId} {kd:TypeDesc} (hu:P.underlying kt=some kd) {k:Value} (ho:Vf kd k=true) (b:Bool) (w:World):(Instr.checkKey b 10000 kt k).run P w = .ok () w:=vO hu ho b w 9999
def qfm (f:Emb):Option (Nat×Value)→Option (Nat×Value)→Prop
 | none,none=>True
 | some (i,v),some (j,u)=>i=j∧VR f v u
 | _,_=>False
theorem QN {f:Emb} {kd:TypeDesc} {k:Value} {es:List (Value×Value×Nat)} {es':List MapEntry} (h:EsR f es es'):∀ {i:Nat} {r:Option (Nat×Value)},Zy kd k es i=some r→∃ r',Instr.findNow kd k es' i=some r'∧qfm f r r':=by
 induction h with
 | nil=>intro i r h;cases h;exact ⟨none,rfl,True.intro⟩
 | cons he _ ih =>
  intro i r h;unfold Zy at h;split at h
  ·rename_i q
   cases h
   exact ⟨some (i,_),by simp only [Instr.findNow,Xf q he.1],rfl,he.2.1⟩
  ·rename_i q
   obtain ⟨r',q1,q2⟩:=ih h;exact ⟨r',by simp only [Instr.findNow,Xf q he.1,q1],q2⟩
  ·cases h
theorem V4 {kd:TypeDesc} {k v:Value} {j:Nat}:∀ {es:List (Value×Value×Nat)} {i:Nat},Zy kd k es i=some (some (j,v))→∃ m e,j=i+m∧es[m]? = some e∧Instr.sameNow kd k e.1=some true∧e.2.1=v
 | [],i,h=>by cases h
 | e :: es,i,h=>by
  unfold Zy at h;split at h
  ·rename_i q
   cases h
   exact ⟨0,e,rfl,rfl,q,rfl⟩
  ·obtain ⟨m,e',q1,q2,q3⟩:=V4 h;exact ⟨m+1,e',by omega,by simpa using q2,q3⟩
  ·cases h
theorem run_findKey {kt:TypeId} {kd:TypeDesc} (hu:P.underlying kt=some kd) {k:Value} {es:List MapEntry} {r:Option (Nat×Value)} (h:Instr.findNow kd k es 0=some r) (w:World):(Instr.findKey kt k es).run P w = .ok r w:=by
 simp only [Instr.findKey,zA5,run_underlying hu,zA1,h];rfl
theorem EsR.get {f:Emb} {es:List (Value×Value×Nat)} {es':List MapEntry} (h:EsR f es es'):∀ {i:Nat} {e:Value×Value×Nat},es[i]? = some e→∃ e',es'[i]? = some e'∧EntR f e e':=by
 induction h with
 | nil=>intro i e h;simp at h
 | cons he _ ih =>
  intro i e h;cases i with
  | zero=>simp at h;subst h;exact ⟨_,rfl,he⟩
  | succ i=>simp at h;simpa using ih h
theorem EsR.modify {f:Emb} {es:List (Value×Value×Nat)} {es':List MapEntry} {g:Value×Value×Nat→Value×Value×Nat} {g':MapEntry→MapEntry} (h:EsR f es es') (hg:∀ e e',EntR f e e'→EntR f (g e) (g' e')):∀ i:Nat,EsR f (es.modify i g) (es'.modify i g'):=by
 induction h with
 | nil=>intro i;cases i<;>exact .nil
 | cons he hr ih =>
  intro i;cases i with
  | zero=>exact .cons (hg _ _ he) hr
  | succ i=>exact .cons he (ih i)
theorem EsR.snoc {f:Emb} {es:List (Value×Value×Nat)} {es':List MapEntry} (h:EsR f es es') {e:Value×Value×Nat} {e':MapEntry} (he:EntR f e e'):EsR f (es ++ [e]) (es' ++ [e']):=by
 induction h with
 | nil=>exact .cons he .nil
 | cons h _ ih=>exact .cons h ih
theorem EsR.len {f:Emb} {es:List (Value×Value×Nat)} {es':List MapEntry} (h:EsR f es es'):es.length=es'.length:=by
 induction h with
 | nil=>rfl
 | cons h _ ih=>simp [ih]
theorem Zi {t:TypeId} {z:Value} (h:zeroV P t=some z) (w:World):(zeroValue t).run P w = .ok z w∧QT z=true:=by
 unfold zeroV at h;split at h
 ·rename_i z' hz
  split at h
  ·rename_i hp
   cases h
   unfold Yo at hz;split at hz
   ·rename_i i hi
    exact ⟨by simp [zeroValue,typeInfo,hi,hz],hp⟩
   ·cases hz
  ·cases h
 ·cases h
theorem Rel.yt [Glob] {B:Bs} {f:Emb} {h:AH} {w:World} (r:Rel B f h w) {b:Nat} {L:Loc} {es:List (Value×Value×Nat)} {clock:Nat} (hf:f b=some L) (hg:h.get b=some (.map es clock)):∃ es',(getObj L.blk).run P w = .ok (.map es' clock) w∧EsR f es es'.toList:=by
 obtain ⟨es',h1,h2⟩:=r.obj b L _ hf hg;exact ⟨es',by simp [getObj,Sem.run,h1],h2⟩
theorem vZ [Glob] {B:Bs} {f:Emb} {h:AH} {w:World} (r:Rel B f h w) {t:TypeId} {m m' k k' v:Value} {ok:Bool} (ha:Qg P t m k ok h=some v) (hm:VR f m m') (hk:VR f k k') :
 ∃ v',(Instr.lookup t m' k' ok).run P w = .ok v' w∧VR f v v':=by
 unfold Qg at ha;split at ha
 ·rename_i kd et es hT hM
  obtain ⟨kt,u1,u2,ho⟩:=KF hT;obtain rfl:=yz ho hk;have key:∃ es':Array MapEntry,EsR f es es'.toList∧∀ (x:Option (Nat×Value)) (u:Value),Instr.findNow kd k' es'.toList 0=some x→(match x with|some (_,u)=>u|none=>u)=u→(∀ w1:World,x=none→(zeroValue et).run P w1 = .ok u w1) →
   (Instr.lookup t m' k' ok).run P w = .ok (match ok with|true=>.tuple #[u,.bool x.isSome]|false=>u) w:=by
   unfold Zx at hM;split at hM
   ·cases hM;cases hm
    refine ⟨#[],.nil,fun x u hx hu hz=>?_⟩;cases x with
    | some p=>cases hx
    | none =>
     have h1:(Instr.findKey kt k' ([]:List MapEntry)).run P w = .ok none w:=run_findKey u2 hx w;have h2:=hz w rfl;have h3:=run_checkKey (P:=P) u2 ho true w;cases ok<;>simp [Instr.lookup,run_underlying u1,h1,h2,h3,Result.andThen]
   ·rename_i b
    cases hm with
    | map b L hL =>
     split at hM
     ·rename_i es0 cl hg
      cases hM
      obtain ⟨es',q1,q2⟩:=r.yt (P:=P) hL hg;refine ⟨es',q2,fun x u hx hu hz=>?_⟩;have h1:(Instr.findKey kt k' es'.toList).run P w = .ok x w:=run_findKey u2 hx w;have h3:=run_checkKey (P:=P) u2 ho es'.isEmpty w;cases x with
      | some p =>
       obtain ⟨i,v'⟩:=p;have hu:v'=u:=hu;subst hu;cases ok<;>simp [Instr.lookup,run_underlying u1,q1,h1,h3,Result.andThen]
      | none =>
       have h2:=hz w rfl;cases ok<;>simp [Instr.lookup,run_underlying u1,q1,h1,h2,h3,Result.andThen]
     ·cases hM
   ·cases hM
  obtain ⟨es',he,hrun⟩:=key;split at ha
  ·rename_i j u hF
   obtain ⟨r',q1,q2⟩:=QN he hF;match r',q1,q2 with
   | some (j',u'),q1,q2 =>
    cases ha
    refine ⟨_,hrun _ u' q1 rfl (fun _ q=>by cases q),?_⟩;cases ok
    ·exact q2.2
    ·exact VR.tuple _ _ (.cons _ _ _ _ q2.2 (.cons _ _ _ _ (.bool true) .nil))
   | none,_,q2=>exact q2.elim
  ·rename_i hF
   obtain ⟨r',q1,q2⟩:=QN he hF;match r',q1,q2 with
   | none,q1,_ =>
    split at ha
    ·rename_i z hz
     cases ha
     refine ⟨_,hrun _ z q1 rfl (fun w1 _=>(Zi hz w1).1),?_⟩;have hv:=VR.plain f z (Zi (P:=P) hz w).2;cases ok
     ·exact hv
     ·exact VR.tuple _ _ (.cons _ _ _ _ hv (.cons _ _ _ _ (.bool false) .nil))
    ·cases ha
   | some _,_,q2=>exact q2.elim
  ·cases ha
 ·cases ha
theorem qaL {w:World} {k:Nat} {es:Array MapEntry} {clock:Nat} (o:Obj) (h:w.heap[k]? = some (.map es clock)):(setObj k o).run P w = .ok () { w with heap:=w.heap.setIfInBounds k o }:=by simp [setObj,Sem.run,h]
theorem qch {w:World} {k:Nat} (o:Obj) (hk:k<w.heap.size):Wrote w { w with heap:=w.heap.setIfInBounds k o } k o :=
 ⟨by simp [Array.getElem?_setIfInBounds,hk],fun j hj=>by simp [Array.getElem?_setIfInBounds,Ne.symm hj],by simp,rfl,rfl,rfl⟩
theorem ba_eq {a b:ByteArray} (h:(a == b)=true):a=b:=by
 cases a with|mk x=>cases b with|mk y =>
 have h2:(x == y)=true:=h;rw [eq_of_beq h2]
theorem Gp (a:ByteArray):(a == a)=true:=by
 cases a with|mk x =>
 show (x == x)=true
 exact beq_self_eq_true x
theorem Wn {kd:TypeDesc} {k a:Value} (ho:Vf kd k=true) (h:Instr.sameNow kd k a=some true) (n:Nat):Instr.sameBits n a k=true:=by
 unfold Vf at ho;split at ho
 ·rename_i c j x
  cases a<;>simp only [Instr.sameNow] at h<;>try cases h
  rename_i j2 y
  split at h
  ·rename_i e
   subst e;have e3:=eq_of_beq (Option.some.inj h);subst e3;cases n<;>simp [Instr.sameBits]
  ·cases h
 ·rename_i x
  cases a<;>simp only [Instr.sameNow] at h<;>try cases h
  rename_i y
  have e3:=ba_eq (Option.some.inj h);subst e3;cases n<;>simp [Instr.sameBits,Gp]
 ·cases ho
theorem VD {old new:Value} (h:Instr.sameBits 10000 old new=true) (w:World):(Instr.keyThatStays old new).run P w = .ok new w:=by
 unfold Instr.keyThatStays;rw [if_pos h];rfl
theorem Rel.XI [Glob] {B:Bs} {f:Emb} {h:AH} {w:World} (r:Rel B f h w) {b:Nat} {L:Loc} {es es2:List (Value×Value×Nat)} {clock c2:Nat} (hf:f b=some L) (hg:h.get b=some (.map es clock)) {es2':Array MapEntry} (he:EsR f es2 es2'.toList) :
 ∃ w',(setObj L.blk (.map es2' c2)).run P w = .ok () w'∧Rel B f (h.put b (.map es2 c2)) w'∧Turn f h w f (h.put b (.map es2 c2)) w':=by
 obtain ⟨es',h1,h2⟩:=r.obj b L _ hf hg;have wr:=qch (w:=w) (k:=L.blk) (.map es2' c2) (r.rng b L hf);obtain ⟨q1,q2⟩:=r.put hf hg rfl wr (o':=.map es2 c2) ⟨es2',wr.here,he⟩ (fun _=>rfl);exact ⟨_,qaL _ h1,q1,q2⟩
theorem JU [Glob] {B:Bs} {f:Emb} {h h':AH} {w:World} (r:Rel B f h w) {t:TypeId} {m m' k k' v v':Value} (ha:Qp P t m k v h=some h') (hm:VR f m m') (hk:VR f k k') (hv:VR f v v') :
 ∃ w',(Instr.mapUpdate t m' k' v').run P w = .ok () w'∧Rel B f h' w'∧Turn f h w f h' w':=by
 unfold Qp at ha;split at ha
 ·rename_i kd et b hT
  obtain ⟨kt,u1,u2,ho⟩:=KF hT;obtain rfl:=yz ho hk;cases hm with
  | map b L hL =>
   split at ha
   ·rename_i es clock hg
    obtain ⟨es',q1,q2⟩:=r.yt (P:=P) hL hg;have h3:=run_checkKey (P:=P) u2 ho false w;split at ha
    ·rename_i i u hF
     cases ha
     obtain ⟨r',p1,p2⟩:=QN q2 hF;match r',p1,p2 with
     | some (j,u'),p1,p2 =>
      obtain ⟨rfl,-⟩:=p2;obtain ⟨m,e,em,eg,es1,-⟩:=V4 hF;obtain rfl:i=m:=by omega
      obtain ⟨e',g1,g2⟩:=q2.get eg;have h1:=run_findKey (P:=P) u2 p1 w;have hs:=VD (P:=P) (Wn ho (Xf es1 g2.1) 10000) w;have he2:EsR f (es.modify i fun e=>(k',v,e.2.2)) (es'.modify i fun e=>{ e with key:=k',val:=v' }).toList:=by
       rw [Array.toList_modify];exact q2.modify (g:=fun e=>(k',v,e.2.2)) (g':=fun e=>{ e with key:=k',val:=v' }) (fun e e' q=>⟨hk,hv,q.2.2⟩) i
      obtain ⟨w',z1,z2,z3⟩:=r.XI (P:=P) (c2:=clock) hL hg he2;refine ⟨w',?_,z2,z3⟩;have g1':es'[i]? = some e':=by rw [← zC1];exact g1
      simp [Instr.mapUpdate,run_underlying u1,q1,h1,h3,g1',hs,z1,Result.andThen]
     | none,_,p2=>exact p2.elim
    ·rename_i hF
     cases ha
     obtain ⟨r',p1,p2⟩:=QN q2 hF;match r',p1,p2 with
     | none,p1,_ =>
      have h1:=run_findKey (P:=P) u2 p1 w;have he2:EsR f (es ++ [(k',v,clock)]) (es'.push { key:=k',val:=v',born:=clock }).toList:=by
       rw [Array.toList_push];exact q2.snoc ⟨hk,hv,rfl⟩
      obtain ⟨w',z1,z2,z3⟩:=r.XI (P:=P) (c2:=clock+1) hL hg he2;refine ⟨w',?_,z2,z3⟩;simp [Instr.mapUpdate,run_underlying u1,q1,h1,h3,z1,Result.andThen]
     | some _,_,p2=>exact p2.elim
    ·cases ha
   ·cases ha
 ·cases ha
theorem WS [Glob] {B:Bs} {f:Emb} {h h':AH} {w:World} (r:Rel B f h w) {t:TypeId} {m m' k k' v:Value} (ha:JV P t m k h=some (v,h')) (hm:VR f m m') (hk:VR f k k') :
 ∃ f' v' w',(Instr.mapEntry t m' k').run P w = .ok v' w'∧Rel B f' h' w'∧Turn f h w f' h' w'∧VR f' v v':=by
 unfold JV at ha;split at ha
 ·rename_i kd et b hT
  obtain ⟨kt,u1,u2,ho⟩:=KF hT;obtain rfl:=yz ho hk;cases hm with
  | map b L hL =>
   split at ha
   ·rename_i es clock hg
    obtain ⟨es',q1,q2⟩:=r.yt (P:=P) hL hg;have h3:=run_checkKey (P:=P) u2 ho false w;split at ha
    ·rename_i i u hF
     split at ha
     ·rename_i e eg
      cases ha
      obtain ⟨r',p1,p2⟩:=QN q2 hF;match r',p1,p2 with
      | some (j,u'),p1,p2 =>
       obtain ⟨rfl,hu⟩:=p2;obtain ⟨m,e2,em,eg2,es1,-⟩:=V4 hF;obtain rfl:i=m:=by omega
       obtain rfl:e=e2:=Option.some.inj (eg.symm.trans eg2);obtain ⟨e',g1,g2⟩:=q2.get eg;have h1:=run_findKey (P:=P) u2 p1 w;have hs:=VD (P:=P) (Wn ho (Xf es1 g2.1) 10000) w;have he2:EsR f (es.modify i fun e=>(k',e.2)) (es'.modify i fun e=>{ e with key:=k' }).toList:=by
        rw [Array.toList_modify];exact q2.modify (g:=fun e=>(k',e.2)) (g':=fun e=>{ e with key:=k' }) (fun e e' q=>⟨hk,q.2⟩) i
       obtain ⟨w',z1,z2,z3⟩:=r.XI (P:=P) (c2:=clock) hL hg he2;have g1':es'[i]? = some e':=by rw [← zC1];exact g1
       refine ⟨f,.tuple #[u',.int .i64 e'.born],w',?_,z2,z3,?_⟩
       ·simp [Instr.mapEntry,run_underlying u1,q1,h1,h3,g1',hs,z1,Result.andThen,goInt]
       ·have:e.2.2=e'.born:=g2.2.2;rw [this];exact VR.tuple _ _ (.cons _ _ _ _ hu (.cons _ _ _ _ (.int _ _) .nil))
      | none,_,p2=>exact p2.elim
     ·cases ha
    ·rename_i hF
     split at ha
     ·rename_i z hz
      cases ha
      obtain ⟨r',p1,p2⟩:=QN q2 hF;match r',p1,p2 with
      | none,p1,_ =>
       have h1:=run_findKey (P:=P) u2 p1 w;have h2:=(Zi (P:=P) hz w).1;have hv:=VR.plain f z (Zi (P:=P) hz w).2;have he2:EsR f (es ++ [(k',z,clock)]) (es'.push { key:=k',val:=z,born:=clock }).toList:=by
        rw [Array.toList_push];exact q2.snoc ⟨hk,hv,rfl⟩
       obtain ⟨w',z1,z2,z3⟩:=r.XI (P:=P) (c2:=clock+1) hL hg he2;refine ⟨f,.tuple #[z,.int .i64 clock],w',?_,z2,z3,VR.tuple _ _ (.cons _ _ _ _ hv (.cons _ _ _ _ (.int _ _) .nil))⟩;simp [Instr.mapEntry,run_underlying u1,q1,h1,h2,h3,z1,Result.andThen,goInt]
      | some _,_,p2=>exact p2.elim
     ·cases ha
    ·cases ha
   ·cases ha
 ·cases ha
theorem EsR.born {f:Emb} {es:List (Value×Value×Nat)} {es':List MapEntry} (h:EsR f es es') (n:Int):es.findIdx? (fun e=>decide ((e.2.2:Int)=n))=es'.findIdx? (fun e=>(e.born:Int) == n):=by
 induction h with
 | nil=>rfl
 | cons he _ ih =>
  rename_i e e' r r' _
  have hb:decide ((e.2.2:Int)=n)=((e'.born:Int) == n):=by rw [he.2.2];rfl
  simp only [List.findIdx?_cons,hb,ih]
theorem Vt [Glob] {B:Bs} {f:Emb} {h h':AH} {w:World} (r:Rel B f h w) {t:TypeId} {m m' s s' v v':Value} (ha:Zp m s v h=some h') (hm:VR f m m') (hs:VR f s s') (hv:VR f v v') :
 ∃ w',(Instr.entryStore t m' s' v').run P w = .ok () w'∧Rel B f h' w'∧Turn f h w f h' w':=by
 unfold Zp at ha;split at ha
 ·rename_i b kk n
  cases hm with
  | map b L hL =>
   cases hs
   split at ha
   ·rename_i es clock hg
    obtain ⟨es',q1,q2⟩:=r.yt (P:=P) hL hg;split at ha
    ·rename_i i hi
     cases ha
     rw [q2.born n] at hi;have he2:EsR f (es.modify i fun e=>(e.1,v,e.2.2)) (es'.modify i fun e=>{ e with val:=v' }).toList:=by
      rw [Array.toList_modify];exact q2.modify (g:=fun e=>(e.1,v,e.2.2)) (g':=fun e=>{ e with val:=v' }) (fun e e' q=>⟨q.1,hv,q.2.2⟩) i
     obtain ⟨w',z1,z2,z3⟩:=r.XI (P:=P) (c2:=clock) hL hg he2;refine ⟨w',?_,z2,z3⟩;have hi':es'.findIdx? (fun e=>(e.born:Int) == n)=some i:=by
      clear z1 he2 q2 q1;cases es' with|mk l=>simpa using hi
     simp [Instr.entryStore,asInt,asIntOf,q1,hi',z1,Result.andThen]
    ·cases ha
   ·cases ha
 ·cases ha
theorem yV [Glob] {B:Bs} {f:Emb} {h:AH} {w:World} (r:Rel B f h w) (t:TypeId) :
 ∃ f' v' w',(Instr.makeMap t none).run P w = .ok v' w'∧Rel B f' (Vs h).2 w'∧Turn f h w f' (Vs h).2 w'∧VR f' (Vs h).1 v':=by
 have hp:=zV w (.map #[] 0);obtain ⟨q1,q2⟩:=r.add hp (o:=.map [] 0) (s:=0) ⟨#[],by simp,.nil⟩;refine ⟨_,.map (some w.heap.size),_,?_,q1,q2,?_⟩
 ·simp only [Instr.makeMap,zA5,run_newObj,zA1];rfl
 ·exact VR.map h.next ⟨w.heap.size,0,0⟩ (Emb.qP _ _ _)
theorem WT [Glob] {B:Bs} {f:Emb} {h h':AH} {w:World} (r:Rel B f h w) {t ty kt et:TypeId} {ts:List TypeId} {x x':Value} {rs:List Value} (hu:P.underlying t=some (.map kt et)) (hc:V6 x h=some h') (hx:VR f x x') :
 ∃ w',(Builtin.clear_ (t :: ts).toArray ty (x' :: rs).toArray).run P w = .ok (.tuple #[]) w'∧Rel B f h' w'∧Turn f h w f h' w':=by
 have e1:((t :: ts).toArray)[0]? = some t:=by simp
 have e2:((x' :: rs).toArray)[0]? = some x':=by simp
 unfold V6 at hc;split at hc
 ·cases hc;cases hx
  refine ⟨w,?_,r,Turn.refl _ _ _⟩;simp only [Builtin.clear_,e1,e2,zA5,run_underlying hu,zA1];rfl
 ·rename_i b
  cases hx with
  | map b L hL =>
   split at hc
   ·rename_i es clock hg
    cases hc
    obtain ⟨es',q1,q2⟩:=r.yt (P:=P) hL hg;obtain ⟨w',z1,z2,z3⟩:=r.XI (P:=P) (es2:=[]) (c2:=clock) hL hg (es2':=#[]) .nil;refine ⟨w',?_,z2,z3⟩;simp only [Builtin.clear_,e1,e2,zA5,run_underlying hu,zA1,q1,z1,zB1]
   ·cases hc
 ·cases hc
end
section
variable {P:Program}
theorem GH [Glob] {B:Bs} {f:Emb} {h h':AH} {w:World} (r:Rel B f h w) {t ty:TypeId} {ts:List TypeId} {x x':Value} {rs:List Value} (hc:ve P t x h=some h') (hx:VR f x x') :
 ∃ w',(Builtin.clear_ (t :: ts).toArray ty (x' :: rs).toArray).run P w = .ok (.tuple #[]) w'∧Rel B f h' w'∧Turn f h w f h' w':=by
 have e1:((t :: ts).toArray)[0]? = some t:=by simp
 have e2:((x' :: rs).toArray)[0]? = some x':=by simp
 unfold ve at hc;split at hc
 ·rename_i e hu
  cases hc;cases hx
  refine ⟨w,?_,r,Turn.refl _ _ _⟩;simp only [Builtin.clear_,e1,e2,zA5,run_underlying hu,zA1];rfl
 ·rename_i e b o n cap hu
  obtain ⟨L,o',hL,rfl,hlc,ho⟩:=hx.jo;split at hc
  ·cases hc
   refine ⟨w,?_,r,Turn.refl _ _ _⟩;simp only [Builtin.clear_,e1,e2,zA5,run_underlying hu,zA1];rfl
  ·rename_i hn0
   have hn0:n≠0:=fun q=>hn0 (by subst q;rfl);split at hc
   ·rename_i z c eb slk hz hg
    obtain ⟨i,zv,hi,hzv,hzl,hsz,hz0,hpl⟩:=jy hz;have hzr:VRs f z z:=by rw [← hzl];exact (VR.plain f zv hpl).cells
    obtain ⟨w',q1,q2,q3⟩:=QS (P:=P) r hL hg hc (hzr.zn n);have ho':o'=⟨L.blk,L.sh+o,none⟩:=by
     rcases ho with ho|⟨h0,-⟩
     ·exact ho
     ·omega
    subst ho';refine ⟨w',?_,q2,q3⟩;have hzz:Builtin.zeroCells zv.cells n=(zn z n).toArray:=by
     have hlz:zv.cells.size=z.length:=by rw [← hzl,zC2]
     unfold Builtin.zeroCells;rw [← Q8 hzl hz0 n,hlz]
    have hzrun:(zeroValue e).run P w = .ok zv w:=by simp [zeroValue,typeInfo,hi,hzv]
    obtain ⟨m,rfl⟩:∃ m,n=m+1:=⟨n - 1,by omega⟩
    simp only [Builtin.clear_,e1,e2,zA5,run_underlying hu,zA1,hzrun,hzz,zF6,q1,zB1]
   ·cases hc
 ·rename_i hu
  exact WT r hu hc hx
 ·cases hc
theorem bytesOf?_ints {xs:List Value} {s:List UInt8} (h:bytesOf? xs=some s):∃ ns:List Int,xs=ns.map (Value.int .u8)∧(ns.map fun n=>UInt8.ofNat n.toNat)=s:=by
 induction xs generalizing s with
 | nil=>cases h;exact ⟨[],rfl,rfl⟩
 | cons v r ih =>
  simp only [bytesOf?] at h;split at h
  ·rename_i b t hb ht
   cases h
   obtain ⟨n,rfl,rfl⟩:=byteOf?_eq hb;obtain ⟨ns,h1,h2⟩:=ih ht;exact ⟨n :: ns,by simp [h1],by simp [h2]⟩
  ·cases h
theorem WR [Glob] {B:Bs} {f:Emb} {h:AH} {w:World} (r:Rel B f h w) {s d:TypeId} {x x' v:Value} (hc:jY P s d x h=some v) (hx:VR f x x') :
 ∃ v',(convert s d x').run P w = .ok v' w∧VR f v v':=by
 unfold jY at hc;split at hc
 ·rename_i e h1 h2
  split at hc
  ·rename_i h3
   cases hc;cases hx
   refine ⟨_,?_,.string _⟩;simp [convert,run_underlying h1,run_underlying h2,run_underlying h3,Conv.bytesToString]
   rfl
  ·cases hc
 ·rename_i e b o len cap h1 h2
  obtain ⟨L,o',hL,rfl,hlc,ho⟩:=hx.jo;split at hc
  ·rename_i h3
   split at hc
   ·rename_i c eb slk ro hg
    split at hc
    ·rename_i xs hxs
     split at hc
     ·rename_i bs hbs
      cases hc
      obtain ⟨xs',q1,q2,q3⟩:=(r.obj b L _ hL hg).seg hxs;obtain ⟨ns,n1,n2⟩:=bytesOf?_ints hbs;have hxx:=(bytesOf?_VRs hbs q1).1;subst hxx;have hld:(loadCells o' len).run P w = .ok (ns.map (Value.int .u8)).toArray w:=by
       by_cases hl0:len=0
       ·subst hl0;have:xs'=[]:=zE8.1 (by omega);rw [← n1,this];simp [loadCells,loadCellsFrom]
       ·have ho':o'=⟨L.blk,L.sh+o,none⟩:=by
         rcases ho with ho|⟨h0,-⟩
         ·exact ho
         ·omega
        subst ho';rw [← n1];exact Qa q2 q3
      refine ⟨.string ⟨bs.toArray⟩,?_,.string _⟩;simp only [convert,zA5,run_underlying h1,run_underlying h2,run_underlying h3,zA1];rw [run_bytesToString w _ len _ ns hld,foldl_push_bytes,n2];congr 2
      apply ByteArray.ext
      simp
     ·cases hc
    ·cases hc
   ·cases hc
  ·cases hc
 ·cases hc
theorem VW [Glob] {B:Bs} {f:Emb} {h:AH} {w:World} (r:Rel B f h w) {s d:TypeId} {x x' v:Value} (hc:jA P s d x h=some v) (hx:VR f x x') :
 ∃ v',(convert s d x').run P w = .ok v' w∧VR f v v':=by
 unfold jA at hc;split at hc
 ·rename_i t b o h1 h2
  obtain ⟨L,hL,rfl⟩:=hx.zO;split at hc
  ·rename_i c e slk ro n hg hs
   split at hc
   ·rename_i hlt
    cases hc
    obtain ⟨cc,fr,hh,hsz,-⟩:=r.obj b L _ hL hg;rw [Nat.blt_eq] at hlt;have hsh:w.shape? L.blk=some (e,cc.size):=by simp [World.shape?,hh]
    refine ⟨_,?_,.pointer b o L hL⟩;have hseen:(Conv.seenAt ⟨L.blk,L.sh+o,none⟩).run P w = .ok ⟨L.blk,L.sh+o,none⟩ w:=by
     simp [Conv.seenAt,viewAt,zA5,run_shape,hsh]
    have hcells:(cellsIn L.blk).run P w = .ok (some cc.size) w:=by
     simp [cellsIn,zA5,run_shape,hsh]
    have hno:¬ (cc.size≤L.sh+o):=by omega
    simp only [convert,zA5,run_underlying h1,run_underlying h2,zA1,Conv.unsafePointer,hseen,hcells,zG hs];simp [hno]
   ·cases hc
  ·cases hc
 ·rename_i u b o h1 h2
  obtain ⟨L,hL,rfl⟩:=hx.zO;split at hc
  ·rename_i c e n hg hs
   split at hc
   ·rename_i hli
    cases hc
    obtain ⟨cc,fr,hh,hsz,-,hx1,-⟩:=r.obj b L _ hL hg;obtain ⟨-,hx2⟩:=hx1 rfl;obtain ⟨h3,h4⟩:=hx2 rfl;have hsh:w.shape? L.blk=some (e,cc.size):=by simp [World.shape?,hh]
    refine ⟨_,?_,.pointer b o L hL⟩;have hseen:(Conv.seenAt ⟨L.blk,L.sh+o,none⟩).run P w = .ok ⟨L.blk,L.sh+o,none⟩ w:=by
     simp [Conv.seenAt,viewAt,zA5,run_shape,hsh]
    have hva:(variablesAt ⟨L.blk,L.sh+o,none⟩ u 1).run P w = .ok true w:=by
     have:L.sh+o=o:=by omega
     simp [variablesAt,zA5,run_shape,hsh,this,h4,hli]
    simp only [convert,zA5,run_underlying h1,run_underlying h2,zA1,Conv.unsafePointer,hseen,hva,zG hs];simp
   ·cases hc
  ·cases hc
 ·cases hc
theorem VX {f:Emb} {w:World} {ts:Array TypeId} {ty:TypeId} {x x' v:Value} (hc:YQ x=some v) (hx:VR f x x') :
 ∃ v',(Builtin.unsafeSliceData_ ts ty #[x']).run P w = .ok v' w∧VR f v v':=by
 unfold YQ at hc;split at hc
 ·cases hc;cases hx
  exact ⟨_,Lib.run_unsafeSliceData_nil w ts ty 0 0,.nilPointer⟩
 ·rename_i b o n cap
  cases hc
  obtain ⟨L,o',hL,rfl,hlc,ho⟩:=hx.jo;have ho':o'=⟨L.blk,L.sh+o,none⟩:=by
   rcases ho with ho|⟨h0,-⟩
   ·exact ho
   ·omega
  subst ho';exact ⟨_,Lib.run_unsafeSliceData_row w ts ty _ _ _ (by omega),.pointer b o L hL⟩
 ·cases hc
theorem PK {e:TypeId} (hc:P.cellsOf e=1) (count off n:Nat) (hn:off+n≤count):liesAt P P.depth e count off e n=true:=by
 have hd:P.depth=(2*(P.types.size+Made.depth)+1)+1:=rfl;rw [hd];simp only [liesAt,zG8];left
 rw [hd];simp [rowAt,hc,hn,sameLayout]
 omega
theorem KY {w:World} {b o n:Nat} {cc:Array Value} {e:TypeId} {fr:Nat×Nat} (hb:w.heap[b]? = some (.cells cc e fr)):∃ fr',Wrote w (w.freeze ⟨b,o,none⟩ n) b (.cells cc e fr'):=by
 obtain ⟨lo,hi⟩:=fr;unfold World.freeze;split
 ·exact ⟨(lo,hi),Wrote.same hb⟩
 ·have hlt:b<w.heap.size:=(zB9.1 hb).1;have hv:w.heap[b] = .cells cc e (lo,hi):=(zB9.1 hb).2;refine ⟨if lo == hi then (o,o+n) else (min lo o,max hi (o+n)),?_,fun j hj=>?_,?_,rfl,rfl,rfl⟩
  ·rw [zE1 (by simpa using hlt),Array.getElem_modify];simp [hv]
  ·simp [Array.getElem?_modify,Ne.symm hj]
  ·simp
theorem Y5 {w:World}:∀ (xs:List Int) (b o:Nat) (acc:ByteArray),(∀ (j:Nat) x,xs[j]? = some x→w.cell? ⟨b,o+j,none⟩=some (.int .u8 x)) →
 (loadBytes ⟨b,o,none⟩ acc xs.length).run P w = .ok ⟨acc.data ++ (xs.map fun n=>UInt8.ofNat n.toNat).toArray⟩ w
 | [],b,o,acc,_=>by simp [loadBytes]
 | x :: l,b,o,acc,h=>by
  have h0:w.cell? ⟨b,o,none⟩=some (.int .u8 x):=h 0 x rfl;have ih:=Y5 l b (o+1) (acc.push (UInt8.ofNat x.toNat)) (fun j y hy=>by
   rw [show o+1+j=o+(j+1) by omega];exact h (j+1) y (by simpa using hy))
  have hx:x.toNat.toUInt8=UInt8.ofNat x.toNat:=rfl;simp only [zC4,loadBytes,zA5,run_load,h0,Result.andThen,hx,jJ];rw [ih];congr 1
  apply ByteArray.ext
  simp [ByteArray.push]
theorem qfp (ts:Array TypeId) (ty:TypeId) (len:Value):Builtin.unsafeString_ ts ty #[.pointer none,len]=(do
 let n ← asInt len
 let some pt:=ts[0]?|stuck "unsafe.String: no argument types"
 if n<0 then runtimePanic (.error "unsafe.String: len out of range")
 if n > IntKind.i64.max then unsupported (.unsafePointer "String: a length above the largest int")
 if n=0 then pure (.string .empty)
 else runtimePanic (.error "unsafe.String: ptr is nil and len is not zero")):=rfl
theorem qbz (ts:Array TypeId) (ty:TypeId) (a:Addr) (len:Value):Builtin.unsafeString_ ts ty #[.pointer (some a),len]=(do
 let n ← asInt len
 let some pt:=ts[0]?|stuck "unsafe.String: no argument types"
 if n<0 then runtimePanic (.error "unsafe.String: len out of range")
 if n > IntKind.i64.max then unsupported (.unsafePointer "String: a length above the largest int")
 if n=0 then pure (.string .empty)
 else if ← variablesAt a (← elemOf pt) n.toNat then do
  let s ← loadBytes a .empty n.toNat
  freeze a n.toNat
  pure (.string s)
 else unsupported (.unsafePointer "String: not so many bytes at ptr")):=rfl
theorem Yn [Glob] {B:Bs} {f:Emb} {h h':AH} {w:World} (r:Rel B f h w) {types:List TypeId} {ty:TypeId} {p p' n n' v:Value} (hc:Jz P types p n h=some (v,h')) (hp:VR f p p') (hn:VR f n n') :
 ∃ v' w',(Builtin.unsafeString_ types.toArray ty #[p',n']).run P w = .ok v' w'∧Rel B f h' w'∧Turn f h w f h' w'∧VR f v v':=by
 have hmax:IntKind.i64.max=9223372036854775807:=by decide
 unfold Jz at hc;split at hc
 ·cases hp;cases hn
  split at hc
  rotate_left
  ·cases hc
  rename_i pt rest
  have e1:((pt :: rest).toArray)[0]? = some pt:=by simp
  cases hc
  refine ⟨_,w,?_,r,Turn.refl _ _ _,.string _⟩;rw [qfp];simp only [zA5,asInt,asIntOf,zB1,zA1,e1,hmax];rw [if_neg (by decide),if_neg (by decide),if_pos trivial];rfl
 ·rename_i b o kk k
  obtain ⟨L,hL,rfl⟩:=hp.zO;cases hn
  split at hc
  rotate_left
  ·cases hc
  rename_i pt rest
  have e1:((pt :: rest).toArray)[0]? = some pt:=by simp
  split at hc
  rotate_left
  ·cases hc
  rename_i e hu
  split at hc
  rotate_left
  ·cases hc
  rename_i c eb slk hg hue hse
  split at hc
  rotate_left
  ·cases hc
  rename_i xs hq hxs
  simp only [zA8] at hq;obtain rfl:=zA6 hq.1;have hk:=zB6 hq.2;split at hc
  rotate_left
  ·cases hc
  rename_i bs hbs
  have hO:=r.obj b L _ hL hg;obtain ⟨xs',q1,q2,q3⟩:=hO.seg hxs;obtain ⟨ns,n1,n2⟩:=bytesOf?_ints hbs;have hxx:=(bytesOf?_VRs hbs q1).1;subst hxx;obtain ⟨cc,fr,h1,h2,h3,h4,h5,h6⟩:=hO;have hnn:¬ ((Int.ofNat k)<0):=by have:=Int.natCast_nonneg k;exact Int.not_lt.2 this
  have hnm:¬ ((Int.ofNat k) > 9223372036854775807):=by
   intro q;have q:(9223372036854775807:Int)<(k:Int):=q;omega
  split at hc
  ·cases hc
   refine ⟨_,w,?_,r,Turn.refl _ _ _,.string _⟩;rw [qbz];simp only [zA5,asInt,asIntOf,zB1,zA1,e1,hmax];rw [if_neg (by decide),if_neg (by decide),if_pos (by decide)];rfl
  ·rename_i hk0
   have hk0:k≠0:=fun q=>hk0 (by subst q;rfl);cases hc
   have hxlen:xs'.length=k:=q2;have hbl:bs.length=k:=by rw [(bytesOf?_VRs hbs q1).2,q2]
   have hc1:P.cellsOf eb=1:=by
    unfold zU at hse;unfold Program.cellsOf;cases hi:P.info? eb with
    | none=>rw [hi] at hse;cases hse
    | some i=>rw [hi] at hse;simp only [Option.some.injEq] at hse;simp [hse]
   have hnsl:ns.length=k:=by rw [← q2,n1,zC5]
   have hcells:∀ (j:Nat) x,ns[j]? = some x→w.cell? ⟨L.blk,L.sh+o+j,none⟩=some (.int .u8 x):=by
    intro j x hj;exact q3 j _ (by rw [n1,zH8,hj];rfl)
   have hlb:=Y5 (P:=P) ns L.blk (L.sh+o) .empty hcells;have hrange:L.sh+o+k≤cc.size:=by
    rcases (JD hxs).2.2 with h|h
    ·omega
    ·omega
   have hlies:=PK (P:=P) hc1 (cc.size / P.cellsOf eb) (L.sh+o) k (by rw [hc1,Nat.div_one];exact hrange);obtain ⟨fr',hwr⟩:=KY (o:=L.sh+o) (n:=k) h1;obtain ⟨r1,r2⟩:=r.put hL hg rfl hwr (o':=.cells c eb slk true) ⟨cc,fr',hwr.here,h2,h3,(fun q=>⟨(h4 q).1,fun q=>by cases q⟩),h5,fun q=>by cases q⟩ (fun _=>rfl);refine ⟨_,_,?_,r1,r2,.string ⟨bs.toArray⟩⟩;have hkz:¬ (Int.ofNat k=0):=fun q=>hk0 (Int.ofNat.inj q);have htn:(Int.ofNat k).toNat=k:=rfl;rw [hnsl,n2] at hlb;rw [qbz];simp only [zA5,asInt,asIntOf,zB1,zA1,e1,hmax];rw [if_neg hnn,if_neg hnm,if_neg hkz];simp only [zA5,elemOf,run_underlying hu,zB1,zA1,variablesAt,run_program,run_shape,World.shape?,h1,htn,hlies,if_true,hlb,run_freeze];congr 2
   apply ByteArray.ext
   simp
 ·cases hc
end
end Go.Proofs.Xx
namespace Go.Proofs.Xx
open Go
section
variable {P:Program}
theorem Px {α:Type} {a b:Option α} {x:α} (h:orO a b=some x):a=some x∨b=some x:=by
 cases a with
 | some y=>exact .inl h
 | none=>exact .inr h
theorem qeE {f:Emb} {d:Option TypeDesc} {a b a':Value} {r:Bool} (h:Jj d a b=some r) (ha:VR f a a'):a'=a:=by
 unfold Jj at h;split at h
 ·cases ha;rfl
 ·cases ha;rfl
 ·cases ha;rfl
 ·cases h
theorem yM {f:Emb}:∀ (fs:List Field) (as bs as':List Value) (r:Bool),zo P fs as bs=some r→VRs f as as'→as'=as
 | [],as,bs,as',r,h,ha=>by
  cases as with
  | nil=>cases ha;rfl
  | cons a as=>unfold zo at h;cases bs<;>cases h
 | g :: fs,as,bs,as',r,h,ha=>by
  cases as with
  | nil=>cases ha;rfl
  | cons a as =>
   cases bs with
   | nil=>unfold zo at h;cases h
   | cons b bs =>
    unfold zo at h;split at h
    rotate_left
    ·cases h
    rename_i x y hx hy
    cases ha with
    | cons _ a' _ as' h1 h2=>rw [qeE hx h1,yM fs as bs as' y hy h2]
theorem ZM {t:TypeId} {a b:List Value} {r:Bool} (h:zN P t a b=some r):∃ fs,P.underlying t=some (.struct fs)∧Wv P fs.toList 0=true∧zo P fs.toList a b=some r:=by
 unfold zN at h;split at h
 ·rename_i fs hu ht
  obtain ⟨fs',hu',hf,-,-⟩:=yH ht;rw [hu] at hu';cases hu'
  exact ⟨fs,hu,hf,h⟩
 ·cases h
theorem qcX {f:Emb} {t:TypeId} {a b a':List Value} {r:Bool} (h:zN P t a b=some r) (ha:VRs f a a'):a'=a:=by
 obtain ⟨fs,-,-,h1⟩:=ZM h;exact yM _ _ _ _ _ h1 ha
theorem qbO {t:TypeId} {k:Value} {kt et:TypeId} (h:PG P t k=some (kt,et)):P.underlying t=some (.map kt et)∧∃ x:Array Value,k = .agg x∧zN P kt x.toList x.toList=some true:=by
 unfold PG at h;split at h
 ·rename_i kt' et' x hu
  split at h
  ·rename_i hq
   cases h
   exact ⟨hu,x,rfl,hq⟩
  ·cases h
 ·cases h
theorem xg {f:Emb} {kt:TypeId} {x:Array Value} {k':Value} (h:zN P kt x.toList x.toList=some true) (hk:VR f (.agg x) k'):k' = .agg x:=by
 cases hk with
 | agg c c' hc =>
  have:=qcX h hc;simp at this;rw [this]
theorem qdW {t:TypeId} (h:QF P t=some false) {cs:Array Value} {i:Nat} {v:Value} (hv:cs[i]? = some v) (w:World):(part t cs i).run P w = .ok v w:=by
 simp only [part,zA5,Qr h,zA1,zD8,if_false,hv,zB1]
theorem Kv {e:TypeId} {a b:Value} {r:Bool} (h:Jj (P.underlying e) a b=some r) (em:Bool) (n:Nat) (w:World):(Instr.checkKey em (n+1) e a).run P w = .ok () w:=by
 unfold Jj at h;split at h
 ·rename_i hu;simp only [Instr.checkKey,zA5,run_underlying hu,zA1];rfl
 ·rename_i k0 k x k' y hu;simp only [Instr.checkKey,zA5,run_underlying hu,zA1];rfl
 ·rename_i x y hu;simp only [Instr.checkKey,zA5,run_underlying hu,zA1];rfl
 ·cases h
theorem wM {g:Field→PUnit→Sem (ForInStep PUnit)} {w:World}:∀ (fs:List Field),(∀ f∈fs,(g f PUnit.unit).run P w = .ok (ForInStep.yield PUnit.unit) w)→(forIn fs PUnit.unit g).run P w = .ok PUnit.unit w
 | [],_=>rfl
 | f :: fs,h=>by
  rw [List.forIn_cons,zA5,h f (by simp),zA1];exact wM fs fun x hx=>h x (List.mem_cons_of_mem _ hx)
theorem WB {em:Bool} {n:Nat} {w:World} {cs:Array Value}:∀ (fs:List Field) (i:Nat) (as bs:List Value) (r:Bool),Wv P fs i=true→zo P fs as bs=some r→(∀ j,cs[i+j]? = as[j]?) →
 ∀ f∈fs,f.name ≠ "_" ∧ ∃ v,(part f.type cs f.offset).run P w = .ok v w∧(Instr.checkKey em (n+1) f.type v).run P w = .ok () w
 | [],_,_,_,_,_,_,_,f,hf=>by cases hf
 | g :: fs,i,as,bs,r,hf,h,hc,f,hm=>by
  unfold Wv at hf;simp only [zA8,decide_eq_true_eq] at hf;obtain ⟨h1,h2,h3,h4⟩:=hf;have h1':QF P g.type=some false:=by
   split at h1
   ·assumption
   ·cases h1
  have h2':=zA6 h2;cases as with
  | nil=>unfold zo at h;cases bs<;>cases h
  | cons a as =>
   cases bs with
   | nil=>unfold zo at h;cases h
   | cons b bs =>
    unfold zo at h;split at h
    rotate_left
    ·cases h
    rename_i x y hx1 hy1
    cases h
    rcases zE7.1 hm with rfl|hm
    ·exact ⟨h3,a,by rw [h2'];exact qdW h1' (by have:=hc 0;simpa using this) w,Kv hx1 em n w⟩
    ·exact WB fs (i+1) as bs y h4 hy1 (fun j=>by have:=hc (j+1);rw [zF7,Nat.add_comm 1 j];simpa using this) f hm
theorem xO {kt:TypeId} {x:Array Value} (h:zN P kt x.toList x.toList=some true) (em:Bool) (w:World) (n:Nat):(Instr.checkKey em (n+2) kt (.agg x)).run P w = .ok () w:=by
 obtain ⟨fs,hu,hf,hc⟩:=ZM h;have key:=WB (em:=em) (n:=n) (w:=w) (cs:=x) fs.toList 0 _ _ _ hf hc (fun j=>by simp);rw [Instr.checkKey];simp only [zA5,run_underlying hu,zA1];rw [← Array.forIn_toList,wM (P:=P) (w:=w) fs.toList fun f hm=>by
  obtain ⟨h1,v,h2,h3⟩:=key f hm;simp only [h1,ne_eq,not_false_eq_true,if_true,zA5,h2,h3,zA1];rfl]
 rfl
theorem Js {kt:TypeId} {x:Array Value} (h:zN P kt x.toList x.toList=some true) (em:Bool) (w:World):(Instr.checkKey em 10000 kt (.agg x)).run P w = .ok () w:=xO h em w 9998
theorem Wx {f:Emb} {w:World} {kt:TypeId} {x y:Array Value} {y':Value} {r:Bool} (h0:zN P kt x.toList x.toList=some true) (h:zN P kt x.toList y.toList=some r) (hy:VR f (.agg y) y'):(Op.equal kt (.agg x) y').run P w = .ok r w:=by
 cases hy with
 | agg c c' hc =>
  have hx:∀ fs (as:List Value) (b:Bool),zo P fs as as=some b→VRs f as as:=fun fs=>by
   induction fs with
   | nil =>
    intro as b q;cases as with
    | nil=>exact .nil
    | cons a as=>unfold zo at q;cases q
   | cons g fs ih =>
    intro as b q;cases as with
    | nil=>exact .nil
    | cons a as =>
     unfold zo at q;split at q
     rotate_left
     ·cases q
     rename_i u v hu hv
     refine .cons _ _ _ _ ?_ (ih as v hv);unfold Jj at hu;split at hu
     ·exact .bool _
     ·rename_i k n k' m _ e1 e2;exact .int _ _
     ·exact .string _
     ·cases hu
  obtain ⟨fs,-,-,h1⟩:=ZM h0;exact YL (f:=f) h (hx _ _ _ h1) (by simpa using hc)
theorem ZI {f:Emb} {w:World} {kt:TypeId} {x:Array Value} (h0:zN P kt x.toList x.toList=some true) {es:List (Value×Value×Nat)} {es':List MapEntry} (h:EsR f es es'):∀ {i:Nat} {r:Option (Nat×Value)},JA P kt x.toList es i=some r→∃ r',(Instr.findAsking kt (.agg x) es' i).run P w = .ok r' w∧qfm f r r':=by
 induction h with
 | nil=>intro i r h;cases h;exact ⟨none,rfl,True.intro⟩
 | cons he _ ih =>
  intro i r h;unfold JA at h;split at h
  rotate_left
  ·cases h
  rename_i y hy
  have he1:=he.1;rw [hy] at he1;split at h
  ·rename_i q
   cases h
   have e:=Wx (w:=w) h0 q he1;exact ⟨some (i,_),by simp only [Instr.findAsking,zA5,e,zA1,if_true,zB1],rfl,he.2.1⟩
  ·rename_i q
   have e:=Wx (w:=w) h0 q he1;obtain ⟨r',q1,q2⟩:=ih h;exact ⟨r',by simp only [Instr.findAsking,zA5,e,zA1,zD8,if_false,q1],q2⟩
  ·cases h
theorem y8 {kt:TypeId} {k:List Value} {v:Value} {j:Nat}:∀ {es:List (Value×Value×Nat)} {i:Nat},JA P kt k es i=some (some (j,v))→∃ m e y,j=i+m∧es[m]? = some e∧e.1 = .agg y∧zN P kt k y.toList=some true∧e.2.1=v
 | [],i,h=>by cases h
 | e :: es,i,h=>by
  unfold JA at h;split at h
  rotate_left
  ·cases h
  rename_i y hy
  split at h
  ·rename_i q
   cases h
   exact ⟨0,e,y,rfl,rfl,hy,q,rfl⟩
  ·obtain ⟨m,e',y,q1,q2,q3⟩:=y8 h;exact ⟨m+1,e',y,by omega,by simpa using q2,q3⟩
  ·cases h
theorem ZA {w:World} {kt:TypeId} {x:Array Value} (h0:zN P kt x.toList x.toList=some true) {es:List MapEntry} {r:Option (Nat×Value)} (h:(Instr.findAsking kt (.agg x) es).run P w = .ok r w):(Instr.findKey kt (.agg x) es).run P w = .ok r w:=by
 obtain ⟨fs,hu,-,-⟩:=ZM h0;simp only [Instr.findKey,zA5,run_underlying hu,zA1];cases es with
 | nil=>simpa [Instr.findNow,Instr.findAsking] using h
 | cons e es=>simpa [Instr.findNow,Instr.sameNow] using h
theorem Vp:∀ (fs:List Field) (as bs:List Value),zo P fs as bs=some true→as.length=bs.length∧∀ n,((bs.zip as).all fun (x,y)=>Instr.sameBits n x y)=true
 | [],as,bs,h=>by
  cases as with
  | nil=>cases bs with
   | nil=>exact ⟨rfl,fun n=>rfl⟩
   | cons b bs=>unfold zo at h;cases h
  | cons a as=>unfold zo at h;cases bs<;>cases h
 | g :: fs,as,bs,h=>by
  cases as with
  | nil=>unfold zo at h;cases bs<;>cases h
  | cons a as =>
   cases bs with
   | nil=>unfold zo at h;cases h
   | cons b bs =>
    unfold zo at h;split at h
    rotate_left
    ·cases h
    rename_i x y hx hy
    have hb:=Option.some.inj h;simp only [zA8] at hb;obtain ⟨rfl,rfl⟩:=hb;obtain ⟨i1,i2⟩:=Vp fs as bs hy;refine ⟨by simp [i1],fun n=>?_⟩;rw [List.zip_cons_cons,List.all_cons,i2 n,Bool.and_true];unfold Jj at hx;split at hx
    ·have:=eq_of_beq (Option.some.inj hx);subst this;cases n<;>simp [Instr.sameBits]
    ·split at hx
     ·rename_i hk
      have hk:=of_decide_eq_true hk;subst hk;have:=eq_of_beq (Option.some.inj hx);subst this;cases n<;>simp [Instr.sameBits]
     ·cases hx
    ·have e:=Option.some.inj hx;unfold zA at e;have e3:∀ {p q:ByteArray},(p.data.toList == q.data.toList)=true→p=q:=fun {p q} z=>by
      cases p with|mk p=>cases q with|mk q =>
      have:=eq_of_beq z;congr 1
      exact Array.toList_inj.1 this
     have:=e3 e;subst this;cases n<;>simp [Instr.sameBits,Gp]
    ·cases hx
theorem qcw {f:Emb} {kt:TypeId} {x y:Array Value} {y':Value} (h:zN P kt x.toList y.toList=some true) (hy:VR f (.agg y) y') (hyy:zN P kt y.toList y.toList=some true) (n:Nat):Instr.sameBits (n+1) y' (.agg x)=true:=by
 rw [xg hyy hy];obtain ⟨fs,-,-,h1⟩:=ZM h;obtain ⟨e1,e2⟩:=Vp _ _ _ h1;have hs:(y.size == x.size)=true:=by simp at e1;simp [e1]
 simp only [Instr.sameBits,hs,e2 n,zF9]
theorem yX [Glob] {B:Bs} {f:Emb} {h:AH} {w:World} (r:Rel B f h w) {t:TypeId} {m m' k k' v:Value} {ok:Bool} (ha:Qy P t m k ok h=some v) (hm:VR f m m') (hk:VR f k k') :
 ∃ v',(Instr.lookup t m' k' ok).run P w = .ok v' w∧VR f v v':=by
 unfold Qy at ha;split at ha
 ·rename_i kt et es hT hM
  obtain ⟨u1,x,rfl,hx⟩:=qbO hT;obtain rfl:=xg hx hk;rw [show (Value.agg x).cells.toList=x.toList from rfl] at ha;have key:∃ es':Array MapEntry,EsR f es es'.toList∧∀ (z:Option (Nat×Value)) (u:Value),(Instr.findAsking kt (.agg x) es'.toList).run P w = .ok z w→(match z with|some (_,u)=>u|none=>u)=u→(∀ w1:World,z=none→(zeroValue et).run P w1 = .ok u w1) →
   (Instr.lookup t m' (.agg x) ok).run P w = .ok (match ok with|true=>.tuple #[u,.bool z.isSome]|false=>u) w:=by
   unfold Zx at hM;split at hM
   ·cases hM;cases hm
    refine ⟨#[],.nil,fun z u hz hu h2=>?_⟩;have h1:=ZA (es:=[]) hx hz;have h3:=Js hx true w;cases z with
    | some p=>cases hz
    | none =>
     have h2:=h2 w rfl;cases ok<;>simp [Instr.lookup,run_underlying u1,h1,h2,h3,Result.andThen]
   ·rename_i b
    cases hm with
    | map b L hL =>
     split at hM
     ·rename_i es0 cl hg
      cases hM
      obtain ⟨es',q1,q2⟩:=r.yt (P:=P) hL hg;refine ⟨es',q2,fun z u hz hu h2=>?_⟩;have h1:=ZA hx hz;have h3:=Js hx es'.isEmpty w;cases z with
      | some p =>
       obtain ⟨i,v'⟩:=p;have hu:v'=u:=hu;subst hu;cases ok<;>simp [Instr.lookup,run_underlying u1,q1,h1,h3,Result.andThen]
      | none =>
       have h2:=h2 w rfl;cases ok<;>simp [Instr.lookup,run_underlying u1,q1,h1,h2,h3,Result.andThen]
     ·cases hM
   ·cases hM
  obtain ⟨es',he,hrun⟩:=key;split at ha
  ·rename_i j u hF
   obtain ⟨r',q1,q2⟩:=ZI (w:=w) hx he hF;match r',q1,q2 with
   | some (j',u'),q1,q2 =>
    cases ha
    refine ⟨_,hrun _ u' q1 rfl (fun _ q=>by cases q),?_⟩;cases ok
    ·exact q2.2
    ·exact VR.tuple _ _ (.cons _ _ _ _ q2.2 (.cons _ _ _ _ (.bool true) .nil))
   | none,_,q2=>exact q2.elim
  ·rename_i hF
   obtain ⟨r',q1,q2⟩:=ZI (w:=w) hx he hF;match r',q1,q2 with
   | none,q1,_ =>
    split at ha
    ·rename_i z hz
     cases ha
     refine ⟨_,hrun _ z q1 rfl (fun w1 _=>(Zi hz w1).1),?_⟩;have hv:=VR.plain f z (Zi (P:=P) hz w).2;cases ok
     ·exact hv
     ·exact VR.tuple _ _ (.cons _ _ _ _ hv (.cons _ _ _ _ (.bool false) .nil))
    ·cases ha
   | some _,_,q2=>exact q2.elim
  ·cases ha
 ·cases ha
theorem Xm:∀ (fs:List Field) (as bs:List Value) (b:Bool),zo P fs as bs=some b→zo P fs bs bs=some true
 | [],as,bs,b,h=>by
  cases as with
  | nil=>cases bs with
   | nil=>rfl
   | cons b bs=>unfold zo at h;cases h
  | cons a as=>unfold zo at h;cases bs<;>cases h
 | g :: fs,as,bs,b,h=>by
  cases as with
  | nil=>unfold zo at h;cases bs<;>cases h
  | cons a as =>
   cases bs with
   | nil=>unfold zo at h;cases h
   | cons c bs =>
    unfold zo at h;split at h
    rotate_left
    ·cases h
    rename_i x y hx hy
    have ih:=Xm fs as bs y hy;unfold zo;rw [ih];have:Jj (P.underlying g.type) c c=some true:=by
     unfold Jj at hx;split at hx
     ·rename_i hu;rw [hu];simp [Jj]
     ·rename_i hu;rw [hu];simp [Jj]
     ·rename_i hu;rw [hu];simp [Jj,zA]
     ·cases hx
    rw [this];rfl
theorem PW {t:TypeId} {a b:List Value} {r:Bool} (h:zN P t a b=some r):zN P t b b=some true:=by
 obtain ⟨fs,hu,hf,h1⟩:=ZM h;unfold zN at h ⊢;rw [hu] at h ⊢;split at h
 ·rename_i fs' e1 e2
  cases e1
  first
   | exact Xm _ _ _ _ h1
   | (rw [e2];exact Xm _ _ _ _ h1)
 ·cases h
theorem VY [Glob] {B:Bs} {f:Emb} {h h':AH} {w:World} (r:Rel B f h w) {t:TypeId} {m m' k k' v:Value} (ha:ZZ P t m k h=some (v,h')) (hm:VR f m m') (hk:VR f k k') :
 ∃ f' v' w',(Instr.mapEntry t m' k').run P w = .ok v' w'∧Rel B f' h' w'∧Turn f h w f' h' w'∧VR f' v v':=by
 unfold ZZ at ha;split at ha
 ·rename_i kt et b hT
  obtain ⟨u1,x,rfl,hx⟩:=qbO hT;obtain rfl:=xg hx hk;rw [show (Value.agg x).cells.toList=x.toList from rfl] at ha;cases hm with
  | map b L hL =>
   split at ha
   ·rename_i es clock hg
    obtain ⟨es',q1,q2⟩:=r.yt (P:=P) hL hg;have h3:=Js hx false w;split at ha
    ·rename_i i u hF
     split at ha
     ·rename_i e eg
      cases ha
      obtain ⟨r',p1,p2⟩:=ZI (w:=w) hx q2 hF;match r',p1,p2 with
      | some (j,u'),p1,p2 =>
       obtain ⟨rfl,hu⟩:=p2;obtain ⟨m,e2,y,em,eg2,ey,es1,-⟩:=y8 hF;obtain rfl:i=m:=by omega
       obtain rfl:e=e2:=Option.some.inj (eg.symm.trans eg2);obtain ⟨e',g1,g2⟩:=q2.get eg;have h1:=ZA hx p1;have g21:=g2.1;rw [ey] at g21;have hs:=VD (P:=P) (qcw (n:=9999) es1 g21 (PW es1)) w;have he2:EsR f (es.modify i fun e=>(.agg x,e.2)) (es'.modify i fun e=>{ e with key:=.agg x }).toList:=by
        rw [Array.toList_modify];exact q2.modify (g:=fun e=>(.agg x,e.2)) (g':=fun e=>{ e with key:=.agg x }) (fun e e' q=>⟨hk,q.2⟩) i
       obtain ⟨w',z1,z2,z3⟩:=r.XI (P:=P) (c2:=clock) hL hg he2;have g1':es'[i]? = some e':=by rw [← zC1];exact g1
       refine ⟨f,.tuple #[u',.int .i64 e'.born],w',?_,z2,z3,?_⟩
       ·simp [Instr.mapEntry,run_underlying u1,q1,h1,h3,g1',hs,z1,Result.andThen,goInt]
       ·have:e.2.2=e'.born:=g2.2.2;rw [this];exact VR.tuple _ _ (.cons _ _ _ _ hu (.cons _ _ _ _ (.int _ _) .nil))
      | none,_,p2=>exact p2.elim
     ·cases ha
    ·rename_i hF
     split at ha
     ·rename_i z hz
      cases ha
      obtain ⟨r',p1,p2⟩:=ZI (w:=w) hx q2 hF;match r',p1,p2 with
      | none,p1,_ =>
       have h1:=ZA hx p1;have h2:=(Zi (P:=P) hz w).1;have hv:=VR.plain f z (Zi (P:=P) hz w).2;have he2:EsR f (es ++ [(.agg x,z,clock)]) (es'.push { key:=.agg x,val:=z,born:=clock }).toList:=by
        rw [Array.toList_push];exact q2.snoc ⟨hk,hv,rfl⟩
       obtain ⟨w',z1,z2,z3⟩:=r.XI (P:=P) (c2:=clock+1) hL hg he2;refine ⟨f,.tuple #[z,.int .i64 clock],w',?_,z2,z3,VR.tuple _ _ (.cons _ _ _ _ hv (.cons _ _ _ _ (.int _ _) .nil))⟩;simp [Instr.mapEntry,run_underlying u1,q1,h1,h2,h3,z1,Result.andThen,goInt]
      | some _,_,p2=>exact p2.elim
     ·cases ha
    ·cases ha
   ·cases ha
 ·cases ha
end
end Go.Proofs.Xx
namespace Go.Proofs.Xx
open Go
section
variable {P:Program}
def GM [Glob] (P:Program) (B:Bs) (f:Emb) (h:AH) (w:World) (s:Sem Next):Xz→Prop
 | .val v h'=>∃ f' v' w',s.run P w = .ok (.value v') w'∧Rel B f' h' w'∧Turn f h w f' h' w'∧VR f' v v'
 | .skip h'=>∃ w',s.run P w = .ok .skip w'∧Rel B f h' w'∧Turn f h w f h' w'
 | .call g args=>∃ args':List Value,s.run P w=(callFunc g args'.toArray).run P w∧VRs f args args'
 | .yield l args=>∃ (L:Loc) (args':List Value),f l=some L∧s.run P w=(Instr.yield L.blk args'.toArray).run P w∧VRs f args args'
theorem zt [Glob] {B:Bs} {f:Emb} {h:AH} {w:World} {s:Sem Value} {o:Option Value} {n:Xz} (r:Rel B f h w) (hn:qU o h=some n)
 (hs:∀ v,o=some v→∃ v',s.run P w = .ok v' w∧VR f v v'):GM P B f h w (do pure (.value (← s))) n:=by
 unfold qU at hn;split at hn
 ·rename_i v
  cases hn
  obtain ⟨v',q1,q2⟩:=hs v rfl;exact ⟨f,v',w,by simp only [zA5,q1,zA1];rfl,r,Turn.refl _ _ _,q2⟩
 ·cases hn
theorem Qn [Glob] {B:Bs} {f:Emb} {h:AH} {w:World} {s:Sem Value} {o:Option (Value×AH)} {n:Xz} (hn:Qb o=some n)
 (hs:∀ v h',o=some (v,h')→∃ f' v' w',s.run P w = .ok v' w'∧Rel B f' h' w'∧Turn f h w f' h' w'∧VR f' v v'):GM P B f h w (do pure (.value (← s))) n:=by
 unfold Qb at hn;split at hn
 ·rename_i v h'
  cases hn
  obtain ⟨f',v',w',q1,q2,q3,q4⟩:=hs v h' rfl;exact ⟨f',v',w',by simp only [zA5,q1,zA1];rfl,q2,q3,q4⟩
 ·cases hn
theorem VRs.cons_inv {f:Emb} {v:Value} {r c:List Value} (h:VRs f (v :: r) c):∃ v' r',c=v' :: r'∧VR f v v'∧VRs f r r':=by
 cases h with
 | cons _ v' _ r' hv hr=>exact ⟨v',r',rfl,hv,hr⟩
theorem VRs.jv {f:Emb} {c:List Value} (h:VRs f [] c):c=[]:=by cases h;rfl
theorem qal [Glob] {B:Bs} {f:Emb} {h h':AH} {w:World} (r:Rel B f h w) {t ty:TypeId} {ts:List TypeId} {d d' x x' v:Value}
 (ha:qfd P t d x h=some (v,h')) (hd:VR f d d') (hx:VR f x x') :
 ∃ f' v' w',(Builtin.copy_ (t :: ts).toArray ty #[d',x']).run P w = .ok v' w'∧Rel B f' h' w'∧Turn f h w f' h' w'∧VR f' v v':=by
 unfold qfd at ha;split at ha
 rotate_left
 ·cases ha
 rename_i e he
 have hu:=QQ he;split at ha
 rotate_left
 ·cases ha
 rename_i z hz
 obtain ⟨i,zv,hi,hzv,hzl,hsz,hz0,hpl⟩:=jy hz;split at ha
 rotate_left
 ·cases ha
 rename_i b o len cap b2 o2 n2 c2
 split at ha
 rotate_left
 ·cases ha
 rename_i hcond
 simp only [zA8] at hcond;have hl1:=zB6 hcond.1;have hn1:=zB6 hcond.2.1;have hn2:=zB6 hcond.2.2;split at ha
 rotate_left
 ·cases ha
 rename_i n new c eb slk hsrc hg
 split at ha
 rotate_left
 ·cases ha
 rename_i h2 hput
 cases ha
 obtain ⟨L,o',hL,rfl,hlc,ho⟩:=hd.jo;obtain ⟨L2,o2',hL2,rfl,hlc2,ho2⟩:=hx.jo;have hmin:Nat.min n2 len≤n2:=Nat.min_le_left _ _;obtain ⟨new',k1,-,k3⟩:=Yw (P:=P) r hsrc (.slice b2 o2 o2' (Nat.min n2 len) c2 L2 hL2 (by omega) ho2);obtain ⟨w',q1,q2,q3⟩:=QS (P:=P) r hL hg hput k1;have ho':o'=⟨L.blk,L.sh+o,none⟩:=by
  rcases ho with ho|⟨h0,-⟩
  ·exact ho
  ·omega
 subst ho';have hfn:n=Nat.min n2 len:=by
  unfold Jn at hsrc;simp only at hsrc;split at hsrc
  ·split at hsrc
   ·cases hsrc;rfl
   ·cases hsrc
  ·cases hsrc
 subst hfn;have k4:=k3 w rfl;simp only [Builtin.firstCells] at k4;refine ⟨f,.int .i64 ((Nat.min n2 len:Nat):Int),w',?_,q2,q3,.int _ _⟩;rw [show (List.toArray (t :: ts))=(t :: ts).toArray from rfl];simp [Builtin.copy_,run_underlying hu,Builtin.lenOf,Builtin.firstCells,sizeOf,typeInfo,hi,hsz,k4,q1]
 try rfl
theorem vz [Glob] {B:Bs} {f:Emb} {h:AH} {w:World} (r:Rel B f h w) {b:Builtin} {types:List TypeId} {ty:TypeId} {consts:Array Bool} {args args':List Value} {n:Xz} (hb:jK P b types args h=some n) (ha:VRs f args args') :
 GM P B f h w (builtin b types.toArray ty consts args'.toArray) n:=by
 unfold jK at hb;split at hb
 ·rename_i t ts x rest
  obtain ⟨x',r',rfl,hx,hr⟩:=ha.cons_inv;exact zt r hb fun v hv=>qbs hv hx r'
 ·rename_i t ts x rest
  obtain ⟨x',r',rfl,hx,hr⟩:=ha.cons_inv;exact zt r hb fun v hv=>qbv hv hx r'
 ·rename_i s x
  obtain ⟨s',r',rfl,hs,hr⟩:=ha.cons_inv;obtain ⟨x',r'',rfl,hx,hr'⟩:=hr.cons_inv;have:=hr'.jv;subst this;exact Qn hb fun v h' hv=>wu r hv hs hx
 ·rename_i t ts s x
  obtain ⟨s',r',rfl,hs,hr⟩:=ha.cons_inv;obtain ⟨x',r'',rfl,hx,hr'⟩:=hr.cons_inv;have:=hr'.jv;subst this;exact Qn hb fun v h' hv=>qal (ts:=ts) r hv hs hx
 ·rename_i x rest
  obtain ⟨x',r',rfl,hx,hr⟩:=ha.cons_inv;refine zt r hb fun v hv=>?_;obtain ⟨v',q1,q2⟩:=XN (P:=P) (w:=w) (fun a a' b b' u hu h1 h2=>KJ hu h1 h2) hv hx hr;exact ⟨v',by simpa [Builtin.min_] using q1,q2⟩
 ·rename_i x rest
  obtain ⟨x',r',rfl,hx,hr⟩:=ha.cons_inv;refine zt r hb fun v hv=>?_;obtain ⟨v',q1,q2⟩:=XN (P:=P) (w:=w) (fun a a' b b' u hu h1 h2=>vV hu h1 h2) hv hx hr;exact ⟨v',by simpa [Builtin.max_] using q1,q2⟩
 ·rename_i t ts x rest
  obtain ⟨x',r',rfl,hx,hr⟩:=ha.cons_inv;split at hb
  ·rename_i h' hc
   cases hb
   obtain ⟨w',q1,q2,q3⟩:=GH (ts:=ts) (ty:=ty) (rs:=r') r hc hx;exact ⟨f,.tuple #[],w',by simp only [builtin,zA5,q1,zA1];rfl,q2,q3,VR.tuple [] [] .nil⟩
  ·cases hb
 ·rename_i x
  obtain ⟨x',r',rfl,hx,hr⟩:=ha.cons_inv;have:=hr.jv;subst this;exact zt r hb fun v hv=>VX hv hx
 ·rename_i p m
  obtain ⟨p',r',rfl,hp,hr⟩:=ha.cons_inv;obtain ⟨m',r'',rfl,hm,hr'⟩:=hr.cons_inv;have:=hr'.jv;subst this;refine Qn hb fun v h' hv=>?_;obtain ⟨v',w',q⟩:=Yn (ty:=ty) r hv hp hm;exact ⟨f,v',w',q⟩
 ·cases hb
theorem pW {f:Emb} {op:BinOp} {t:TypeId} {x y:Operand} {a a' b b' v:Value} {w:World} (h:QO P op t a b=some v) (ha:VR f a a') (hb:VR f b b'):(eqGuard op t x y a' b').run P w = .ok () w:=by
 unfold QO at h;split at h
 ·cases ha;cases hb
  unfold eqGuard;cases op<;>rfl
 ·cases ha;cases hb
  unfold eqGuard;cases op<;>rfl
 ·cases ha;cases hb
  unfold eqGuard;cases op<;>rfl
 ·cases hb
  cases ha with
  | nilSlice=>unfold eqGuard;cases op<;>rfl
  | slice=>unfold eqGuard;cases op<;>rfl
 ·cases hb
  cases ha with
  | nilPointer=>unfold eqGuard;cases op<;>rfl
  | pointer=>unfold eqGuard;cases op<;>rfl
 ·cases ha;cases hb
  unfold eqGuard;cases op<;>rfl
 ·obtain ⟨a',rfl,-⟩:=ha.Yh;obtain ⟨b',rfl,-⟩:=hb.Yh;split at h
  ·split at h
   ·rename_i hp
    obtain ⟨fs,f,g,-,-,-,-,-,-,-,-,-,-,-,hg⟩:=Pq hp;exact run_eqGuard_agg w _ _ _ _ _ _ hg
   ·cases h
  ·split at h
   ·rename_i hq
    exact run_eqGuard_agg w _ _ _ _ _ _ (Vk hq)
   ·cases h
  ·split at h
   ·rename_i hq
    exact run_eqGuard_agg w _ _ _ _ _ _ (Vk hq)
   ·cases h
  ·cases h
 ·cases hb
  cases ha with
  | nilMap=>unfold eqGuard;cases op<;>rfl
  | map=>unfold eqGuard;cases op<;>rfl
 ·cases h
theorem Yi [Glob] {B:Bs} {f:Emb} {h:AH} {w:World} (r:Rel B f h w) {sz:Nat} {t:Tr Value} {tm:Array Value} (T:TR f sz t tm) {o:Oper} {n:Xz} (hop:ja P t h o.op=some n) :
 GM P B f h w (execOp (Zn tm) o) n:=by
 obtain ⟨dst,op,type,pos,after,guard⟩:=o;simp only at hop;unfold execOp;simp only;cases op<;>simp only [ja] at hop<;>dsimp only
 case move x =>
  unfold qU at hop;split at hop
  ·rename_i v hv
   cases hop
   exact ⟨f,_,w,(by first|rfl|(rw [zA5];rfl)),r,Turn.refl _ _ _,qF T hv⟩
  ·cases hop
 case assign x =>
  unfold qU at hop;split at hop
  ·rename_i v hv
   cases hop
   exact ⟨f,_,w,(by first|rfl|(rw [zA5];rfl)),r,Turn.refl _ _ _,qF T hv⟩
  ·cases hop
 case pick c a b =>
  split at hop
  ·rename_i hc
   have:=qF T hc;generalize hq:Zn tm c=c' at this
   cases this
   unfold qU at hop;split at hop
   ·rename_i v hv
    cases hop
    exact ⟨f,_,w,(by first|rfl|(rw [zA5];rfl)),r,Turn.refl _ _ _,qF T hv⟩
   ·cases hop
  ·rename_i hc
   have:=qF T hc;generalize hq:Zn tm c=c' at this
   cases this
   unfold qU at hop;split at hop
   ·rename_i v hv
    cases hop
    exact ⟨f,_,w,(by first|rfl|(rw [zA5];rfl)),r,Turn.refl _ _ _,qF T hv⟩
   ·cases hop
  ·cases hop
 case alloc e =>
  split at hop
  ·rename_i z hz
   split at hop
   ·rename_i hpl
    cases hop
    obtain ⟨f',w',q1,q2,q3,q4⟩:=Va (P:=P) r e (VR.plain f z hpl);refine ⟨f',_,w',?_,q2,q3,q4⟩;simp only [Instr.alloc,zA5,wL hz,zA1,q1,zB1]
   ·cases hop
  ·cases hop
 case box e x =>
  split at hop
  ·rename_i v hv
   cases hop
   obtain ⟨f',w',q1,q2,q3,q4⟩:=Va (P:=P) r e (qF T hv);refine ⟨f',_,w',?_,q2,q3,q4⟩;simp only [Instr.box,zA5,zA1,q1,zB1]
  ·cases hop
 case build ty ps =>
  split at hop
  ·rename_i vs hvs
   refine zt r hop fun v hv=>?_;obtain ⟨v',q1,q2⟩:=GI (w:=w) hv (Zf T hvs);refine ⟨v',?_,q2⟩;rw [← q1];congr 2
   apply Array.ext'
   simp
  ·cases hop
 case buildSlice ty m ps =>
  split at hop
  ·rename_i vs hvs
   refine Qn hop fun v h' hv=>?_;obtain ⟨f',v',w',q1,q2⟩:=Vu r hv (Zf T hvs);refine ⟨f',v',w',?_,q2⟩;rw [← q1];congr 2
   apply Array.ext'
   simp
  ·cases hop
 case load ty a =>
  split at hop
  ·rename_i v hv
   exact zt r hop fun u hu=>WH r hu (qF T hv)
  ·cases hop
 case store ty a x =>
  split at hop
  ·rename_i p v hp hv
   split at hop
   ·rename_i h' hh
    cases hop
    obtain ⟨w',q1,q2⟩:=Gs (P:=P) r hh (qF T hp) (qF T hv);exact ⟨w',by simp only [zA5,q1,zA1];rfl,q2⟩
   ·cases hop
  ·cases hop
 case nilCheck x =>
  split at hop
  ·rename_i a hv
   cases hop
   have:=qF T hv;generalize hq:Zn tm x=x' at this
   have h2:=this;cases this with
   | pointer b o L hb=>exact ⟨f,_,w,rfl,r,Turn.refl _ _ _,h2⟩
  ·cases hop
 case binOp bop ty x y ty2 =>
  split at hop
  ·rename_i a b ha hb
   refine zt r hop fun u hu=>?_;obtain ⟨v',q1,q2⟩:=qbx (w:=w) hu (qF T ha) (qF T hb);exact ⟨v',by simp only [zA5,pW hu (qF T ha) (qF T hb),zA1,q1],q2⟩
  ·cases hop
 case unOp uop ty x =>
  split at hop
  ·rename_i a ha
   exact zt r hop fun u hu=>qdj hu (qF T ha)
  ·cases hop
 case convert s d x =>
  split at hop
  ·rename_i a ha
   split at hop
   ·rename_i v hv
    cases hop
    obtain ⟨v',q1,q2⟩:=y9 (w:=w) hv (qF T ha);exact ⟨f,v',w,by simp only [zA5,q1,zA1];rfl,r,Turn.refl _ _ _,q2⟩
   ·split at hop
    ·rename_i v hv
     cases hop
     obtain ⟨v',q1,q2⟩:=WR r hv (qF T ha);exact ⟨f,v',w,by simp only [zA5,q1,zA1];rfl,r,Turn.refl _ _ _,q2⟩
    ·exact zt r hop fun u hu=>VW r hu (qF T ha)
  ·cases hop
 case makeFunc fn first captured =>
  cases fn<;>simp only at hop
  case func g =>
   split at hop
   ·rename_i a b ha hb
    cases hop
    have h1:=Jh T ha;have h2:=Jh T hb;refine ⟨f,_,w,rfl,r,Turn.refl _ _ _,?_⟩;have e1:first.map (Zn tm)=((first.toList).map (Zn tm)).toArray:=by apply Array.ext';simp
    have e2:captured.map (Zn tm)=((captured.toList).map (Zn tm)).toArray:=by apply Array.ext';simp
    rw [e1,e2];exact .func g _ _ _ _ h1 h2
   ·cases hop
  all_goals cases hop
 case makeSlice ty l c =>
  split at hop
  ·rename_i a b ha hb
   exact Qn hop fun v h' hv=>VZ r hv (qF T ha) (qF T hb)
  ·cases hop
 case makeMap ty rs =>
  cases rs with
  | none =>
   exact Qn hop fun v h' hv=>by
    cases hv
    obtain ⟨f',v',w',q1,q2,q3,q4⟩:=yV (P:=P) r ty;exact ⟨f',v',w',q1,q2,q3,q4⟩
  | some _=>cases hop
 case lookup ty m k ok =>
  split at hop
  ·rename_i a b ha hb
   exact zt r hop fun u hu=>(Px hu).elim (fun hu=>vZ r hu (qF T ha) (qF T hb)) fun hu=>yX r hu (qF T ha) (qF T hb)
  ·cases hop
 case mapUpdate ty m k x =>
  split at hop
  ·rename_i a b c ha hb hc
   split at hop
   ·rename_i h' hh
    cases hop
    obtain ⟨w',q1,q2⟩:=JU (P:=P) r hh (qF T ha) (qF T hb) (qF T hc);exact ⟨w',by simp only [zA5,q1,zA1];rfl,q2⟩
   ·cases hop
  ·cases hop
 case insert ty m k x =>
  split at hop
  ·rename_i a b c ha hb hc
   split at hop
   ·rename_i h' hh
    cases hop
    obtain ⟨w',q1,q2⟩:=JU (P:=P) r hh (qF T ha) (qF T hb) (qF T hc);exact ⟨w',by simp only [zA5,q1,zA1];rfl,q2⟩
   ·cases hop
  ·cases hop
 case mapEntry ty m k =>
  split at hop
  ·rename_i a b ha hb
   exact Qn hop fun v h' hv=>(Px hv).elim (fun hv=>WS r hv (qF T ha) (qF T hb)) fun hv=>VY r hv (qF T ha) (qF T hb)
  ·cases hop
 case entryStore ty m s x =>
  split at hop
  ·rename_i a b c ha hb hc
   split at hop
   ·rename_i h' hh
    cases hop
    obtain ⟨w',q1,q2⟩:=Vt (P:=P) (t:=ty) r hh (qF T ha) (qF T hb) (qF T hc);exact ⟨w',by simp only [zA5,q1,zA1];rfl,q2⟩
   ·cases hop
  ·cases hop
 case slice ty x lo hi mx =>
  split at hop
  ·rename_i a l rr m ha hl hr hm
   split at hop
   ·rename_i q hq
    exact Qn (o:=some q) hop fun v h' hv=>by
     cases hv
     exact vY r hq (qF T ha) (QL T hl) (QL T hr) (QL T hm)
   ·exact zt r hop fun u hu=>Gt r hu (qF T ha) (QL T hl) (QL T hr) (QL T hm)
  ·cases hop
 case fieldAddr s x k =>
  split at hop
  ·rename_i a ha
   exact zt r hop fun u hu=>V5 hu (qF T ha)
  ·cases hop
 case field s x k =>
  split at hop
  ·rename_i a ha
   exact zt r hop fun u hu=>GG hu (qF T ha)
  ·cases hop
 case indexAddr ty x i =>
  split at hop
  ·rename_i a k ha hk
   exact zt r hop fun u hu=>V3 hu (qF T ha) (qF T hk)
  ·cases hop
 case index ty x i =>
  split at hop
  ·rename_i a k ha hk
   exact zt r hop fun u hu=>Gx hu (qF T ha) (qF T hk)
  ·cases hop
 case extract x k =>
  split at hop
  ·rename_i vs ha
   obtain ⟨vs',e,hvs⟩:=(qF T ha).ww;refine zt r hop fun u hu=>?_;obtain ⟨u',q1,q2⟩:=hvs.get _ _ hu;refine ⟨u',?_,q2⟩;rw [zC1] at q1;simp only [e,Instr.extract,q1];rfl
  ·cases hop
 case call c =>
  obtain ⟨callee,args,argTypes⟩:=c;simp only at hop;split at hop
  rotate_left
  ·cases hop
  rename_i vs hvs
  have hargs:=Jh T hvs;have e1:args.map (Zn tm)=((args.toList).map (Zn tm)).toArray:=by apply Array.ext';simp
  split at hop
  ·rename_i b
   have:=vz (ty:=type) (consts:=args.map fun|.const _=>true | _=>false) r hop hargs;rw [← e1,show argTypes.toList.toArray=argTypes by simp] at this;exact this
  ·rename_i g
   split at hop
   ·rename_i fn first captured hf
    cases hop
    obtain ⟨a',c',e,h1,h2⟩:=(qF T hf).PV;refine ⟨a'.toList ++ ((args.toList).map (Zn tm) ++ c'.toList),?_,h1.append (hargs.append h2)⟩;simp only [zA5,resolve,e,Deferred.ofValue,zB1,zA1,invoke];congr 2
    apply Array.ext'
    simp
   ·rename_i l first captured hf
    split at hop
    rotate_left
    ·cases hop
    rename_i z1 z2
    have y1:first=#[]:=Array.ext' z1
    have y2:captured=#[]:=Array.ext' z2;subst y1;subst y2;cases hop
    obtain ⟨L,hL,e⟩:=(qF T hf).qcg;refine ⟨L,_,hL,?_,hargs⟩;simp only [zA5,resolve,e,Deferred.ofValue,zB1,zA1,invoke];congr 2
    apply Array.ext'
    simp
   ·cases hop
  ·cases hop
 all_goals cases hop
end
end Go.Proofs.Xx
namespace Go.Proofs.Xx
open Go
def fr (fn:FuncId) (ro:Option Nat) (tm:Array Value) (todo:List Item) (ds:List Deferred):Frame :=
 { fn:=fn,tmps:=tm,todo:=todo,defers:=ds,mode:=.run,kind:=.normal,roundOf:=ro }
theorem Xj (fn:FuncId) (ro:Option Nat) (tm:Array Value) (todo:List Item) (ds:List Deferred):(fr fn ro tm todo ds).eval=Zn tm:=by
 funext o;cases o<;>rfl
section
variable {P:Program} {fn:FuncId} {ro:Option Nat} {tm:Array Value} {k:List Item} {ds:List Deferred} {cs:List Frame} {w:World}
theorem qbC:step P (lone (fr fn ro tm (.code .skip :: k) ds) cs w) = .next (lone (fr fn ro tm k ds) cs w):=step_lone_go (by simp [stepG,stepG.exec,fr])
theorem qdJ {l:Nat}:step P (lone (fr fn ro tm (.code (.label l) :: k) ds) cs w) = .next (lone (fr fn ro tm k ds) cs w):=step_lone_go (by simp [stepG,stepG.exec,fr])
theorem xI {id:Nat}:step P (lone (fr fn ro tm (.inBlock id :: k) ds) cs w) = .next (lone (fr fn ro tm k ds) cs w):=step_lone_go (by simp [stepG,stepG.exec,fr])
theorem qaE {c:Code}:step P (lone (fr fn ro tm (.inScope c :: k) ds) cs w) = .next (lone (fr fn ro tm k ds) cs w):=step_lone_go (by simp [stepG,stepG.exec,fr])
theorem Jr {x y:Code}:step P (lone (fr fn ro tm (.code (.seq x y) :: k) ds) cs w) = .next (lone (fr fn ro tm (.code x :: .code y :: k) ds) cs w):=step_lone_go (by simp [stepG,stepG.exec,fr])
theorem gW {c:Operand} {x y:Code} {b:Bool} (h:Zn tm c = .bool b):step P (lone (fr fn ro tm (.code (.cond c x y) :: k) ds) cs w) = .next (lone (fr fn ro tm (.code (if b then x else y) :: k) ds) cs w) :=
 step_lone_go (by
  have:=congrFun (Xj fn ro tm (.code (.cond c x y) :: k) ds) c;simp only [fr] at this;simp [stepG,stepG.exec,fr,this,h])
theorem JE {id:Nat} {c:Code}:step P (lone (fr fn ro tm (.code (.block id c) :: k) ds) cs w) = .next (lone (fr fn ro tm (.code c :: .inBlock id :: k) ds) cs w):=step_lone_go (by simp [stepG,stepG.exec,fr])
theorem J9 {c:Code}:step P (lone (fr fn ro tm (.code (.loop c) :: k) ds) cs w) = .next (lone (fr fn ro tm (.code c :: .inLoop c :: k) ds) cs w):=step_lone_go (by simp [stepG,stepG.exec,fr])
theorem wG {c:Code}:step P (lone (fr fn ro tm (.inLoop c :: k) ds) cs w) = .next (lone (fr fn ro tm (.code c :: .inLoop c :: k) ds) cs w):=step_lone_go (by simp [stepG,stepG.exec,fr])
theorem xE {c:Code}:step P (lone (fr fn ro tm (.code (.scope c) :: k) ds) cs w) = .next (lone (fr fn ro tm (.code c :: .inScope c :: k) ds) cs w):=step_lone_go (by simp [stepG,stepG.exec,fr])
theorem qbD {id:Nat} {k':List Item} (h:exitTo id k=some k'):step P (lone (fr fn ro tm (.code (.exit id) :: k) ds) cs w) = .next (lone (fr fn ro tm k' ds) cs w):=step_lone_go (by simp [stepG,stepG.exec,fr,h])
theorem X7 {id:Nat} {ops:Array Oper}:step P (lone (fr fn ro tm (.code (.region id ops false) :: k) ds) cs w) = .next (lone (fr fn ro tm (.inRegion ops (List.range ops.size) :: k) ds) cs w):=step_lone_go (by simp [stepG,stepG.exec,fr])
theorem xG {id:Nat} {ops:Array Oper}:step P (lone (fr fn ro tm (.code (.region id ops true) :: k) ds) cs w) =
 .next (lone (fr fn ro tm (.inRegion ops (Region.schedule (P.follows .mixedOrders) ops (w.tape w.drawn (.order fn id))) :: k) ds) cs { w with drawn:=w.drawn+1 }) :=
 step_lone_go (by simp [stepG,stepG.exec,fr,choose,Sem.run,Question.forced,Question.cut])
theorem Qw {ops:Array Oper}:step P (lone (fr fn ro tm (.inRegion ops [] :: k) ds) cs w) = .next (lone (fr fn ro tm k ds) cs w):=step_lone_go (by simp [stepG,stepG.exec,fr])
def Qu (tm:Array Value) (d:Option Tmp) (v:Value):Array Value:=match d with|some d=>tm.setIfInBounds d v|none=>tm
theorem JO {ops:Array Oper} {i:Nat} {rest:List Nat} (v:Value):(fr fn ro tm (.inRegion ops (i :: rest) :: k) ds).finish v=fr fn ro (Qu tm ((ops[i]?).bind (·.dst)) v) (.inRegion ops rest :: k) ds:=by
 unfold Frame.finish fr Qu;simp only;cases (ops[i]?).bind (·.dst)<;>rfl
theorem xH {ops:Array Oper} {i:Nat} {rest:List Nat} (h:((ops[i]?).map (Region.wanted · (yielded ops tm))).getD false=false) :
 step P (lone (fr fn ro tm (.inRegion ops (i :: rest) :: k) ds) cs w) = .next (lone (fr fn ro (Qu tm ((ops[i]?).bind (·.dst)) undef) (.inRegion ops rest :: k) ds) cs w):=by
 refine step_lone_go ?_;rw [← JO];simp [stepG,stepG.exec,fr,h]
def ZF:Op→Bool
 | .defer _=>true
 | _=>false
theorem jL {ops:Array Oper} {i:Nat} {rest:List Nat} {o:Oper} {v:Value} {w':World} (ho:ops[i]? = some o) (hw:Region.wanted o (yielded ops tm)=true) (hd:ZF o.op=false)
 (hr:(execOp (Zn tm) o).run P w = .ok (.value v) w') :
 step P (lone (fr fn ro tm (.inRegion ops (i :: rest) :: k) ds) cs w) = .next (lone (fr fn ro (Qu tm o.dst v) (.inRegion ops rest :: k) ds) cs w'):=by
 refine step_lone_go ?_;have h1:=JO (fn:=fn) (ro:=ro) (tm:=tm) (k:=k) (ds:=ds) (ops:=ops) (i:=i) (rest:=rest) v;have h2:=Xj fn ro tm (.inRegion ops (i :: rest) :: k) ds;simp only [ho,Option.bind_some] at h1;rw [← h1];simp only [fr] at h2 ⊢;simp only [stepG,stepG.exec,ho,Option.map_some,hw,zH6,if_true,stepG.oper,Frame.oper?];have h3:∀ (x:GStep) (y:Call→GStep),(match ro,o.op with|some l,.defer c=>y c | _,_=>x)=x:=by
  intro x y;cases hop:o.op<;>first|(cases ro<;>rfl)|(rw [hop] at hd;cases hd)
 cases ro with
 | none=>simp [stepG.apply,h2,hr]
 | some l =>
  cases hop:o.op<;>first|(rw [hop] at hd;cases hd;done)|simp [stepG.apply,h2,hr]
end
end Go.Proofs.Xx
namespace Go.Proofs.Xx
open Go
section
variable {P:Program} {fn:FuncId} {ro:Option Nat} {tm:Array Value} {k:List Item} {ds:List Deferred} {cs:List Frame} {w:World}
theorem qaD {ops:Array Oper} {i:Nat} {rest:List Nat} {o:Oper} {w':World} (ho:ops[i]? = some o) (hw:Region.wanted o (yielded ops tm)=true) (hd:ZF o.op=false)
 (hr:(execOp (Zn tm) o).run P w = .ok .skip w') :
 step P (lone (fr fn ro tm (.inRegion ops (i :: rest) :: k) ds) cs w) = .next (lone (fr fn ro (Qu tm o.dst undef) (.inRegion ops rest :: k) ds) cs w'):=by
 refine step_lone_go ?_;have h1:=JO (fn:=fn) (ro:=ro) (tm:=tm) (k:=k) (ds:=ds) (ops:=ops) (i:=i) (rest:=rest) undef;have h2:=Xj fn ro tm (.inRegion ops (i :: rest) :: k) ds;simp only [ho,Option.bind_some] at h1;rw [← h1];simp only [fr] at h2 ⊢;simp only [stepG,stepG.exec,ho,Option.map_some,hw,zH6,if_true,stepG.oper,Frame.oper?];cases ro with
 | none=>simp [stepG.apply,h2,hr]
 | some l =>
  cases hop:o.op<;>first|(rw [hop] at hd;cases hd;done)|simp [stepG.apply,h2,hr]
theorem pI {ops:Array Oper} {i:Nat} {rest:List Nat} {o:Oper} {w':World} {g:FuncId} {args:Array Value} (ho:ops[i]? = some o) (hw:Region.wanted o (yielded ops tm)=true) (hd:ZF o.op=false)
 (hr:(execOp (Zn tm) o).run P w = .ok (.enter g args) w') :
 step P (lone (fr fn ro tm (.inRegion ops (i :: rest) :: k) ds) cs w) = .next (lone (Frame.enter P g args .normal) (fr fn ro tm (.inRegion ops (i :: rest) :: k) ds :: cs) w'):=by
 refine step_lone_go ?_;have h2:=Xj fn ro tm (.inRegion ops (i :: rest) :: k) ds;simp only [fr] at h2 ⊢;simp only [stepG,stepG.exec,ho,Option.map_some,hw,zH6,if_true,stepG.oper,Frame.oper?];cases ro with
 | none=>simp [stepG.apply,h2,hr]
 | some l =>
  cases hop:o.op<;>first|(rw [hop] at hd;cases hd;done)|simp [stepG.apply,h2,hr]
theorem pG {ops:Array Oper} {i:Nat} {rest:List Nat} {o:Oper} {w':World} {l:Nat} {g:FuncId} {t:Array Value} {asg bo:Code} (ho:ops[i]? = some o) (hw:Region.wanted o (yielded ops tm)=true) (hd:ZF o.op=false)
 (hr:(execOp (Zn tm) o).run P w = .ok (.round l g t asg bo) w') :
 step P (lone (fr fn ro tm (.inRegion ops (i :: rest) :: k) ds) cs w) = .next (lone (fr g (some l) t [.code asg,.beginRound,.code bo] []) (fr fn ro tm (.inRegion ops (i :: rest) :: k) ds :: cs) w'):=by
 refine step_lone_go ?_;have h2:=Xj fn ro tm (.inRegion ops (i :: rest) :: k) ds;simp only [fr] at h2 ⊢;simp only [stepG,stepG.exec,ho,Option.map_some,hw,zH6,if_true,stepG.oper,Frame.oper?];cases ro with
 | none=>simp [stepG.apply,h2,hr,Frame.round]
 | some l =>
  cases hop:o.op<;>first|(rw [hop] at hd;cases hd;done)|simp [stepG.apply,h2,hr,Frame.round]
theorem vK {l:Nat} {w':World} (hr:(Instr.beginRound l).run P w = .ok () w') :
 step P (lone (fr fn (some l) tm (.beginRound :: k) ds) cs w) = .next (lone (fr fn (some l) tm k ds) cs w') :=
 step_lone_go (by simp [stepG,stepG.exec,fr,stepG.apply,hr,Frame.finish])
theorem gU {l:Nat} {w':World} {v:Value} {c:Frame} (hr:(Instr.endRound l none).run P w = .ok v w') :
 step P (lone (fr fn (some l) tm [] ds) (c :: cs) w) = .next (lone (c.finish v) cs w') :=
 step_lone_go (by simp [stepG,stepG.exec,fr,hr,doReturn])
theorem gQ {l:Nat} {w':World} {v:Value} {c:Frame} (hr:(Instr.endRound l (some .ret)).run P w = .ok v w') :
 step P (lone (fr fn (some l) tm (.code .ret :: k) ds) (c :: cs) w) = .next (lone (c.finish v) cs w') :=
 step_lone_go (by simp [stepG,stepG.exec,fr,hr,doReturn])
theorem vJ {l id:Nat} {w':World} {v:Value} {c:Frame} (he:exitTo id k=none) (hr:(Instr.endRound l (some (.exit id))).run P w = .ok v w') :
 step P (lone (fr fn (some l) tm (.code (.exit id) :: k) ds) (c :: cs) w) = .next (lone (c.finish v) cs w') :=
 step_lone_go (by simp [stepG,stepG.exec,fr,he,hr,doReturn])
def gone (fn:FuncId) (tm:Array Value) (todo:List Item) (ds:List Deferred):Frame:={ fn:=fn,tmps:=tm,todo:=todo,defers:=ds,mode:=.returning,kind:=.normal,roundOf:=none }
theorem qaC:step P (lone (fr fn none tm (.code .ret :: k) ds) cs w) = .next (lone (gone fn tm (.code .ret :: k) ds) cs w):=step_lone_go (by simp [stepG,stepG.exec,fr,gone])
theorem qdK:step P (lone (fr fn none tm [] ds) cs w) = .next (lone (gone fn tm [] ds) cs w):=step_lone_go (by simp [stepG,stepG.exec,fr,gone])
theorem qfv {r:Nat} {w':World} (hr:(Instr.takeDeferred r).run P w = .ok [] w'):step P (lone (gone fn tm k ({ target:=.collected r,args:=#[] } :: ds)) cs w) = .next (lone (gone fn tm k ds) cs w') :=
 step_lone_go (by simp [stepG,unwind,gone,hr])
theorem wE {c:Frame} {f:Func} {v:Value} {w':World} (hf:P.funcs[fn]? = some f) (hr:(results f tm).run P w = .ok v w'):step P (lone (gone fn tm k []) (c :: cs) w) = .next (lone (c.finish v) cs w') :=
 step_lone_go (by simp [stepG,unwind,gone,hf,hr,doReturn])
theorem gK {f:Operand} {ps:Array Tmp} {asg bo:Code} {g:FuncId} {first captured args:Array Value} {w1 w2:World} {l r:Nat}
 (he:(Instr.enterLoop fn tm ps asg bo none).run P w = .ok (l,[{ target:=.collected r,args:=#[] }]) w1) (hf:Zn tm f = .func (.func g) first captured)
 (hc:(callFunc g (first ++ #[.func (.yield l) #[] #[]] ++ captured)).run P w1 = .ok (.enter g args) w2) :
 step P (lone (fr fn none tm (.code (.rangeFunc f ps asg bo) :: k) ds) cs w) =
  .next (lone (Frame.enter P g args .normal) (fr fn none tm (.inRangeFunc l :: k) ({ target:=.collected r,args:=#[] } :: ds) :: cs) w2):=by
 refine step_lone_go ?_;have h2:=Xj fn none tm (.inRangeFunc l :: k) ({ target:=.collected r,args:=#[] } :: ds);simp only [fr] at h2 ⊢;simp [stepG,stepG.exec,he,stepG.apply,resolve,h2,hf,Deferred.ofValue,invoke]
 have h9:first ++ #[Value.func (.yield l) #[] #[]] ++ captured=first.push (.func (.yield l) #[] #[]) ++ captured:=by apply Array.ext';simp
 rw [h9] at hc;simp [Zn,hc]
theorem YB {f:Operand} {ps:Array Tmp} {asg bo:Code} {g:FuncId} {first captured:Array Value} {v:Value} {w1 w2:World} {l r:Nat}
 (he:(Instr.enterLoop fn tm ps asg bo none).run P w = .ok (l,[{ target:=.collected r,args:=#[] }]) w1) (hf:Zn tm f = .func (.func g) first captured)
 (hc:(callFunc g (first ++ #[.func (.yield l) #[] #[]] ++ captured)).run P w1 = .ok (.value v) w2) :
 step P (lone (fr fn none tm (.code (.rangeFunc f ps asg bo) :: k) ds) cs w) =
  .next (lone (fr fn none tm (.endRangeFunc l :: k) ({ target:=.collected r,args:=#[] } :: ds)) cs w2):=by
 refine step_lone_go ?_;have h2:=Xj fn none tm (.inRangeFunc l :: k) ({ target:=.collected r,args:=#[] } :: ds);simp only [fr] at h2 ⊢;simp [stepG,stepG.exec,he,stepG.apply,resolve,h2,hf,Deferred.ofValue,invoke]
 have h9:first ++ #[Value.func (.yield l) #[] #[]] ++ captured=first.push (.func (.yield l) #[] #[]) ++ captured:=by apply Array.ext';simp
 rw [h9] at hc;simp [Zn,hc,Frame.finish]
theorem qdp {l:Nat} (v:Value):(fr fn ro tm (.inRangeFunc l :: k) ds).finish v=fr fn ro tm (.endRangeFunc l :: k) ds:=rfl
theorem XF {l:Nat} {j:Option Code} {w':World} (hr:(Instr.endLoop l).run P w = .ok j w') :
 step P (lone (fr fn ro tm (.endRangeFunc l :: k) ds) cs w) = .next (lone (fr fn ro tm ((j.map Item.code).toList ++ k) ds) cs w') :=
 step_lone_go (by simp [stepG,stepG.exec,fr,hr])
end
end Go.Proofs.Xx
