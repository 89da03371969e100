/-
  The arguments of a call,as read-only blocks of the abstract memory.
-/
import Derived.Test.YtidmdnenlgjpeaaGreatDoorM5
import Derived.Test.YtidmdnenlgjpeaaGreatDoorM14
import Derived.ChangeArms
import Derived.OpenShut
import Derived.Test.YtidmdnenlgjpeaaGreatDoorM3
import Derived.WideShapes
import Derived.ChangeShapes
import Derived.ChangeSame
import Derived.Test.YtidmdnenlgjpeaaGreatDoorM6
import Derived.Test.YtidmdnenlgjpeaaGreatDoorM9
import Derived.Test.YtidmdnenlgjpeaaGreatDoorM11
import Derived.Test.YtidmdnenlgjpeaaGreatDoorM8
import Derived.Test.YtidmdnenlgjpeaaGreatDoorRows
import Derived.Lib.LaidTab
import Derived.Stop.LaidErr
import Derived.Shelf.Vars
set_option linter.unusedSimpArgs false
set_option linter.unusedVariables false
set_option maxRecDepth 100000
set_option linter.unusedSectionVars false
namespace Go.Proofs.Xx
open Go Go.RowKit
section
variable {P:Program}
theorem Rel.qad [Glob] {B:Bs} {e:Emb} {h:AH} {w:World} (r:Rel B e h w) {k sh:Nat} {cc:Array Value} {el:TypeId} {fr:Nat×Nat} {c:List Value} (hkB:k<B.lo) (hk:w.heap[k]? = some (.cells cc el fr)) (hsz:sh+c.length≤cc.size)
 (hc:∀ i v,c[i]? = some v→∃ v',cc[sh+i]? = some v'∧VR (e.put h.next ⟨k,sh,0⟩) v v') :
 Rel B (e.put h.next ⟨k,sh,0⟩) (h.add (.cells c el none true)) w∧e.le (e.put h.next ⟨k,sh,0⟩):=by
 have hle:=r.QE ⟨k,sh,0⟩;have hlt:k<w.heap.size:=(zB9.1 hk).1;refine ⟨⟨fun b M q=>?_,fun b hb=>?_,fun b M q=>?_,fun b M p q1 q2=>?_,fun b M p b' M' p' e1 e2 e3 e4 e5 e6 e7=>?_,fun b M p q1 q2 q3=>?_,r.base,r.keep,r.glob⟩,hle⟩
 ·by_cases hb:b=h.next
  ·subst hb;exact zG0 _
  ·rw [Emb.qY _ _ hb] at q;exact Nat.lt_succ_of_lt (r.dom b M q)
 ·have hb':h.next+1≤b:=hb
  rw [AH.qW,if_neg (by omega)];exact r.wf b (by omega)
 ·by_cases hb:b=h.next
  ·subst hb;rw [Emb.qN] at q;cases q;exact hlt
  ·rw [Emb.qY _ _ hb] at q;exact r.rng b M q
 ·rw [AH.qW] at q2;by_cases hb:b=h.next
  ·subst hb;rw [Emb.qN] at q1;cases q1;rw [if_pos rfl] at q2;cases q2
   exact ⟨cc,fr,hk,hsz,hc,(fun _=>⟨rfl,fun q=>by cases q⟩),(fun _ q=>by cases q),(fun q=>by cases q)⟩
  ·rw [Emb.qY _ _ hb] at q1;rw [if_neg hb] at q2;exact (r.obj b M p q1 q2).mono hle
 ·rw [AH.qW] at e2 e4;by_cases hb':b'=h.next
  ·subst hb';rw [if_pos rfl] at e4;cases e4;cases e7
  ·rw [Emb.qY _ _ hb'] at e3;rw [if_neg hb'] at e4;by_cases hb:b=h.next
   ·subst hb;rw [Emb.qN] at e1;cases e1
    rw [if_pos rfl] at e2;cases e2
    have:=r.own b' M' p' e3 e4 e7;simp only at e5;omega
   ·rw [Emb.qY _ _ hb] at e1;rw [if_neg hb] at e2;exact r.inj b M p b' M' p' e1 e2 e3 e4 e5 e6 e7
 ·rw [AH.qW] at q2;by_cases hb:b=h.next
  ·subst hb;rw [if_pos rfl] at q2;cases q2;cases q3
  ·rw [Emb.qY _ _ hb] at q1;rw [if_neg hb] at q2;exact r.own b M p q1 q2 q3
def Bs.of (w:World):Bs:=⟨w.heap.size,w.heap⟩
def RoH (h:AH):Prop:=∀ b o,h.get b=some o→Jf o=false
structure WRel [Glob] (w:World) (e:Emb) (h:AH):Prop where
 rel:Rel (Bs.of w) e h w
 ro:RoH h
theorem WRel.empty [Glob] {w:World} (hg:Glob.ok w.heap.size w.heap):WRel w (fun _=>none) ⟨.e,0,0⟩ :=
 ⟨⟨fun b L q=>(by cases q),fun b _=>Tr.yU b,fun b L q=>(by cases q),fun b L o q=>(by cases q),fun b L o b' L' o' q=>(by cases q),fun b L o q=>(by cases q),zA3 _,fun _ _=>rfl,hg⟩,
  fun b o q=>by rw [show (⟨.e,0,0⟩:AH).get b=none from Tr.yU b] at q;cases q⟩
theorem WRel.wfH [Glob] {w:World} {e:Emb} {h:AH} (r:WRel w e h):WfH h:=r.rel.wf
theorem WRel.qad [Glob] {e:Emb} {h:AH} {w:World} (r:WRel w e h) {k sh:Nat} {cc:Array Value} {el:TypeId} {fr:Nat×Nat} {c:List Value} (hk:w.heap[k]? = some (.cells cc el fr)) (hsz:sh+c.length≤cc.size)
 (hc:∀ i v,c[i]? = some v→∃ v',cc[sh+i]? = some v'∧VR e v v') :
 ∃ e',WRel w e' (h.add (.cells c el none true))∧e.le e'∧Ext h (h.add (.cells c el none true))∧e' h.next=some ⟨k,sh,0⟩:=by
 have hle:=r.rel.QE ⟨k,sh,0⟩;obtain ⟨r1,r2⟩:=Rel.qad (sh:=sh) (c:=c) r.rel (show k<w.heap.size from (zB9.1 hk).1) hk hsz (fun i v hi=>by obtain ⟨v',h1,h2⟩:=hc i v hi;exact ⟨v',h1,h2.mono hle⟩);refine ⟨_,⟨r1,fun b o q=>?_⟩,r2,(Ext.refl r.wfH).add _,Emb.qN _ _ _⟩;rw [AH.qW] at q;split at q
 ·cases q;rfl
 ·exact r.ro b o q
def AR (P:Program) (h:AH):Nat→TypeId→List Value→Prop
 | 0,_,_=>False
 | f+1,t,cs =>
  match P.underlying t,cs with
  | some .bool,[.bool _]=>True
  | some (.int k),[.int k' n]=>k'=k∧(Lit.int k n).wf=true
  | some .string,[.string s]=>s.size≤maxLen
  | some (.slice e),[v]=>∃ n c,Rd h v (P.cellsOf e) n c∧(n≤maxLen∧n*P.bytesOf e≤reachBytes)∧ZI v∧∀ i,i<n→AR P h f e ((c.drop (i*P.cellsOf e)).take (P.cellsOf e))
  | some (.struct fs),cs=>cs.length=P.cellsOf t∧∀ fd∈fs.toList,AR P h f fd.type ((cs.drop fd.offset).take (P.cellsOf fd.type))
  | some (.array n e),cs=>cs.length=P.cellsOf t∧∀ i,i<n→AR P h f e ((cs.drop (i*P.cellsOf e)).take (P.cellsOf e))
  | _,_=>False
theorem AR.ext {h h':AH} (w:WfH h) (x:Ext h h'):∀ (f:Nat) (t:TypeId) (cs:List Value),AR P h f t cs→AR P h' f t cs
 | 0,_,_,q=>q
 | f+1,t,cs,q=>by
  unfold AR at q ⊢;split at q
  ·exact q
  ·exact q
  ·exact q
  ·obtain ⟨n,c,h1,h2,hc,h3⟩:=q;exact ⟨n,c,h1.ext w x,h2,hc,fun i hi=>AR.ext w x f _ _ (h3 i hi)⟩
  ·exact ⟨q.1,fun fd hf=>AR.ext w x f _ _ (q.2 fd hf)⟩
  ·exact ⟨q.1,fun i hi=>AR.ext w x f _ _ (q.2 i hi)⟩
  ·exact q
section
variable {H:Type} {enc:TypeId×Value→H}
def Light (P:Program) (t:TypeId) (d:DataW H):Prop:=∀ n∈DataW.weights P t d,n≤reachBytes
theorem JX:∀ (ts:List TypeId) (ds:List (DataW H)) (j:Nat) (t:TypeId) (d:DataW H),ts[j]? = some t→ds[j]? = some d→∀ n∈DataW.weights P t d,n∈DataW.weightsEach P ts ds
 | [],_,_,_,_,q,_=>by simp at q
 | _ :: _,[],_,_,_,_,q=>by simp at q
 | t :: ts,d :: ds,0,_,_,q1,q2=>by
  simp only [List.getElem?_cons_zero,Option.some.injEq] at q1 q2;subst q1;subst q2;intro n hn;rw [DataW.weightsEach];exact List.mem_append_left _ hn
 | t :: ts,d :: ds,j+1,_,_,q1,q2=>by
  intro n hn;rw [DataW.weightsEach];exact List.mem_append_right _ (JX ts ds j _ _ (by simpa using q1) (by simpa using q2) n hn)
theorem weightsAll_mem (e:TypeId):∀ (ds:List (DataW H)) (j:Nat) (d:DataW H),ds[j]? = some d→∀ n∈DataW.weights P e d,n∈DataW.weightsAll P e ds
 | [],_,_,q=>by simp at q
 | d :: ds,0,_,q=>by
  simp only [List.getElem?_cons_zero,Option.some.injEq] at q;subst q;intro n hn;rw [DataW.weightsAll];exact List.mem_append_left _ hn
 | d :: ds,j+1,_,q=>by
  intro n hn;rw [DataW.weightsAll];exact List.mem_append_right _ (weightsAll_mem e ds j _ (by simpa using q) n hn)
theorem Light.field {t:TypeId} {fs:Array Field} {ds:List (DataW H)} (hu:P.underlying t=some (.struct fs)) (hl:Light P t (.agg ds)) {i:Nat} {f:Field} {d:DataW H} (hf:fs[i]? = some f) (hd:ds[i]? = some d):Light P f.type d:=fun n hn=>by
 refine hl n ?_;rw [DataW.weights,hu];exact JX _ _ i _ _ (by simp [hf]) hd n hn
theorem Light.item {t e:TypeId} {k:Nat} {ds:List (DataW H)} (hu:P.underlying t=some (.array k e)) (hl:Light P t (.agg ds)) {i:Nat} {d:DataW H} (hd:ds[i]? = some d):Light P e d:=fun n hn=>by
 refine hl n ?_;rw [DataW.weights,hu];exact weightsAll_mem e _ i _ hd n hn
theorem Light.elem {t e:TypeId} {ds rs:List (DataW H)} (hu:P.underlying t=some (.slice e)) (hl:Light P t (.slice ds rs)) {i:Nat} {d:DataW H} (hd:ds[i]? = some d):Light P e d:=fun n hn=>by
 refine hl n ?_;rw [DataW.weights,hu];exact List.mem_cons_of_mem _ (List.mem_append_left _ (weightsAll_mem e _ i _ hd n hn))
theorem Light.slice {t e:TypeId} {ds rs:List (DataW H)} (hu:P.underlying t=some (.slice e)) (hl:Light P t (.slice ds rs)):ds.length*P.bytesOf e≤reachBytes:=by
 have h1:=hl ((ds.length+rs.length)*P.bytesOf e) (by rw [DataW.weights,hu];exact List.mem_cons_self);exact zD0 (zD3 _ (Nat.le_add_right _ _)) h1
theorem kU:∀ (fs:List Field) (a n:Nat),yB P fs a n=true→a≤n
 | [],a,n,h=>by have:=zA6 h;omega
 | f :: r,a,n,h=>by
  simp only [yB,zA8] at h;have:=kU r _ n h.2;omega
def qcl [Glob] (enc:TypeId×Value→H) (P:Program) (w:World) (base:Nat) (sp:Nat→Bool) (held:Bool) (n:Nat) (t:TypeId) (cs:List Value):Prop:=∀ e h,WRel w e h→∃ e' h' r,WRel w e' h'∧e.le e'∧Ext h h'∧VRs e' r cs∧AR P h' n t r
theorem VW [Glob] {w:World} {base n:Nat} {sp:Nat→Bool} {held:Bool} {cs:List Value}:∀ (fs:List Field) (a:Nat),yB P fs a cs.length=true →
 (∀ fd∈fs,qcl enc P w base sp held n fd.type ((cs.drop fd.offset).take (P.cellsOf fd.type)))→∀ e h,WRel w e h →
 ∃ e' h' r,WRel w e' h'∧e.le e'∧Ext h h'∧VRs e' r (cs.drop a)∧∀ fd∈fs,a≤fd.offset∧AR P h' n fd.type ((r.drop (fd.offset - a)).take (P.cellsOf fd.type))
 | [],a,ht,_,e,h,r=>by
  have:=zA6 ht;exact ⟨e,h,[],r,e.le_refl,Ext.refl r.wfH,by rw [this,List.drop_length];exact .nil,fun fd q=>by cases q⟩
 | f :: fs,a,ht,hk,e,h,r=>by
  simp only [yB,zA8] at ht;have hoff:=zA6 ht.1;have hle:=kU fs _ _ ht.2;obtain ⟨e1,h1,c1,r1,l1,x1,v1,a1⟩:=hk f (by simp) e h r;obtain ⟨e2,h2,c2,r2,l2,x2,v2,a2⟩:=VW fs _ ht.2 (fun fd q=>hk fd (by simp [q])) e1 h1 r1;have hc1:c1.length=P.cellsOf f.type:=by
   have:=v1.length;rw [zA9,zB4,hoff] at this;omega
  refine ⟨e2,h2,c1 ++ c2,r2,Emb.le_trans l1 l2,x1.trans x2,?_,?_⟩
  ·have:=(v1.mono l2).append v2;rw [hoff,← List.drop_drop,zH1] at this;exact this
  ·intro fd q;rcases zE8.1 q with rfl|q
   ·refine ⟨by omega,?_⟩;rw [hoff,zG6,List.drop_zero,List.take_append_of_le_length (by omega),zF8 (by omega)];exact a1.ext r1.wfH x2 _ _ _
   ·obtain ⟨q1,q2⟩:=a2 fd q;refine ⟨by omega,?_⟩;rw [show fd.offset - a=c1.length+(fd.offset - (a+P.cellsOf f.type)) by omega,← List.drop_drop,List.drop_left];exact q2
theorem xw [Glob] {w:World} {base n:Nat} {sp:Nat→Bool} {held:Bool} {ty:TypeId} {z:Nat} {cs:List Value}:∀ (k:Nat),k*z≤cs.length →
 (∀ i,i<k→qcl enc P w base sp held n ty ((cs.drop (i*z)).take z))→∀ e h,WRel w e h →
 ∃ e' h' r,WRel w e' h'∧e.le e'∧Ext h h'∧VRs e' r (cs.take (k*z))∧∀ i,i<k→AR P h' n ty ((r.drop (i*z)).take z)
 | 0,_,_,e,h,r=>⟨e,h,[],r,e.le_refl,Ext.refl r.wfH,by simp;exact .nil,fun i q=>by omega⟩
 | k+1,hk,ht,e,h,r=>by
  rw [zE1,Nat.one_mul] at hk;obtain ⟨e1,h1,c1,r1,l1,x1,v1,a1⟩:=xw k (by omega) (fun i q=>ht i (by omega)) e h r;obtain ⟨e2,h2,c2,r2,l2,x2,v2,a2⟩:=ht k (by omega) e1 h1 r1;have hc1:c1.length=k*z:=by
   have:=v1.length;rw [zA9] at this;omega
  have hc2:c2.length=z:=by
   have:=v2.length;rw [zA9,zB4] at this;omega
  refine ⟨e2,h2,c1 ++ c2,r2,Emb.le_trans l1 l2,x1.trans x2,?_,fun i hi=>?_⟩
  ·have:=(v1.mono l2).append v2;rw [zE1,Nat.one_mul,List.take_add];exact this
  ·by_cases hik:i<k
   ·have:(i+1)*z≤k*z:=zD3 z hik;rw [zE1,Nat.one_mul] at this;rw [List.drop_append_of_le_length (by omega),List.take_append_of_le_length (by rw [zB4];omega)];exact (a1 i hik).ext r1.wfH x2 _ _ _
   ·obtain rfl:i=k:=by omega
    rw [← hc1,List.drop_left,zF8 (by omega)];exact a2
theorem embed [Glob] {w:World} {base:Nat} {sp:Nat→Bool} (hsp:∀ b,sp b=true) {held:Bool} (hw:∃ (k:Nat) (cc:Array Value) (el:TypeId) (fr:Nat×Nat),w.heap[k]? = some (.cells cc el fr)):∀ (n m:Nat) (t:TypeId) (cs:List Value) (x:DataW H×List MemPlace),QQ P m t=true →
 DataW.trod enc P w base sp held n t cs=some x→Light P t x.1→qcl enc P w base sp held n t cs
 | 0,_,_,_,_,_,h,_=>by simp [DataW.trod] at h
 | _+1,0,_,_,_,h,_,_=>by cases h
 | n+1,m+1,t,cs,x,hp,h,hlt=>by
  intro e h0 r;unfold QQ at hp;cases hu:P.underlying t with
  | none=>rw [hu] at hp;cases hp
  | some u =>
   rw [hu] at hp;cases u with
   | bool =>
    obtain ⟨b,rfl,-⟩:=DataW.trod_bool hu h;exact ⟨e,h0,[.bool b],r,e.le_refl,Ext.refl r.wfH,.one (.bool b),by unfold AR;rw [hu];trivial⟩
   | int k =>
    obtain ⟨b,rfl,-,hwf⟩:=DataW.trod_int hu h;exact ⟨e,h0,[.int k b],r,e.le_refl,Ext.refl r.wfH,.one (.int k b),by unfold AR;rw [hu];exact ⟨rfl,hwf⟩⟩
   | string =>
    obtain ⟨s,rfl,-,hs⟩:=DataW.trod_string hu h;exact ⟨e,h0,[.string s],r,e.le_refl,Ext.refl r.wfH,.one (.string s),by unfold AR;rw [hu];exact hs⟩
   | struct fs =>
    simp only [zA8,zC8] at hp;obtain ⟨xs,n',hn,hxe,hlen,hxl,hf⟩:=DataW.trod_struct hu h;rw [hxe] at hlt;obtain rfl:n'=n:=by omega
    obtain ⟨e1,h1,c1,r1,l1,x1,v1,a1⟩:=VW fs.toList 0 (by rw [hlen];exact hp.2) (fun fd hfd=>by
     obtain ⟨i,hi,rfl⟩:=List.getElem_of_mem hfd;have hg:fs[i]? = some fs.toList[i]:=by rw [← zC1];exact zA4 hi
     have h2:=hf i _ hg;have hix:i<xs.length:=by rw [hxl];simpa using hi
     rw [zA4 hix] at h2;exact embed hsp hw n' m _ _ _ (hp.1 _ (List.getElem_mem hi)) h2 (hlt.field hu hg (by rw [zH9,zA4 hix];rfl))) e h0 r
    refine ⟨e1,h1,c1,r1,l1,x1,by simpa using v1,?_⟩;unfold AR;rw [hu];have hl1:=v1.length;simp only [List.drop_zero] at hl1;exact ⟨by omega,fun fd hfd=>by have:=(a1 fd hfd).2;simpa using this⟩
   | array k el =>
    simp only [zA8] at hp;have hsz:=zA6 hp.2;obtain ⟨xs,n',hn,hxe,hlen,hxl,hf⟩:=DataW.trod_array hu h;rw [hxe] at hlt;obtain rfl:n'=n:=by omega
    obtain ⟨e1,h1,c1,r1,l1,x1,v1,a1⟩:=xw (z:=P.cellsOf el) (ty:=el) (cs:=cs) k (by omega) (fun i hi=>by
     have h2:=hf i hi;have hix:i<xs.length:=by omega
     rw [zA4 hix] at h2;exact embed hsp hw n' m _ _ _ hp.1 h2 (hlt.item hu (by rw [zH9,zA4 hix];rfl))) e h0 r
    rw [zF8 (by omega)] at v1;refine ⟨e1,h1,c1,r1,l1,x1,v1,?_⟩;unfold AR;rw [hu];exact ⟨by have:=v1.length;omega,a1⟩
   | slice el =>
    simp only [zA8,zG3] at hp;have hz:P.cellsOf el≠0:=fun q=>by have:=hp.2.2;rw [q] at this;simp at this
    rcases DataW.trod_slice hu h with ⟨rfl,-⟩|⟨a,len,cap,elems,rest,n',hn,rfl,hxe,hb,hl,hm,hlen,hel,hrest,-⟩
    ·refine ⟨e,h0,[.slice none 0 0],r,e.le_refl,Ext.refl r.wfH,.one .nilSlice,?_⟩;unfold AR;rw [hu];exact ⟨0,[],Rd.none_ _ _,⟨zB0 _,by rw [Nat.zero_mul];exact zB0 _⟩,zA3 _,fun i hi=>by omega⟩
    ·obtain rfl:n'=n:=by omega
     rw [hxe] at hlt;have hwt:len*P.bytesOf el≤reachBytes:=by have:=hlt.slice hu;rwa [zC5,hlen] at this
     obtain ⟨hr1,hr2⟩:=hrest (hsp _);rcases zF4 cap with hc0|hc0
     ·subst hc0;obtain rfl:len=0:=by omega
      obtain ⟨k,cc,el0,fr,hk⟩:=hw;obtain ⟨e1,r1,l1,x1,q1⟩:=r.qad (sh:=0) (c:=[]) hk (by simp) (fun i v hi=>by simp at hi);refine ⟨e1,_,[.slice (some ⟨h0.next,0,none⟩) 0 0],r1,l1,x1,.one (.slice h0.next 0 a 0 0 ⟨k,0,0⟩ q1 (zA3 _) (.inr ⟨rfl,rfl⟩)),?_⟩;unfold AR;rw [hu];exact ⟨0,[],.inr ⟨h0.next,0,0,[],el0,none,true,rfl,by rw [AH.qW,if_pos rfl],by simp [zo]⟩,⟨zB0 _,by rw [Nat.zero_mul];exact zB0 _⟩,zA3 _,fun i hi=>by omega⟩
     ·
      have hfirst:∃ cs0 y,w.cells? base a (P.cellsOf el)=some cs0∧DataW.trod enc P w base sp held n' el cs0=some y:=by
       rcases zF4 len with h0'|h0'
       ·have h2:=hr2 0 (by omega);have hix:0<rest.length:=by omega
        rw [zA4 hix,h0',Option.bind_eq_some_iff] at h2;obtain ⟨cs0,q1,q2⟩:=h2;exact ⟨cs0,_,by simpa [Addr.add] using q1,q2⟩
       ·have h2:=hel 0 h0';have hix:0<elems.length:=by omega
        rw [zA4 hix,Option.bind_eq_some_iff] at h2;obtain ⟨cs0,q1,q2⟩:=h2;exact ⟨cs0,_,by simpa [Addr.add] using q1,q2⟩
      obtain ⟨cs0,y0,g1,-⟩:=hfirst;obtain ⟨-,g2,g3⟩:=World.cells?_some g1;have g4:=g3 0 (by omega);rw [zA4 (by omega)] at g4;obtain ⟨ab,ao,asp⟩:=a;simp only [Addr.add,if_true] at g4;unfold World.cell? at g4;simp only at g4;cases hblk:w.heap[ab]? with
      | none=>rw [hblk] at g4;cases g4
      | some ob =>
       rw [hblk] at g4;cases ob with
       | cells cc el0 fr =>
        simp only at g4;cases asp with
        | some s=>simp at g4
        | none =>
         simp only [Option.isSome_none,zD9,if_false] at g4;have hao:ao<cc.size:=(zB9.1 g4).1;have hcell:∀ (i:Nat) (v:Value),w.cell? ⟨ab,ao+i,none⟩=some v↔cc[ao+i]? = some v:=fun i v=>by
          unfold World.cell?;simp [hblk]
         have helem:∀ i,i<len→∃ y,DataW.trod enc P w base sp held n' el (((cc.toList.drop ao).drop (i*P.cellsOf el)).take (P.cellsOf el))=some y∧Light P el y.1∧ao+i*P.cellsOf el+P.cellsOf el≤cc.size:=by
          intro i hi;have h2:=hel i hi;have hix:i<elems.length:=by omega
          rw [zA4 hix,Option.bind_eq_some_iff] at h2;obtain ⟨ci,q1,q2⟩:=h2;obtain ⟨-,q3,q4⟩:=World.cells?_some q1;have hadd:∀ j,((⟨ab,ao,none⟩:Addr).add (i*P.cellsOf el)).add j=⟨ab,ao+(i*P.cellsOf el+j),none⟩:=fun j=>by rw [jv,jv,zF7]
          have hlast:ao+i*P.cellsOf el+P.cellsOf el≤cc.size:=by
           have q5:=q4 (P.cellsOf el - 1) (by omega);rw [zA4 (by omega),hadd,hcell] at q5;have:=(zB9.1 q5).1;omega
          refine ⟨elems[i],?_,hlt.elem hu (i:=i) (by rw [zH9,zA4 hix];rfl),hlast⟩;rw [← q2];congr 1
          refine List.ext_getElem? fun j=>?_;by_cases hj:j<P.cellsOf el
          ·rw [zC7,if_pos hj,zC3,zC3];have q5:=q4 j hj;have e2:ci[j]? = some (ci[j]'(by omega)):=zA4 (by omega);rw [e2,hadd,hcell] at q5;rw [e2,zC1];exact q5
          ·rw [zG5 (by rw [zA9];omega),zG5 (by omega)]
         have hfit:ao+len*P.cellsOf el≤cc.size:=by
          rcases zF4 len with h0'|h0'
          ·rw [h0',Nat.zero_mul];omega
          ·obtain ⟨-,-,-,q⟩:=helem (len - 1) (by omega);have:(len - 1)*P.cellsOf el+P.cellsOf el=len*P.cellsOf el:=by
            rw [← Nat.succ_mul];congr 1;omega
           omega
         obtain ⟨e1,h1,c1,r1,l1,x1,v1,a1⟩:=xw (z:=P.cellsOf el) (ty:=el) (cs:=cc.toList.drop ao) len (by simp;omega) (fun i hi=>by
          obtain ⟨y,q1,q2,-⟩:=helem i hi;exact embed hsp hw n' m _ _ _ hp.2.1 q1 q2) e h0 r
         have hc1:c1.length=len*P.cellsOf el:=by
          have:=v1.length;rw [zA9,zB4,zC2] at this;omega
         obtain ⟨e2,r2,l2,x2,q2⟩:=r1.qad (sh:=ao) (c:=c1) hblk (by omega) (fun i v hi=>by
          obtain ⟨v',q1,q2⟩:=v1.get i v hi;refine ⟨v',?_,q2⟩;rw [zC7,zC3,zC1] at q1;split at q1
          ·exact q1
          ·cases q1)
         refine ⟨e2,_,[.slice (some ⟨h1.next,0,none⟩) len cap],r2,Emb.le_trans l1 l2,x1.trans x2,.one (.slice h1.next 0 ⟨ab,ao,none⟩ len cap ⟨ab,ao,0⟩ q2 hl (.inl rfl)),?_⟩;unfold AR;rw [hu];refine ⟨len,c1,.inr ⟨h1.next,0,cap,c1,el0,none,true,rfl,by rw [AH.qW,if_pos rfl],by rw [← hc1];exact ja c1⟩,⟨by omega,hwt⟩,hl,fun i hi=>(a1 i hi).ext r1.wfH x2 _ _ _⟩
       | _=>cases g4
   | _=>cases hp
end
end
end Go.Proofs.Xx
namespace Go.Proofs.Xx
open Go Go.RowKit Go.WideShapes Go.ChangeShapes
theorem VRs.Wj {e:Emb} {r:List Value} {v:Value} (h:VRs e r [v]):∃ u,r=[u]∧VR e u v:=by
 cases h with
 | cons u v' s s' h1 h2=>cases h2;exact ⟨u,rfl,h1⟩
section
variable {P:Program}
def qcf (P:Program) (t:TypeId) (r:List Value):Value :=
 match P.underlying t with
 | some (.struct _)|some (.array _ _)=>.agg r.toArray
 | _=>r.headD .nilFunc
theorem qdk {w:World} {rc:Reach} {b0 m:Nat} {t:TypeId} {v:Value} {e:Emb} {r:List Value} (hp:QQ P m t=true) (hval:Value.okWide P w rc b0 t v) (hv:VRs e r v.cells.toList):VR e (qcf P t r) v:=by
 cases m with
 | zero=>cases hp
 | succ m =>
  unfold QQ at hp;unfold qcf;unfold Value.okWide at hval;cases hu:P.underlying t with
  | none=>rw [hu] at hp;cases hp
  | some u =>
   rw [hu] at hp hval;cases u with
   | struct fs =>
    obtain ⟨cs,rfl,-⟩:=hval;exact VR.agg (f:=e) r cs.toList (by simpa [Value.cells] using hv)
   | array n el =>
    obtain ⟨cs,rfl,-⟩:=hval;exact VR.agg (f:=e) r cs.toList (by simpa [Value.cells] using hv)
   | bool =>
    have:∃ b,v = .bool b:=by cases v<;>simp_all [Cell.okWide,Cell.ok]
    obtain ⟨b,rfl⟩:=this;obtain ⟨x,rfl,h1⟩:=VRs.Wj (show VRs e r [.bool b] from hv);exact h1
   | int k =>
    have:∃ k' b,v = .int k' b:=by cases v<;>simp_all [Cell.okWide,Cell.ok]
    obtain ⟨k',b,rfl⟩:=this;obtain ⟨x,rfl,h1⟩:=VRs.Wj (show VRs e r [.int k' b] from hv);exact h1
   | string =>
    have:∃ b,v = .string b:=by cases v<;>simp_all [Cell.okWide,Cell.ok]
    obtain ⟨b,rfl⟩:=this;obtain ⟨x,rfl,h1⟩:=VRs.Wj (show VRs e r [.string b] from hv);exact h1
   | slice el =>
    have:∃ a l c,v = .slice a l c:=by cases v<;>simp_all [Cell.okWide,Cell.ok]
    obtain ⟨a,l,c,rfl⟩:=this;obtain ⟨x,rfl,h1⟩:=VRs.Wj (show VRs e r [.slice a l c] from hv);exact h1
   | _=>cases hp
def ArgsR (P:Program) (h:AH):List TypeId→List Value→Prop
 | [],[]=>True
 | t :: ts,u :: us=>(∃ n r,AR P h n t r∧u=qcf P t r)∧ArgsR P h ts us
 | _,_=>False
theorem ArgsR.ext {h h':AH} (w:WfH h) (x:Ext h h'):∀ (ts:List TypeId) (us:List Value),ArgsR P h ts us→ArgsR P h' ts us
 | [],[],q=>q
 | t :: ts,u :: us,q=>⟨let ⟨n,r,h1,h2⟩:=q.1;⟨n,r,h1.ext w x _ _ _,h2⟩,ArgsR.ext w x ts us q.2⟩
 | [],_ :: _,q=>q.elim
 | _ :: _,[],q=>q.elim
theorem ArgsR.cons_inv {h:AH} {t:TypeId} {ts:List TypeId} {us:List Value} (a:ArgsR P h (t :: ts) us):∃ n r us',us=qcf P t r :: us'∧AR P h n t r∧ArgsR P h ts us':=by
 cases us with
 | nil=>exact a.elim
 | cons u us =>
  obtain ⟨⟨n,r,h1,rfl⟩,h2⟩:=a;exact ⟨n,r,us,rfl,h1,h2⟩
theorem ArgsR.jy {h:AH} {us:List Value} (a:ArgsR P h [] us):us=[]:=by
 cases us with
 | nil=>rfl
 | cons u us=>exact a.elim
section
variable {H:Type} {enc:TypeId×Value→H}
theorem y8 [Glob] {w:World} {rc:Reach} {b0 base:Nat} {held:Bool} (hw:∃ (k:Nat) (cc:Array Value) (el:TypeId) (fr:Nat×Nat),w.heap[k]? = some (.cells cc el fr)):∀ (ts:List TypeId) (vs:List Value) (ds:List (DataW H)) (ps:List MemPlace),
 ts.all (QQ P 20)=true→(∀ (j:Nat) t v,ts[j]? = some t→vs[j]? = some v→Value.okWide P w rc b0 t v)→DataW.TrodAll enc P w base (fun _=>true) held ts vs ds ps→(∀ n∈DataW.weightsEach P ts ds,n≤reachBytes)→∀ e h,WRel w e h →
 ∃ e' h' us,WRel w e' h'∧e.le e'∧Ext h h'∧VRs e' us vs∧ArgsR P h' ts us
 | [],[],[],_,_,_,_,_,e,h,r=>⟨e,h,[],r,e.le_refl,Ext.refl r.wfH,.nil,trivial⟩
 | t :: ts,v :: vs,d :: ds,ps,hp,hval,hA,hz,e,h,r=>by
  rw [DataW.weightsEach] at hz;simp only [List.all_cons,zA8] at hp;obtain ⟨p,q,⟨fuel,h1⟩,h2,rfl⟩:=hA;obtain ⟨e1,g1,r1,w1,l1,x1,v1,a1⟩:=embed (fun _=>rfl) hw fuel 20 t _ _ hp.1 h1 (fun n hn=>hz n (List.mem_append_left _ hn)) e h r;obtain ⟨e2,g2,us,w2,l2,x2,v2,a2⟩:=y8 hw ts vs ds q hp.2 (fun j t v q1 q2=>hval (j+1) t v (by simpa using q1) (by simpa using q2)) h2 (fun n hn=>hz n (List.mem_append_right _ hn)) e1 g1 w1;exact ⟨e2,g2,qcf P t r1 :: us,w2,Emb.le_trans l1 l2,x1.trans x2,.cons _ _ _ _ (qdk hp.1 (hval 0 t v rfl rfl) (v1.mono l2)) v2,⟨fuel,r1,a1.ext w1.wfH x2 _ _ _,rfl⟩,a2⟩
 | [],[],_ :: _,_,_,_,h,_,_,_,_=>h.elim
 | [],_ :: _,_,_,_,_,h,_,_,_,_=>h.elim
 | _ :: _,[],_,_,_,_,h,_,_,_,_=>h.elim
 | _ :: _,_ :: _,[],_,_,_,h,_,_,_,_=>h.elim
theorem yR:∀ {ts us:List TypeId} {ds gs:List (DataW H)},(DataW.weightsEach P (ts ++ us) (ds ++ gs)).all (·≤reachBytes)=true→∀ n∈DataW.weightsEach P ts ds,n≤reachBytes
 | [],_,_,_,_=>fun n hn=>by simp [DataW.weightsEach] at hn
 | _ :: _,_,[],_,_=>fun n hn=>by simp [DataW.weightsEach] at hn
 | t :: ts,us,d :: ds,gs,hz=>fun n hn=>by
  rw [zC6,zC6,DataW.weightsEach,List.all_append,zA8] at hz;rw [DataW.weightsEach] at hn;rcases zB8.1 hn with q|q
  ·exact of_decide_eq_true (zC8.1 hz.1 n q)
  ·exact yR hz.2 n q
theorem qaD [Glob] {X:Extern} (hm:P.follows .mixedOrders=true) (hX:VA P X) (hN:∀ (f:FuncId) (fn:Func),P.funcs[f]? = some fn→fn.body.isSome=true→(fn.name == "runtime.NumGoroutine")=false)
 {f:FuncId} {fn:Func} {body:Code} (hfn:P.funcs[f]? = some fn) (hb:fn.body=some body) (hXn:∀ us h,X f us h=none) (hpl:fn.params.toList.all (QQ P 20)=true)
 (core:∀ h us,WfH h→ArgsR P h fn.params.toList us→Fn P X f us h (fun x _=>x = .bool true))
 {w:World} {rc:Reach} {b0:Nat} {args:Array Value} {ds:List (DataW H)} {ps:List MemPlace} (hg:Glob.ok w.heap.size w.heap) (hw:∃ (k:Nat) (cc:Array Value) (el:TypeId) (fr:Nat×Nat),w.heap[k]? = some (.cells cc el fr))
 (hval:∀ (j:Nat) t v,fn.params[j]? = some t→args[j]? = some v→Value.okWide P w rc b0 t v) (hA:DataW.TrodAll enc P w 0 (fun _=>true) true fn.params.toList args.toList ds ps) (hz:∀ n∈DataW.weightsEach P fn.params.toList ds,n≤reachBytes) :
 Calls P f args w fun e w'=>e = .returned (.bool true)∧Below w.heap.size w w':=by
 obtain ⟨e,h,us,r,-,-,v1,a1⟩:=y8 (P:=P) hw fn.params.toList args.toList ds ps hpl (fun j t v q1 q2=>hval j t v (by simpa using q1) (by simpa using q2)) hA hz _ _ (WRel.empty hg);obtain ⟨n,v,h',hc,rfl⟩:=core h us r.wfH a1;obtain ⟨e',v',w',r1,t1,hv,hcalls⟩:=Gh (xq hm hX hN n) hc (hXn us h) hfn hb r.rel v1;cases hv
 rw [Array.toArray_toList] at hcalls;refine hcalls.mono fun en w'' ⟨q1,q2⟩=>?_;subst q2;exact ⟨q1,t1.os,t1.tape,t1.output,t1.size,fun k hk=>r1.keep k hk⟩
end
end
end Go.Proofs.Xx
namespace Go.Proofs.Xx
open Go Go.RowKit Go.WideShapes Go.ChangeShapes
section
variable {H:Type} {enc:TypeId×Value→H} {P:Program}
theorem trodAll_length {W:World} {base:Nat} {sp:Nat→Bool} {held:Bool}:∀ {ts:List TypeId} {vs:List Value} {ds:List (DataW H)} {ps:List MemPlace},DataW.TrodAll enc P W base sp held ts vs ds ps→ds.length=ts.length
 | [],[],[],_,_=>rfl
 | t :: ts,v :: vs,d :: ds,ps,h=>by
  obtain ⟨p,q,_,h2,_⟩:=h;simp [trodAll_length h2]
 | [],[],_ :: _,_,h=>h.elim
 | [],_ :: _,_,_,h=>h.elim
 | _ :: _,[],_,_,h=>h.elim
 | _ :: _,_ :: _,[],_,h=>h.elim
theorem xY {f:Func} {s:ChangeSpec} {apart fresh handsOn again:Bool} {W W':World} {args:Array Value} {v:Value} {ds gs:List (DataW H)} {before pa pv:List MemPlace}
 (hW:DataW.Whole enc P f.params.toList s.vars apart W args.toList ds gs before)
 (hres:∀ (b:Nat) (sp:Nat→Bool) (hd:Bool),DataW.TrodAll enc P W' b sp hd f.resultTypes.toList (v.resultList f.resultTypes.size) (s.fn H (ds ++ gs)).results [])
 (hargs:∀ sp:Nat→Bool,(∀ p∈before,sp p.block=true)→DataW.TrodAll enc P W' 0 sp true f.params.toList args.toList (s.fn H (ds ++ gs)).args pa)
 (hvars:∀ sp:Nat→Bool,(∀ p∈before,sp p.block=true)→DataW.TrodVars enc P W' sp s.vars (s.fn H (ds ++ gs)).vars pv)
 (hps:before=pa ++ pv) (hb:Below W.heap.size W W')
 (hok:∀ (j:Nat) (t:TypeId) (r:Value),f.resultTypes[j]? = some t→(v.resultList f.resultTypes.size)[j]? = some r→Value.okWide P W' .any 0 t r) :
 s.post enc P f apart fresh handsOn again W args v W':=by
 have hlt:∀ p∈before,p.block<W.heap.size:=fun p hp=>hW.lt p hp;have hold:∀ p∈before,(fun b=>decide (b<W.heap.size)) p.block=true:=fun p hp=>by simpa using hlt p hp
 refine ⟨ds,gs,before,[],pa,pv,hW,hres _ _ _,hargs _ hold,hvars _ hold,World.keptBut_mono (fun p hp=>⟨hp,?_⟩) (hb.frame (·∈before)),fun _=>?_⟩
 ·rw [hps,zB8] at hp;exact Or.inr hp
 ·obtain ⟨_,_,_,_,_,hz,hn⟩:=hW;refine ⟨hok,_,_,([] ++ pa) ++ pv,⟨[] ++ pa,pv,trodAll_append (hargs _ (fun _ _=>rfl)) (hres _ _ _),hvars _ (fun _ _=>rfl),rfl,?_,?_⟩,?_⟩
  ·intro b off hp;have hin:MemPlace.cell b off∈before:=by rw [hps];simpa using hp
   rw [hb.frozen (hlt _ hin)];exact hz b off hin
  ·intro ha;have:=hn ha;rw [hps] at this;simpa using this
  ·intro p hp _;rw [hps];simpa using hp
end
end Go.Proofs.Xx
namespace Go.Proofs.Xx
open Go
section
variable {P:Program} {h:AH}
theorem AR.qd3 {n:Nat} {t:TypeId} {r:List Value} {k:IntKind} (a:AR P h n t r) (hu:P.underlying t=some (.int k)):∃ x:Int,r=[.int k x]∧(Lit.int k x).wf=true:=by
 cases n with
 | zero=>exact a.elim
 | succ n =>
  unfold AR at a;rw [hu] at a;split at a
  all_goals (first|exact a.elim|(rename_i q _;cases q;done)|(rename_i q;cases q;done)|skip)
  rename_i k0 k' x q
  cases q
  obtain ⟨rfl,h2⟩:=a;exact ⟨x,rfl,h2⟩
theorem pieces {α:Type} {z:Nat} {enc:α→List Value} {good:α→Prop}:∀ (n:Nat) (c:List Value),c.length=n*z→(∀ i,i<n→∃ y,(c.drop (i*z)).take z=enc y∧good y)→∃ l:List α,l.length=n∧c=l.flatMap enc∧∀ y∈l,good y
 | 0,c,hc,_=>⟨[],rfl,by rw [Nat.zero_mul] at hc;rw [zE9.1 hc];rfl,fun y q=>by cases q⟩
 | n+1,c,hc,hk=>by
  rw [zE1,Nat.one_mul] at hc;obtain ⟨y,h1,h2⟩:=hk 0 (by omega);obtain ⟨l,l1,l2,l3⟩:=pieces (z:=z) (enc:=enc) (good:=good) n (c.drop z) (by rw [zB4,hc];omega) (fun i hi=>by
   obtain ⟨y,q1,q2⟩:=hk (i+1) (by omega);refine ⟨y,?_,q2⟩;rw [List.drop_drop,← q1,zE1,Nat.one_mul,Nat.add_comm z])
  rw [Nat.zero_mul,List.drop_zero] at h1;refine ⟨y :: l,by simp [l1],?_,fun x q=>?_⟩
  ·rw [zG2,← h1,← l2,zH1]
  ·rcases zE8.1 q with rfl|q
   ·exact h2
   ·exact l3 x q
theorem AR.qcD {α:Type} [Inhabited α] {n:Nat} {t e:TypeId} {r:List Value} {z:Nat} (enc:α→List Value) (good:α→Prop) (a:AR P h n t r) (hu:P.underlying t=some (.slice e)) (hz:P.cellsOf e=z) (hk:∀ n cs,AR P h n e cs→∃ y,cs=enc y∧good y) :
 ∃ v l,r=[v]∧Qk h v z enc l∧(l.length≤maxLen∧l.length*P.bytesOf e≤reachBytes)∧ZI v∧∀ i,i<l.length→good (l.getD i default):=by
 cases n with
 | zero=>exact a.elim
 | succ n =>
  unfold AR at a;rw [hu] at a;split at a
  all_goals (first|exact a.elim|(rename_i q _;cases q;done)|(rename_i q;cases q;done)|skip)
  rename_i e' v q
  cases q
  obtain ⟨k,c,h1,h2,hc,h3⟩:=a;rw [hz] at h1 h3;obtain ⟨l,l1,l2,l3⟩:=pieces (enc:=enc) (good:=good) k c h1.length (fun i hi=>hk n _ (h3 i hi));subst l1 l2;refine ⟨v,l,rfl,h1,h2,hc,fun i hi=>?_⟩;rw [zA2,zA4 hi];exact l3 _ (List.getElem_mem hi)
theorem AR.qbf {α:Type} [Inhabited α] {n:Nat} {t e:TypeId} {r:List Value} {z:Nat} (enc:α→List Value) (good:α→Prop) (a:AR P h n t r) (hu:P.underlying t=some (.slice e)) (hz:P.cellsOf e=z) (hk:∀ n cs,AR P h n e cs→∃ y,cs=enc y∧good y) :
 ∃ v l,r=[v]∧Qk h v z enc l∧l.length≤maxLen∧ZI v∧∀ i,i<l.length→good (l.getD i default):=by
 obtain ⟨v,l,h1,h2,h3,h4,h5⟩:=AR.qcD enc good a hu hz hk;exact ⟨v,l,h1,h2,h3.1,h4,h5⟩
theorem AR.qef {n:Nat} {t e:TypeId} {r:List Value} (a:AR P h n t r) (hu:P.underlying t=some (.slice e)) (he:P.underlying e=some (.int .u8)) (hc:P.cellsOf e=1) :
 ∃ v l,r=[v]∧Qk h v 1 eU l∧l.length≤maxLen∧ZI v∧∀ i,i<l.length→l.getD i default<256 :=
 AR.qbf eU (fun x=>x<256) a hu hc (fun n cs q=>by
  obtain ⟨x,hx,hw⟩:=q.qd3 he;have:0≤x∧x<256:=by
   simp [Lit.wf,IntKind.min,IntKind.max,IntKind.signed,IntKind.bits] at hw
   omega
  refine ⟨x.toNat,?_,by omega⟩;rw [hx];unfold eU;rw [Int.toNat_of_nonneg this.1])
end
structure GstA (h:AH) (g:ZL):Prop where
 rd:Qk h g.tv.val 1 eS g.tg
 cap:ZI g.tv.val
 len:g.tg.length≤maxLen
 l1:g.name.length≤maxLen
 l2:g.rank.length≤maxLen
 l3:g.court.length≤maxLen
 l4:g.diet.length≤maxLen
 l5:∀ i,i<g.tg.length→(g.tg.getD i default).length≤maxLen
 wt:g.tg.length*16≤reachBytes
 i64:(-9223372036854775808≤g.since∧g.since≤9223372036854775807)∧(-9223372036854775808≤g.side∧g.side≤9223372036854775807)
theorem GstA.ext {h h':AH} {g:ZL} (a:GstA h g) (w:WfH h) (x:Ext h h'):GstA h' g:=⟨a.rd.ext w x,a.cap,a.len,a.l1,a.l2,a.l3,a.l4,a.l5,a.wt,a.i64⟩
theorem GstA.r {h:AH} {g:ZL} (a:GstA h g):qfy h g:=⟨a.rd,by have:=a.len;unfold maxLen at this;omega⟩
theorem AR.qfQ {h:AH} {n:Nat} {r:List Value} (a:AR Tryz.prog h n 37 r):∃ v l,r=[v]∧Qk h v 1 e16 l∧l.length≤maxLen∧ZI v∧∀ i,i<l.length→l.getD i default<65536 :=
 AR.qbf (e:=107) (z:=1) e16 (fun x=>x<65536) a (by kernel_rfl) (by kernel_rfl) (fun n cs q=>by
  obtain ⟨x,hx,hw⟩:=q.qd3 (k:=.u16) (by kernel_rfl);have:0≤x∧x<65536:=by
   simp [Lit.wf,IntKind.min,IntKind.max,IntKind.signed,IntKind.bits] at hw
   omega
  refine ⟨x.toNat,?_,by omega⟩;rw [hx];unfold e16;rw [Int.toNat_of_nonneg this.1])
theorem AR.e8s {h:AH} {n:Nat} {r:List Value} (a:AR Tryz.prog h n 38 r):∃ v l,r=[v]∧Qk h v 1 eU l∧l.length≤maxLen∧ZI v∧∀ i,i<l.length→l.getD i default<256 :=
 AR.qef (e:=5) a (by kernel_rfl) (by kernel_rfl) (by kernel_rfl)
end Go.Proofs.Xx
namespace Go.Proofs.Xx
open Go Go.RowKit Go.Proofs
theorem yj [Flag] (hf:Flag.b=true) (h:AH) (us:List Value) (w:WfH h) (a:ArgsR Tryz.prog h Tryz.f16.params.toList us):Fn Tryz.prog Xh 16 us h (fun x _=>x = .bool true):=by
 rw [show Tryz.f16.params.toList=[37,38,3] by kernel_rfl] at a;obtain ⟨n0,r0,us,rfl,a0,a⟩:=a.cons_inv;obtain ⟨n1,r1,us,rfl,a1,a⟩:=a.cons_inv;obtain ⟨n2,r2,us,rfl,a2,a⟩:=a.cons_inv;obtain rfl:=a.jy;obtain ⟨va,la,rfl,ra,la1,-,la2⟩:=a0.qfQ;obtain ⟨vb,lb,rfl,rb,lb1,-,lb2⟩:=a1.e8s;obtain ⟨z,rfl,-⟩:=a2.qd3 (k:=.i64) (by kernel_rfl);unfold maxLen at la1 lb1;exact yh w hf va vb la lb ra rb (by omega) (by omega) la2 lb2 z
end Go.Proofs.Xx
namespace Go.Proofs.Xx
open Go Go.RowKit Go.Proofs
theorem qdl [Flag] (f:FuncId) (h1:f≠19) (h2:f≠203) (h3:f≠182) (h4:f≠222) (h5:f≠184) (h6:f≠194) (h7:f≠135) (h8:f≠187) (h9:f≠88) (us:List Value) (h:AH) (h10:f≠183:=by decide):Xh f us h=none:=by
 have e:∀ n,f≠n→Nat.beq f n=false:=fun n q=>by rw [Bool.eq_false_iff];intro q';exact q (zA6 q')
 unfold Xh Jg JB XB Xd ZM X0 V9 V8 We withBytes jR;simp only [e _ h1,e _ h2,e _ h3,e _ h4,e _ h5,e _ h6,e _ h7,e _ h8,e _ h9,e _ h10]
theorem Ve {W:World} (h:W.ShapedOpen Tryz.prog):1<W.heap.size∧∃ m el fr,W.heap[0]? = some (.cells #[.int .i64 m] el fr):=by
 have h0:((begin Tryz.prog (fun _ _=>0) default).world.heap[0]?).bind Obj.row? = some (#[.int .i64 0],3):=by kernel_rfl
 obtain ⟨m,hm⟩:=cell_of_shapedOpen_int h (g:=0) (t:=3) (of_decide_eq_true (by kernel_rfl)) h0 rfl (by kernel_rfl) (by kernel_rfl) Tryz.underlying3;obtain ⟨cs,hh,hs,-⟩:=h.1 0 _ 3 (of_decide_eq_true (by kernel_rfl)) h0;refine ⟨?_,m,3,(0,0),?_⟩
 ·have h1:(((begin Tryz.prog (fun _ _=>0) default).world.heap[1]?).bind Obj.row?).isSome=true:=by kernel_rfl
  obtain ⟨⟨z,t⟩,h1⟩:=Option.isSome_iff_exists.1 h1;obtain ⟨cs,hh,-⟩:=h.1 1 z t (of_decide_eq_true (by kernel_rfl)) h1;exact (zB9.1 hh).1
 ·rw [hh];have:cs=#[.int .i64 m]:=by
   simp only [World.cell?,hh] at hm;obtain ⟨l⟩:=cs;match l,hs,hm with
   | [x],_,hm=>simp at hm;rw [hm]
   | [],hs,_=>cases hs
   | _ :: _ :: _,hs,_=>simp at hs
  rw [this]
theorem Gg {W:World} (h:W.ShapedOpen Tryz.prog):∃ (k:Nat) (cc:Array Value) (el:TypeId) (fr:Nat×Nat),W.heap[k]? = some (.cells cc el fr):=by
 obtain ⟨-,m,el,fr,q⟩:=Ve h;exact ⟨0,_,el,fr,q⟩
end Go.Proofs.Xx
namespace Go.Proofs.Xx
open Go Go.RowKit Go.Proofs
theorem qbP:(Tryz.prog.globals[1]?).map (·.type)=some 241:=by kernel_rfl
theorem qbM [Flag] {W:World} {x y:String×DataW Unit} {rest:List (String×DataW Unit)} (h:laidMet Tryz.prog (x :: y :: ("internal/strconv.uint64pow10", YtidmdnenlgjpeaaGreatDoor.Rows.laid_internal_strconv_uint64pow10) :: rest) W) (hS:W.ShapedOpen Tryz.prog) :
 Glob.ok W.heap.size W.heap:=by
 refine ⟨(Ve hS).1,(Ve hS).2,fun _=>?_⟩;have t:Lib.TabIs Tryz.prog W "internal/strconv.uint64pow10" .u64 Lib.pow10Tab :=
  Lib.tabIs_of_head qd5 qbP (n:=20) (e:=202) (by kernel_rfl) (by kernel_rfl) (by kernel_rfl) (by kernel_rfl) (laidMet.tail (laidMet.tail h))
 unfold Lib.TabIs World.var? at t;rw [qd5] at t;simp only [Option.bind_some] at t;split at t
 ·rename_i cs el fr hc
  cases t
  exact ⟨el,fr,hc⟩
 ·cases t
end Go.Proofs.Xx
