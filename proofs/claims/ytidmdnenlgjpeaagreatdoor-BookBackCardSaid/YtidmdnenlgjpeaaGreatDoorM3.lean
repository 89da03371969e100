/-
  The orders of a region: what the masks say,and the orders of a chain.
-/
import Derived.Test.YtidmdnenlgjpeaaGreatDoorM2
import Derived.Orders
import Derived.Calls
import Derived.Laws.Externs
import Derived.Lib.Bytealg
import Derived.Lib.Overlaps
import Derived.Shelf.Strings.Search2
import Derived.Shelf.Strconv.Itoa1
import Derived.Test.YtidmdnenlgjpeaaGreatDoorProg
import Derived.KernelRfl
set_option linter.unusedSimpArgs false
set_option linter.unusedVariables false
set_option maxRecDepth 100000
namespace Go.Proofs.Xx
open Go
def Valid (ops:Array Oper) (p:List Nat):Prop:=∀ a j b,p=a ++ j :: b→j ∉ a∧∃ o,ops[j]? = some o∧∀ e∈o.after,Region.binds .any e=true→e.on∈a
theorem Valid.nil (ops:Array Oper):Valid ops []:=fun a j b h=>by cases a<;>cases h
theorem Valid.snoc {ops:Array Oper} {p:List Nat} (v:Valid ops p) {j:Nat} {o:Oper} (hj:j ∉ p) (ho:ops[j]? = some o) (he:∀ e∈o.after,Region.binds .any e=true→e.on∈p):Valid ops (p ++ [j]):=by
 intro a i b h;rcases List.eq_nil_or_concat b with hb|⟨b',x,hb⟩
 ·subst hb;have:=List.append_inj' h rfl;obtain ⟨h1,h2⟩:=this;cases h2
  subst h1;exact ⟨hj,o,ho,he⟩
 ·subst hb;have h':p ++ [j]=(a ++ i :: b') ++ [x]:=by rw [h];simp
  have:=List.append_inj' h' rfl;exact v a i b' this.1
theorem Valid.left {ops:Array Oper} {p q:List Nat} (v:Valid ops (p ++ q)):Valid ops p:=fun a j b h=>v a j (b ++ q) (by rw [h];simp)
theorem Valid.nodup {ops:Array Oper}:∀ (n:Nat) (p:List Nat),p.length=n→Valid ops p→p.Nodup:=by
 intro n;induction n with
 | zero=>intro p h _;have:=zE9.1 h;subst this;exact .nil
 | succ n ih =>
  intro p h v;rcases List.eq_nil_or_concat p with hp|⟨q,x,hp⟩
  ·subst hp;exact .nil
  ·rw [List.concat_eq_append] at hp;subst hp;have h1:=ih q (by simp at h;exact h) v.left;have h2:=(v q x [] rfl).1;rw [zG4];refine ⟨h1,by simp,fun y hy z hz q=>?_⟩;simp at hz;subst hz;subst q;exact h2 hy
theorem Valid.lt {ops:Array Oper} {p:List Nat} (v:Valid ops p) {j:Nat} (h:j∈p):j<ops.size:=by
 obtain ⟨a,b,rfl⟩:=List.append_of_mem h;obtain ⟨-,o,ho,-⟩:=v a j b rfl;exact (zB9.1 ho).1
theorem XZ (ms:List Nat):∀ (es:List Edge) (m k:Nat),(es.foldl (xx ms) m).testBit k=true→m.testBit k=true∨∃ e∈es,Region.binds .any e=true∧(k=e.on∨prec ms k e.on=true)
 | [],m,k,h=>.inl h
 | e :: r,m,k,h=>by
  rw [List.foldl_cons] at h;rcases XZ ms r _ k h with h|⟨e',h1,h2⟩
  ·unfold xx at h;split at h
   ·rename_i hb
    rw [Nat.testBit_or,Nat.testBit_or,zG9,zG9] at h;rcases h with h|h|h
    ·exact .inl h
    ·refine .inr ⟨e,by simp,hb,.inl ?_⟩;rw [Nat.one_shiftLeft,Nat.testBit_two_pow] at h;simpa using (show e.on=k by simpa using h).symm
    ·refine .inr ⟨e,by simp,hb,.inr ?_⟩;unfold prec;cases hm:ms[e.on]? with
     | none=>rw [hm] at h;simp at h
     | some m'=>rw [hm] at h;simpa using h
   ·exact .inl h
  ·exact .inr ⟨e',by simp [h1],h2⟩
theorem wo:∀ (os:List Oper) (ms:List Nat),(masks os ms).length=ms.length+os.length
 | [],ms=>by simp [masks]
 | o :: r,ms=>by simp only [masks,wo r,zB2,zC4,List.length_nil];omega
theorem Vf:∀ (os:List Oper) (ms:List Nat) (i:Nat),i<ms.length→(masks os ms)[i]? = ms[i]?
 | [],ms,i,h=>rfl
 | o :: r,ms,i,h=>by
  simp only [masks];rw [Vf r _ i (by simp;omega),zH8 h]
theorem yO:∀ (os:List Oper) (ms:List Nat) (i:Nat) (o:Oper),os[i]? = some o→∃ ms',ms'.length=ms.length+i∧(∀ k,k<ms'.length→ms'[k]? = (masks os ms)[k]?)∧(masks os ms)[ms.length+i]? = some (pF ms' o)
 | [],ms,i,o,h=>by simp at h
 | o :: r,ms,i,o',h=>by
  cases i with
  | zero =>
   simp at h;subst h;refine ⟨ms,rfl,fun k hk=>(Vf (o :: r) ms k hk).symm,?_⟩;simp only [masks];rw [Vf r _ _ (by simp)];simp
  | succ i =>
   simp at h;obtain ⟨ms',h1,h2,h3⟩:=yO r (ms ++ [pF ms o]) i o' h;refine ⟨ms',by rw [h1];simp;omega,fun k hk=>by simp only [masks];exact h2 k hk,?_⟩;simp only [masks];rw [← h3];congr 1
   simp;omega
theorem Qq {ops:Array Oper}:∀ (j:Nat) (p a b:List Nat) (k:Nat),Valid ops p→p=a ++ j :: b→prec (masks ops.toList []) k j=true→k∈a:=by
 intro j;induction j using Nat.strongRecOn with
 | _ j ih =>
  intro p a b k v hp h;obtain ⟨-,o,ho,he⟩:=v a j b hp;have ho':ops.toList[j]? = some o:=by rw [zC1];exact ho
  obtain ⟨ms',h1,h2,h3⟩:=yO ops.toList [] j o ho';simp only [List.length_nil,zG1] at h1 h3;unfold prec at h;rw [h3] at h;simp only at h;rcases XZ ms' _ 0 k h with h|⟨e,q1,q2,q3⟩
  ·simp at h
  ·have hea:=he e (by simpa using q1) q2;rcases q3 with q3|q3
   ·rw [q3];exact hea
   ·unfold prec at q3;cases hm:ms'[e.on]? with
    | none=>rw [hm] at q3;cases q3
    | some m' =>
     have hlt:e.on<j:=by
      have:=(zD6.1 hm).1;omega
     obtain ⟨a1,a2,ha⟩:=List.append_of_mem hea;have hk:=ih e.on hlt p a1 (a2 ++ j :: b) k v (by rw [hp,ha];simp) (by
      unfold prec;rw [← h2 e.on (by omega),hm];rw [hm] at q3;exact q3)
     rw [ha];simp [hk]
theorem Ya:∀ {p q:List Nat},p.Pairwise (· < ·)→q.Pairwise (· < ·)→(∀ x,x∈p↔x∈q)→p=q
 | [],[],_,_,_=>rfl
 | [],y :: q,_,_,h=>by have:=(h y).2 (by simp);simp at this
 | x :: p,[],_,_,h=>by have:=(h x).1 (by simp);simp at this
 | x :: p,y :: q,hp,hq,h=>by
  rw [zH6] at hp hq;have hxy:x=y:=by
   have h1:=(h x).1 (by simp);have h2:=(h y).2 (by simp);rw [zE8] at h1 h2;rcases h1 with h1|h1
   ·exact h1
   ·rcases h2 with h2|h2
    ·exact h2.symm
    ·have:=hq.1 x h1;have:=hp.1 y h2;omega
  subst hxy;congr 1
  refine Ya hp.2 hq.2 fun z=>⟨fun hz=>?_,fun hz=>?_⟩
  ·have:=(h z).1 (by simp [hz]);rw [zE8] at this;rcases this with q|q
   ·subst q;have:=hp.1 z hz;omega
   ·exact q
  ·have:=(h z).2 (by simp [hz]);rw [zE8] at this;rcases this with q|q
   ·subst q;have:=hq.1 z hz;omega
   ·exact q
theorem VI:∀ {ms q:List Nat},ms.Pairwise (· < ·)→q.Pairwise (· < ·)→(∀ x∈q,x∈ms)→(∀ x∈q,∀ y∈ms,y<x→y∈q)→q=ms.take q.length
 | ms,[],_,_,_,_=>by simp
 | [],y :: q,_,_,h,_=>by have:=h y (by simp);simp at this
 | x :: ms,y :: q,hm,hq,h,hd=>by
  rw [zH6] at hm hq;have hxy:x=y:=by
   have h1:=h y (by simp);rw [zE8] at h1;rcases h1 with h1|h1
   ·exact h1.symm
   ·have h2:=hm.1 y h1;have h3:=hd y (by simp) x (by simp) h2;rw [zE8] at h3;rcases h3 with h3|h3
    ·exact h3
    ·have:=hq.1 x h3;omega
  subst hxy;rw [zC4,List.take_succ_cons];congr 1
  refine VI hm.2 hq.2 (fun z hz=>?_) fun z hz y hy hlt=>?_
  ·have:=h z (by simp [hz]);rw [zE8] at this;rcases this with q|q
   ·subst q;have:=hq.1 z hz;omega
   ·exact q
  ·have:=hd z (by simp [hz]) y (by simp [hy]) hlt;rw [zE8] at this;rcases this with q|q
   ·subst q;have:=hm.1 y hy;omega
   ·exact q
theorem Zn (n:Nat) (C:Nat→Bool):((List.range n).filter C).Pairwise (· < ·):=List.Pairwise.filter _ List.pairwise_lt_range
def Chain (ops:Array Oper) (C:Nat→Bool):Prop:=∀ k i,k<i→i<ops.size→C k=true→C i=true→prec (masks ops.toList []) k i=true
theorem Chain.sorted {ops:Array Oper} {C:Nat→Bool} (c:Chain ops C) {p:List Nat} (v:Valid ops p):(p.filter C).Pairwise (· < ·):=by
 have hn:=Valid.nodup _ p rfl v;rw [List.pairwise_filter];rw [List.pairwise_iff_forall_sublist];intro x y hs hx hy;have hxm:x∈p:=hs.subset (by simp);have hym:y∈p:=hs.subset (by simp);have hne:x≠y:=by
  have:=hn.sublist hs;simp at this;exact this
 rcases zA7 x y with h|h
 ·exact h
 ·exfalso
  have hlt:y<x:=by omega
  have hp:=c y x hlt (v.lt hxm) hy hx;obtain ⟨a,b,hab⟩:=List.append_of_mem hxm;have hya:=Qq x p a b y v hab hp;rw [hab] at hs hn;have h2:[y].Sublist b:=by
   have hxa:x ∉ a:=(v a x b hab).1;have:=hs;rw [List.sublist_append_iff] at this;obtain ⟨l1,l2,e1,e2,e3⟩:=this;cases l1 with
   | nil =>
    simp at e1;subst e1;cases e3 with
    | cons _ h=>exact (List.sublist_cons_self x [y]).trans h |>.trans (List.Sublist.refl _)
    | cons_cons _ h=>exact h
   | cons z l1 =>
    simp at e1;exact absurd (e2.subset (by simp [e1.1])) hxa
  have hyb:y∈b:=h2.subset (by simp);rw [zG4] at hn;exact hn.2.2 y hya y (by simp [hyb]) rfl
theorem Chain.Pj {ops:Array Oper} {C:Nat→Bool} {p a b:List Nat} {j:Nat} (v:Valid ops p) (hp:p=a ++ j :: b) (c:Chain ops C)
 (h1:∀ k,k<j→C k=true→prec (masks ops.toList []) k j=true) (h2:∀ k,j<k→k<ops.size→C k=true→prec (masks ops.toList []) j k=true):a.filter C=(List.range j).filter C:=by
 subst hp;refine Ya (c.sorted v.left) (Zn _ _) fun x=>?_;simp only [zE0,zE3];constructor
 ·rintro ⟨hx,hc⟩;refine ⟨?_,hc⟩;have hne:j ∉ a:=(v a j b rfl).1;rcases zE7 x j with q|q|q
  ·exact q
  ·subst q;exact absurd hx hne
  ·exfalso
   have hp:=h2 x q (v.lt (by simp [hx])) hc;obtain ⟨a1,a2,ha⟩:=List.append_of_mem hx;have:=Qq x _ a1 (a2 ++ j :: b) j v (by rw [ha];simp) hp;exact hne (by rw [ha];simp [this])
 ·rintro ⟨hx,hc⟩;exact ⟨Qq j _ a b x v rfl (h1 x hx hc),hc⟩
theorem Chain.take {ops:Array Oper} {C:Nat→Bool} {p:List Nat} (v:Valid ops p) (c:Chain ops C):p.filter C=((List.range ops.size).filter C).take (p.filter C).length:=by
 refine VI (Zn _ _) (c.sorted v) (fun x hx=>?_) fun x hx y hy hlt=>?_
 ·rw [zE0] at hx ⊢;exact ⟨zE3.2 (v.lt hx.1),hx.2⟩
 ·rw [zE0] at hx hy ⊢;refine ⟨?_,hy.2⟩;have hp:=c y x hlt (v.lt hx.1) hy.2 hx.2;obtain ⟨a1,a2,ha⟩:=List.append_of_mem hx.1;have:=Qq x p a1 a2 y v ha hp;rw [ha];simp [this]
theorem WQ:∀ (n:Nat) (p:List Nat),p.Nodup→(∀ x∈p,x<n)→p.length≤n
 | 0,[],_,_=>zA3 _
 | 0,x :: _,_,h=>by have:=h x (by simp);omega
 | n+1,p,hn,h=>by
  have h1:=WQ n (p.erase n) (hn.erase n) fun x hx=>by
   rw [hn.mem_erase_iff] at hx;have:=h x hx.2;omega
  by_cases hm:n∈p
  ·rw [List.length_erase_of_mem hm] at h1;omega
  ·rw [List.erase_of_not_mem hm] at h1;omega
theorem pg {n:Nat} {p:List Nat} (hn:p.Nodup) (h:∀ x∈p,x<n) (hl:p.length=n) {x:Nat} (hx:x<n):x∈p:=by
 by_cases hm:x∈p
 ·exact hm
 ·have:=WQ n (x :: p) (List.nodup_cons.2 ⟨hm,hn⟩) fun y hy=>by
   rw [zE8] at hy;rcases hy with rfl|hy
   ·exact hx
   ·exact h y hy
  simp at this;omega
theorem Chain.full {ops:Array Oper} {C:Nat→Bool} {p:List Nat} (v:Valid ops p) (c:Chain ops C) (hl:p.length=ops.size):p.filter C=(List.range ops.size).filter C:=by
 refine Ya (c.sorted v) (Zn _ _) fun x=>?_;simp only [zE0,zE3];constructor
 ·rintro ⟨hx,hc⟩;exact ⟨v.lt hx,hc⟩
 ·rintro ⟨hx,hc⟩;refine ⟨?_,hc⟩;have hn:=Valid.nodup _ p rfl v;exact pg hn (fun y hy=>v.lt hy) hl hx
end Go.Proofs.Xx
namespace Go.Proofs.Xx
open Go
section
variable {t u:Tr Value}
theorem qK {o:Operand} (h:∀ x∈tmpsOf o,t.get x=u.get x):zT t o=zT u o:=by
 cases o with
 | tmp k=>exact h k (by simp [tmpsOf])
 | _=>rfl
theorem ZV:∀ {os:List Operand},(∀ x∈JD os,t.get x=u.get x)→jl t os=jl u os
 | [],_=>rfl
 | o :: r,h=>by
  simp only [jl];rw [qK (t:=t) (u:=u) (o:=o) fun x hx=>h x (by simp [JD,hx]),ZV (os:=r) fun x hx=>h x (by simp [JD,hx])]
theorem QW:∀ {os:List (Nat×Operand)},(∀ x∈Jh os,t.get x=u.get x)→jq t os=jq u os
 | [],_=>rfl
 | (i,o) :: r,h=>by
  simp only [jq];rw [qK (t:=t) (u:=u) (o:=o) fun x hx=>h x (by simp [Jh,hx]),QW (os:=r) fun x hx=>h x (by simp [Jh,hx])]
theorem Xr {o:Option Operand} (h:∀ x∈Yv o,t.get x=u.get x):zO t o=zO u o:=by
 cases o with
 | none=>rfl
 | some o=>simp only [zO];rw [qK (t:=t) (u:=u) (o:=o) fun x hx=>h x (by simpa [Yv] using hx)]
theorem vw {P:Program} {h:AH} {op:Op} (hc:∀ x∈X5 op,t.get x=u.get x):zZ P t h op=zZ P u h op:=by
 cases op<;>simp only [zZ,X5] at hc ⊢
 case move x=>rw [qK hc]
 case assign x=>rw [qK hc]
 case nilCheck x=>rw [qK hc]
 case load ty x=>rw [qK hc]
 case unOp a b x=>rw [qK hc]
 case convert a b x=>rw [qK hc]
 case fieldAddr a x b=>rw [qK hc]
 case field a x b=>rw [qK hc]
 case extract x b=>rw [qK hc]
 case box a x=>rw [qK hc]
 case pick c a b =>
  rw [qK (o:=c) fun x hx=>hc x (by simp [hx]),qK (o:=a) fun x hx=>hc x (by simp [hx]),qK (o:=b) fun x hx=>hc x (by simp [hx])]
 case build ty ps=>rw [QW hc]
 case buildSlice ty n ps=>rw [QW hc]
 case store ty a x=>rw [qK (o:=a) fun y hx=>hc y (by simp [hx]),qK (o:=x) fun y hx=>hc y (by simp [hx])]
 case binOp op ty a x _=>rw [qK (o:=a) fun y hx=>hc y (by simp [hx]),qK (o:=x) fun y hx=>hc y (by simp [hx])]
 case indexAddr ty a x=>rw [qK (o:=a) fun y hx=>hc y (by simp [hx]),qK (o:=x) fun y hx=>hc y (by simp [hx])]
 case index ty a x=>rw [qK (o:=a) fun y hx=>hc y (by simp [hx]),qK (o:=x) fun y hx=>hc y (by simp [hx])]
 case makeSlice ty a x=>rw [qK (o:=a) fun y hx=>hc y (by simp [hx]),qK (o:=x) fun y hx=>hc y (by simp [hx])]
 case lookup ty m k ok=>rw [qK (o:=m) fun y hx=>hc y (by simp [hx]),qK (o:=k) fun y hx=>hc y (by simp [hx])]
 case mapEntry ty m k=>rw [qK (o:=m) fun y hx=>hc y (by simp [hx]),qK (o:=k) fun y hx=>hc y (by simp [hx])]
 case mapUpdate ty m k x=>rw [qK (o:=m) fun y hx=>hc y (by simp [hx]),qK (o:=k) fun y hx=>hc y (by simp [hx]),qK (o:=x) fun y hx=>hc y (by simp [hx])]
 case insert ty m k x=>rw [qK (o:=m) fun y hx=>hc y (by simp [hx]),qK (o:=k) fun y hx=>hc y (by simp [hx]),qK (o:=x) fun y hx=>hc y (by simp [hx])]
 case entryStore ty m k x=>rw [qK (o:=m) fun y hx=>hc y (by simp [hx]),qK (o:=k) fun y hx=>hc y (by simp [hx]),qK (o:=x) fun y hx=>hc y (by simp [hx])]
 case makeFunc fn a b =>
  cases fn<;>simp only
  rw [ZV (os:=a.toList) fun y hx=>hc y (by simp [hx]),ZV (os:=b.toList) fun y hx=>hc y (by simp [hx])]
 case slice ty x a b c =>
  rw [qK (o:=x) fun y hx=>hc y (by simp [hx]),Xr (o:=a) fun y hx=>hc y (by simp [hx]),Xr (o:=b) fun y hx=>hc y (by simp [hx]),Xr (o:=c) fun y hx=>hc y (by simp [hx])]
 case call c =>
  obtain ⟨callee,args,argTypes⟩:=c;simp only at hc ⊢;rw [ZV (os:=args.toList) fun y hx=>hc y (by simp [hx])];cases callee with
  | value f=>simp only at hc ⊢;rw [qK (o:=f) fun y hx=>hc y (by simp [hx])]
  | _=>rfl
theorem qay {P:Program} {X:Extern} {run:zC} {h:AH} {op:Op} (hc:∀ x∈X5 op,t.get x=u.get x):WP P X run t h op=WP P X run u h op:=by
 unfold WP;rw [vw hc]
theorem kD {P:Program} {op:Op} (hc:∀ x∈X5 op,t.get x=u.get x):jV P t op=jV P u op:=by
 cases op<;>simp only [jV,X5] at hc ⊢
 case box a x=>rw [qK hc]
 case buildSlice ty n ps=>rw [QW hc]
theorem wH {ops:Array Oper} {o:Oper} (hc:∀ x∈pO ops o,t.get x=u.get x):qC ops t o.guard=qC ops u o.guard:=by
 unfold pO at hc;unfold qC;cases hg:o.guard with
 | none=>rfl
 | some g =>
  obtain ⟨j,want⟩:=g;rw [hg] at hc;simp only at hc ⊢;cases ho:ops[j]? with
  | none=>rfl
  | some o' =>
   rw [ho] at hc;simp only at hc ⊢;cases hd:o'.dst with
   | none=>rfl
   | some d =>
    simp only;rw [hc d (by simp [qcX,hd])]
end
theorem zl {o:Option Value} {h:AH} {n:J7} (hn:qO o h=some n):∃ v,n = .val v h:=by
 unfold qO at hn;split at hn
 ·cases hn;exact ⟨_,rfl⟩
 ·cases hn
theorem Q9 {P:Program} {t:Tr Value} {h:AH} {op:Op} {n:J7} (hm:VQ op=false) (ha:zZ P t h op=some n):∃ v,n = .val v h:=by
 cases op<;>simp only [VQ] at hm<;>simp only [zZ] at ha
 case move x=>exact zl ha
 case assign x=>exact zl ha
 case pick c a b =>
  split at ha
  ·exact zl ha
  ·exact zl ha
  ·cases ha
 case build ty ps =>
  split at ha
  ·exact zl ha
  ·cases ha
 case load ty x =>
  split at ha
  ·exact zl ha
  ·cases ha
 case nilCheck x =>
  split at ha
  ·cases ha;exact ⟨_,rfl⟩
  ·cases ha
 case binOp op ty x y _ =>
  split at ha
  ·exact zl ha
  ·cases ha
 case unOp op ty x =>
  split at ha
  ·exact zl ha
  ·cases ha
 case convert s d x =>
  split at ha
  ·split at ha
   ·cases ha;exact ⟨_,rfl⟩
   ·split at ha
    ·cases ha;exact ⟨_,rfl⟩
    ·exact zl ha
  ·cases ha
 case makeFunc fn a b =>
  cases fn<;>simp only at ha
  case func f =>
   split at ha
   ·cases ha;exact ⟨_,rfl⟩
   ·cases ha
  all_goals cases ha
 case slice ty x a b c =>
  cases c with
  | some c=>simp at hm
  | none =>
   split at ha
   ·rename_i h4
    cases h4
    exact zl ha
   ·cases ha
 case fieldAddr a x b =>
  split at ha
  ·exact zl ha
  ·cases ha
 case field a x b =>
  split at ha
  ·exact zl ha
  ·cases ha
 case indexAddr a x b =>
  split at ha
  ·exact zl ha
  ·cases ha
 case index a x b =>
  split at ha
  ·exact zl ha
  ·cases ha
 case extract x b =>
  split at ha
  ·exact zl ha
  ·cases ha
 case lookup ty m k ok =>
  split at ha
  ·exact zl ha
  ·cases ha
 case call c =>
  obtain ⟨callee,args,argTypes⟩:=c;simp only at hm ha;split at ha
  ·cases callee with
   | builtin b =>
    simp only at hm ha;unfold jc at ha;split at ha<;>first|exact zl ha|(simp at hm;done)|(cases ha;done)
   | value f=>simp at hm
   | invoke a b=>simp at hm
  ·cases ha
 all_goals first|(cases ha;done)|(simp at hm;done)
theorem qbr {P:Program} {X:Extern} {run:zC} {t:Tr Value} {h h':AH} {op:Op} {v:Value} (hm:VQ op=false) (ha:WP P X run t h op=some (v,h')):h'=h:=by
 unfold WP at ha;split at ha
 ·rename_i v0 h0 hn
  cases ha
  obtain ⟨u,hu⟩:=Q9 hm hn;cases hu;rfl
 ·rename_i h0 hn
  obtain ⟨u,hu⟩:=Q9 hm hn;cases hu
 ·rename_i g args hn
  obtain ⟨u,hu⟩:=Q9 hm hn;cases hu
 ·rename_i g args hn
  obtain ⟨u,hu⟩:=Q9 hm hn;cases hu
 ·cases ha
theorem Xm {o:Option Value} {h k:AH} {v:Value} {h1:AH} (e:qO o h=some (.val v h1)):qO o k=some (.val v k):=by
 unfold qO at e ⊢;split at e
 ·cases e;rfl
 ·cases e
theorem qch {P:Program} {t:Tr Value} {h h1 k:AH} {op:Op} {v:Value} (hm:VQ op=false) (hr:qd2 op=false) (ha:zZ P t h op=some (.val v h1)):zZ P t k op=some (.val v k):=by
 cases op<;>simp only [zZ,VQ,qd2] at ha hm hr ⊢
 case call c =>
  obtain ⟨callee,args,argTypes⟩:=c;simp only at hm ha ⊢;cases e:jl t args.toList with
  | none=>rw [e] at ha;cases ha
  | some vs =>
   rw [e] at ha;cases callee with
   | builtin b =>
    (try simp only at hm)
    (try simp only at ha)
    (try simp only)
    unfold jc at ha ⊢;split at ha<;>first|exact Xm ha|(simp at hm;done)|(cases ha;done)
   | value f=>simp at hm
   | invoke a b=>simp at hm
 case makeFunc fn a b =>
  cases fn<;>simp only at ha ⊢
  case func f =>
   split at ha
   ·cases ha;rfl
   ·cases ha
  all_goals cases ha
 all_goals first
  | exact Xm ha
  | (split at ha<;>first|exact Xm ha|(cases ha;rfl)|(cases ha;done))
  | (cases ha;done)
  | (simp at hm;done)
  | (simp at hr;done)
theorem WC {a b:Value} (h:yG a b=true):a=b:=by
 unfold yG at h;split at h
 ·rw [beq_iff_eq] at h;rw [h]
 ·rw [zA8,decide_eq_true_iff,decide_eq_true_iff] at h;rw [h.1,h.2]
 ·rename_i x y
  have h':x.data.toList=y.data.toList:=by simpa [zV] using h
  have:x=y:=by
   cases x;cases y
   simp only at h';rw [show (_:Array UInt8)=_ from Array.ext' h']
  rw [this]
 ·rfl
 ·rw [zA8] at h;rw [zA6 h.1,zA6 h.2]
 ·rw [zA8] at h;rw [zA6 h.1,zA6 h.2]
 ·rw [zA8,zA8,zA8] at h;rw [zA6 h.1,zA6 h.2.1,zA6 h.2.2.1,zA6 h.2.2.2]
 ·rfl
 ·rfl
 ·rfl
 ·cases h
theorem Jn {f:Value→Value→Bool} (hf:∀ a b,f a b=true→a=b):∀ {c d:List Value},VL f c d=true→c=d
 | [],[],_=>rfl
 | [],_ :: _,h=>by cases h
 | _ :: _,[],h=>by cases h
 | a :: r,b :: s,h=>by
  simp only [VL,zA8] at h;rw [hf a b h.1,Jn hf h.2]
theorem YB {a b:Value} (h:WB a b=true):a=b:=by
 unfold WB at h;split at h
 ·rw [zA8,zA8] at h;rw [zA6 h.1,Array.ext' (Jn (fun _ _=>WC) h.2.1),Array.ext' (Jn (fun _ _=>WC) h.2.2)]
 ·exact WC h
theorem qbi {a b:Value} (h:yF a b=true):a=b:=by
 unfold yF at h;split at h
 ·rw [Array.ext' (Jn (fun _ _=>YB) h)]
 ·rw [Array.ext' (Jn (fun _ _=>YB) h)]
 ·exact YB h
section
variable {P:Program}
theorem kC {f:Emb} {w:World} {sz:Nat} {t:Tr Value} {tm:Array Value} (T:TR f sz t tm) {o:Oper} {k:Option Nat} {c:List Value} {e:TypeId} (ha:jV P t o.op=some (k,c,e)) :
 ∃ d' w',VRs f c d'∧Pushed w w' (.cells d'.toArray e)∧(execOp (Xa tm) o).run P w = .ok (.value (QC k w.heap.size)) w':=by
 obtain ⟨dst,op,type,pos,after,guard⟩:=o;simp only at ha;unfold execOp;simp only;cases op<;>simp only [jV] at ha<;>dsimp only
 case alloc e' =>
  split at ha
  ·rename_i z hz
   split at ha
   ·rename_i hpl
    cases ha
    refine ⟨z.cells.toList,_,(VR.plain f z hpl).cells,zM w (.cells z.cells.toList.toArray e),?_⟩;simp only [Instr.alloc,newVar,newRow,zA5,yJ hz,run_newObj,zA1,Array.toArray_toList];rfl
   ·cases ha
  ·cases ha
 case box e' x =>
  split at ha
  ·rename_i v hv
   cases ha
   refine ⟨(Xa tm x).cells.toList,_,(qE T hv).cells,zM w (.cells (Xa tm x).cells.toList.toArray e),?_⟩;simp only [Instr.box,newVar,newRow,zA5,run_newObj,zA1,Array.toArray_toList];rfl
  ·cases ha
 case buildSlice ty n ps =>
  split at ha
  rotate_left
  ·cases ha
  rename_i vs e' hvs he
  have hu:=Zk he;split at ha
  rotate_left
  ·cases ha
  rename_i z hz
  obtain ⟨i,zv,hi,hzv,hzl,hsz,hz0,hpl⟩:=jD hz;split at ha
  rotate_left
  ·cases ha
  rename_i hle
  have hle:=zB6 hle;split at ha
  rotate_left
  ·cases ha
  rename_i c' hc
  cases ha
  have hzr:VRs f z z:=by rw [← hzl];exact (VR.plain f zv hpl).cells
  obtain ⟨d',q1,q2⟩:=Q7 hc (hzr.zg n) (QV T hvs);refine ⟨d',_,q2,zM w (.cells d'.toArray e),?_⟩;have hsr:(sizeOf e).run P w = .ok z.length w:=by simp [sizeOf,typeInfo,hi,hsz]
  have hzrun:(zeroValue e).run P w = .ok zv w:=by simp [zeroValue,typeInfo,hi,hzv]
  have hparts:(ps.map fun (p:Nat×Operand)=>(p.1,Xa tm p.2))=((ps.toList.map fun (i,x)=>(i,Xa tm x)).toArray):=by
   apply Array.ext';simp
  rw [hparts];simp only [Instr.buildSlice,zA5,run_underlying hu,zA1,hsr,if_neg (show ¬ (n*z.length > 2 ^ 24) by omega)];by_cases hl0:n*z.length=0
  ·have:n=0:=by
    rcases Nat.mul_eq_zero.1 hl0 with h|h
    ·exact h
    ·exact absurd h hz0
   subst this;have q1':Instr.fill (fun i=>some (i*z.length,z.length)) #[] (ps.toList.map fun (i,x)=>(i,Xa tm x))=some d'.toArray:=q1;simp only [Nat.zero_mul,if_true,zB1,zA1];simp only [hr0,Array.map_empty,zF6,q1',newRow,zA5,run_newObj,zA1,zB1];rfl
  ·rw [if_neg hl0];simp only [zA5,hzrun,zA1,zB1];have hzz:(Array.range (n*z.length)).map (fun i=>zv.cells[i % zv.cells.size]!)=(zg z n).toArray:=QM hzl hz0 n;rw [hzz];simp only [zF6,q1,newRow,zA5,run_newObj,zA1,zB1];rfl
 all_goals cases ha
theorem ObjR.fresh0 {f:Emb} {w:World} {b:Nat} {c d':List Value} {e:TypeId} (h:w.heap[b]? = some (.cells d'.toArray e)) (hv:VRs f c d'):ObjR f ⟨b,0,0⟩ w (.cells c e none false):=by
 refine ⟨d'.toArray,(0,0),h,?_,fun i v hi=>?_,fun _=>⟨rfl,fun _=>⟨rfl,?_⟩⟩,(fun k hk=>by cases hk),(fun _ i hi=>by simp at hi)⟩
 ·have:=hv.length;simp;omega
 ·obtain ⟨v',h1,h2⟩:=hv.get i v hi;exact ⟨v',by simpa using h1,h2⟩
 ·have:=hv.length;simp;omega
theorem Rel.qcd [Glob] {B:Bs} {f:Emb} {h:AH} {w w':World} (r:Rel B f h w) {ob:Obj} (hp:Pushed w w' ob) {b:Nat} {o:jC} (hb:b<h.next) (hf:f b=none) (hg:h.get b=some o)
 (ho:ObjR (f.put b ⟨w.heap.size,0,0⟩) ⟨w.heap.size,0,0⟩ w' o):Rel B (f.put b ⟨w.heap.size,0,0⟩) h w'∧f.le (f.put b ⟨w.heap.size,0,0⟩):=by
 have hle:f.le (f.put b ⟨w.heap.size,0,0⟩):=by
  intro k M e;rw [Emb.qY];exact e
  intro q;subst q;rw [hf] at e;cases e
 refine ⟨⟨fun k M e=>?_,r.wf,fun k M e=>?_,fun k M p e1 e2=>?_,fun k M p k' M' p' e1 e2 e3 e4 e5 e6 e7=>?_,fun k M p e1 e2 e3=>?_,by rw [hp.size];have:=r.base;omega,fun k hk=>(hp.old k (by have:=r.base;omega)).trans (r.keep k hk),r.glob⟩,hle⟩
 ·by_cases hk:k=b
  ·subst hk;exact hb
  ·rw [Emb.qY _ _ hk] at e;exact r.dom k M e
 ·rw [hp.size];by_cases hk:k=b
  ·subst hk;rw [Emb.qN] at e;cases e;exact zG0 _
  ·rw [Emb.qY _ _ hk] at e;exact Nat.lt_succ_of_lt (r.rng k M e)
 ·by_cases hk:k=b
  ·subst hk;rw [Emb.qN] at e1;cases e1;rw [hg] at e2;cases e2;exact ho
  ·rw [Emb.qY _ _ hk] at e1;exact ((r.obj k M p e1 e2).world (hp.old _ (r.rng k M e1))).mono hle
 ·by_cases hk:k=b
  ·by_cases hk':k'=b
   ·omega
   ·subst hk;rw [Emb.qN] at e1;cases e1
    rw [Emb.qY _ _ hk'] at e3;have:=r.rng k' M' e3;simp only at e5;omega
  ·rw [Emb.qY _ _ hk] at e1;by_cases hk':k'=b
   ·subst hk';rw [Emb.qN] at e3;cases e3
    have:=r.rng k M e1;simp only at e5;omega
   ·rw [Emb.qY _ _ hk'] at e3;exact r.inj k M p k' M' p' e1 e2 e3 e4 e5 e6 e7
 ·by_cases hk:k=b
  ·subst hk;rw [Emb.qN] at e1;cases e1;exact r.base
  ·rw [Emb.qY _ _ hk] at e1;exact r.own k M p e1 e2 e3
end
end Go.Proofs.Xx
namespace Go.Proofs.Xx
open Go
def kX (l:List zG) (t':Tr Value) (k:Nat):Tr Value:=match l[k]? with|some s=>s.t|none=>t'
section
variable {P:Program} {X:Extern} {run:zC} {sz:Nat} {ops:Array Oper} {ids:List (Nat×Nat)}
def xK (P:Program) (X:Extern) (run:zC) (sz:Nat) (ops:Array Oper) (ids:List (Nat×Nat)) (o:Oper) (i:Nat) (s:zG) (t1:Tr Value) (h1:AH):Prop :=
 qC ops s.t o.guard=some s.go∧JH sz s.t o.dst s.v=some t1∧(s.go=true→stepD P X run ids false i o.op s.t s.h=some (s.v,h1))∧(s.go=false→s.v = .tuple #[]∧h1=s.h)
theorem XD:∀ (os:List Oper) (i:Nat) (t:Tr Value) (h:AH) (l:List zG) (t':Tr Value) (h':AH),Jo P X run sz ops ids false i os t h=some (l,t',h') →
 kX l t' 0=t∧hpAt l h' 0=h∧l.length=os.length∧∀ k o,os[k]? = some o→∃ s,l[k]? = some s∧xK P X run sz ops ids o (i+k) s (kX l t' (k+1)) (hpAt l h' (k+1))
 | [],i,t,h,l,t',h',hr=>by
  cases hr
  exact ⟨rfl,rfl,rfl,fun k o ho=>by simp at ho⟩
 | o :: r,i,t,h,l,t',h',hr=>by
  have key:∀ (b:Bool) (v:Value) (t1:Tr Value) (h1:AH),Xu ⟨t,h,b,v⟩ (Jo P X run sz ops ids false (i+1) r t1 h1)=some (l,t',h')→qC ops t o.guard=some b→JH sz t o.dst v=some t1 →
   (b=true→stepD P X run ids false i o.op t h=some (v,h1))→(b=false→v = .tuple #[]∧h1=h) →
   kX l t' 0=t∧hpAt l h' 0=h∧l.length=(o :: r).length∧∀ k o',(o :: r)[k]? = some o'→∃ s,l[k]? = some s∧xK P X run sz ops ids o' (i+k) s (kX l t' (k+1)) (hpAt l h' (k+1)):=by
   intro b v t1 h1 hc q1 q2 q3 q4;cases hd:Jo P X run sz ops ids false (i+1) r t1 h1 with
   | none=>rw [hd] at hc;cases hc
   | some q =>
    obtain ⟨l1,t2,h2⟩:=q;rw [hd] at hc;simp only [Xu,Option.some.injEq,Prod.mk.injEq] at hc;obtain ⟨rfl,rfl,rfl⟩:=hc;obtain ⟨p1,p2,p3,p4⟩:=XD r (i+1) t1 h1 l1 t2 h2 hd;refine ⟨rfl,rfl,by simp [p3],fun k o' ho=>?_⟩;cases k with
    | zero =>
     simp at ho;subst ho;refine ⟨⟨t,h,b,v⟩,rfl,q1,?_,fun hb=>?_,fun hb=>?_⟩
     ·rw [q2];have:kX (⟨t,h,b,v⟩ :: l1) t2 (0+1)=kX l1 t2 0:=by simp [kX]
      rw [this,p1]
     ·have:hpAt (⟨t,h,b,v⟩ :: l1) h2 (0+1)=hpAt l1 h2 0:=by simp [hpAt]
      rw [this,p2];exact q3 hb
     ·have:hpAt (⟨t,h,b,v⟩ :: l1) h2 (0+1)=hpAt l1 h2 0:=by simp [hpAt]
      rw [this,p2];exact q4 hb
    | succ k =>
     simp at ho;obtain ⟨s,s1,s2⟩:=p4 k o' ho;refine ⟨s,by simpa using s1,?_⟩;have e1:kX (⟨t,h,b,v⟩ :: l1) t2 (k+1+1)=kX l1 t2 (k+1):=by simp [kX]
     have e2:hpAt (⟨t,h,b,v⟩ :: l1) h2 (k+1+1)=hpAt l1 h2 (k+1):=by simp [hpAt]
     rw [e1,e2,show i+(k+1)=i+1+k by omega];exact s2
  simp only [Jo] at hr;split at hr
  ·rename_i hg
   split at hr
   ·rename_i v h1 hs
    split at hr
    ·rename_i t1 hp
     exact key true v t1 h1 hr hg hp (fun _=>hs) (fun q=>by cases q)
    ·cases hr
   ·cases hr
  ·rename_i hg
   split at hr
   ·rename_i t1 hp
    exact key false _ t1 h hr hg hp (fun q=>by cases q) (fun _=>⟨rfl,rfl⟩)
   ·cases hr
  ·cases hr
def wr (ops:Array Oper) (l:List zG) (t:Tr Value) (i:Nat):Tr Value :=
 match ops[i]?,l[i]? with
 | some o,some s=>match o.dst with
  | some d=>t.set d s.v
  | none=>t
 | _,_=>t
def wrs (ops:Array Oper) (x i:Nat):Bool:=match ops[i]? with|some o=>(match o.dst with|some d=>Nat.beq d x|none=>false)|none=>false
theorem qaY {o:Oper} {i:Nat} {l:List zG} {s:zG} {t u t1:Tr Value} (ho:ops[i]? = some o) (hs:l[i]? = some s) (h:JH sz t o.dst s.v=some t1):JH sz u o.dst s.v=some (wr ops l u i):=by
 unfold JH at h ⊢;unfold wr;rw [ho,hs];simp only;cases hd:o.dst with
 | none=>rfl
 | some d =>
  rw [hd] at h;simp only at h ⊢;split at h
  ·rfl
  ·cases h
theorem qdG {l:List zG} {x i:Nat} {t u:Tr Value} (h:t.get x=u.get x):(wr ops l t i).get x=(wr ops l u i).get x:=by
 unfold wr;cases ops[i]? with
 | none=>exact h
 | some o=>cases l[i]? with
  | none=>exact h
  | some s=>cases hd:o.dst with
   | none=>simpa [hd] using h
   | some d=>simp only [hd,Tr.QF,h]
theorem qaZ {l:List zG} {x i:Nat} {t:Tr Value} (h:wrs ops x i=false):(wr ops l t i).get x=t.get x:=by
 unfold wr;unfold wrs at h;cases ho:ops[i]? with
 | none=>rfl
 | some o=>cases l[i]? with
  | none=>rfl
  | some s=>cases hd:o.dst with
   | none=>simp [hd]
   | some d =>
    rw [ho] at h;simp only [hd] at h ⊢;rw [Tr.QF,if_neg];intro q;subst q;simp at h
theorem Jw {l:List zG} {x:Nat}:∀ (p:List Nat) (t u:Tr Value),t.get x=u.get x→(p.foldl (wr ops l) t).get x=((p.filter (wrs ops x)).foldl (wr ops l) u).get x
 | [],t,u,h=>h
 | i :: p,t,u,h=>by
  rw [zD8];cases hw:wrs ops x i with
  | true =>
   simp only [if_true,List.foldl_cons];exact Jw p _ _ (qdG h)
  | false =>
   simp only [zD9,if_false,List.foldl_cons];exact Jw p _ _ ((qaZ hw).trans h)
theorem Turn.qcd {f f1:Emb} {h h1:AH} {w w1 w2:World} {ob:Obj} (u:Turn f h w f1 h1 w1) (hp:Pushed w1 w2 ob) {b:Nat} (hb:h.next≤b) (hf:f1 b=none):Turn f h w (f1.put b ⟨w1.heap.size,0,0⟩) h1 w2:=by
 refine ⟨fun k L e=>?_,u.next,u.low,fun k L e hk=>?_,fun k L e n=>?_,by rw [hp.size];have:=u.size;omega,fun k hk hq=>?_,u.same,hp.os.trans u.os,hp.tape.trans u.tape,hp.output.trans u.output⟩
 ·have:=u.le k L e;rw [Emb.qY];exact this
  intro q;subst q;rw [hf] at this;cases this
 ·rw [Emb.qY _ _ (by omega)] at e;exact u.old k L e hk
 ·by_cases hkb:k=b
  ·subst hkb;rw [Emb.qN] at e;cases e
   exact .inl u.size
  ·rw [Emb.qY _ _ hkb] at e;exact u.fresh k L e n
 ·exact (hp.old k (by have:=u.size;omega)).trans (u.keep k hk hq)
structure Canon (P:Program) (X:Extern) (run:zC) (sz:Nat) (ops:Array Oper) (ids:List (Nat×Nat)) (fl:List Nat) (l:List zG) (t0 t':Tr Value) (h h0 h':AH):Prop where
 plan:Ye ops (masks ops.toList []) fl=true
 startT:kX l t' 0=t0
 startH:hpAt l h' 0=h0
 len:l.length=ops.size
 step:∀ k o,ops[k]? = some o→∃ s,l[k]? = some s∧xK P X run sz ops ids o k s (kX l t' (k+1)) (hpAt l h' (k+1))
 checked:qcm P ops ids (masks ops.toList []) fl ((List.range ops.size).filter (qI ops fl)) (h0 :: ((List.range ops.size).filter (qI ops fl)).map fun i=>hpAt l h' (i+1)) l
 ids1:∀ i,WZ fl i=true→∃ b,Qe ids i=some b
 ids2:∀ i b,Qe ids i=some b→WZ fl i=true∧h.next≤b∧b<h0.next
 ids3:∀ i j b,Qe ids i=some b→Qe ids j=some b→i=j
theorem V7 {x i:Nat} (hw:wrs ops x i=true):∃ o,ops[i]? = some o∧o.dst=some x:=by
 unfold wrs at hw;cases ho:ops[i]? with
 | none=>rw [ho] at hw;cases hw
 | some o =>
  rw [ho] at hw;simp only at hw;cases hd:o.dst with
  | none=>rw [hd] at hw;cases hw
  | some d=>rw [hd] at hw;exact ⟨o,rfl,by rw [hd,zA6 hw]⟩
theorem WY {l:List Nat} {k:Nat}:WZ l k=true↔k∈l:=by
 unfold WZ;rw [List.any_eq_true];constructor
 ·rintro ⟨x,h1,h2⟩;rw [zA6 h2];exact h1
 ·intro h;exact ⟨k,h,by simp⟩
theorem Y3 {o:Oper} {x:Nat} {ns:List Tmp} (hd:o.dst=some x) (hx:x∈ns):vC o ns=true:=by
 unfold vC;rw [hd];exact WY.2 hx
theorem WX {l:List zG} {h':AH} {j:Nat} {s:zG} (hs:l[j]? = some s):hpAt l h' j=s.h:=by simp [hpAt,hs]
section
variable {fl:List Nat} {l:List zG} {t0 t':Tr Value} {h h0 h':AH} (c:Canon P X run sz ops ids fl l t0 t' h h0 h')
include c
theorem Canon.prec {k i:Nat} (hk:k<i) (hi:i<ops.size) (hc:clash ops fl k i=true):Xx.prec (masks ops.toList []) k i=true:=by
 have:=c.plan;unfold Ye at this;rw [zC8] at this;have h1:=this i (zE3.2 hi);rw [zA8,zC8] at h1;have h2:=h1.2 k (zE3.2 hk);rw [hc] at h2;simpa using h2
theorem Canon.edge {i:Nat} {o:Oper} (ho:ops[i]? = some o) {e:Edge} (he:e∈o.after) (hb:Region.binds .any e=true):e.on<i:=by
 have:=c.plan;unfold Ye at this;rw [zC8] at this;have h1:=this i (zE3.2 (zB9.1 ho).1);rw [zA8] at h1;have h2:=h1.1;unfold P6 at h2;rw [ho] at h2;simp only [zC8] at h2;have h3:=h2 e (by simpa using he);rw [hb] at h3;simpa using h3
theorem Canon.qb3 (x:Nat):Chain ops (wrs ops x):=by
 intro k i hk hi h1 h2;obtain ⟨a,ha,hda⟩:=V7 h1;obtain ⟨b,hb,hdb⟩:=V7 h2;refine c.prec hk hi ?_;unfold clash;rw [ha,hb];simp only;rw [Y3 hda (by simp [ZT,qcX,hdb])];rfl
theorem Canon.Vo:Chain ops (qI ops fl):=by
 intro k i hk hi h1 h2;refine c.prec hk hi ?_;have hkk:k<ops.size:=by omega
 unfold clash;rw [zE2 hkk,zE2 hi];simp [h1,h2]
theorem Canon.agree {a:List Nat} {j:Nat} {o:Oper} (v:Valid ops (a ++ [j])) (ho:ops[j]? = some o) {x:Nat} (hx:x∈ZT ops o):a.filter (wrs ops x)=(List.range j).filter (wrs ops x):=by
 have hj:j<ops.size:=(zB9.1 ho).1;refine Chain.Pj v rfl (c.qb3 x) (fun k hk hw=>?_) fun k hk hn hw=>?_
 ·obtain ⟨a',ha,hda⟩:=V7 hw;refine c.prec hk hj ?_;unfold clash;rw [ha,ho];simp only;rw [Y3 hda hx];rfl
 ·obtain ⟨a',ha,hda⟩:=V7 hw;refine c.prec hk hn ?_;unfold clash;rw [ha,ho];simp only;rw [Y3 hda hx];simp
theorem Canon.GI:∀ j,j≤ops.size→(List.range j).foldl (wr ops l) t0=kX l t' j
 | 0,_=>c.startT.symm
 | j+1,hj=>by
  have ho:ops[j]? = some ops[j]:=zE2 (by omega);obtain ⟨s,hs,q1,q2,q3⟩:=c.step j _ ho;rw [List.range_succ,List.foldl_append,Canon.GI j (by omega)];simp only [List.foldl_cons,List.foldl_nil];have hst:kX l t' j=s.t:=by simp [kX,hs]
  have:=qaY (u:=s.t) ho hs q2;rw [hst];rw [q2] at this;exact (Option.some.inj this).symm
theorem Canon.get {a:List Nat} {j:Nat} {o:Oper} (v:Valid ops (a ++ [j])) (ho:ops[j]? = some o) {s:zG} (hs:l[j]? = some s) {x:Nat} (hx:x∈ZT ops o):(a.foldl (wr ops l) t0).get x=s.t.get x:=by
 have hj:j<ops.size:=(zB9.1 ho).1;have h1:=Jw (ops:=ops) (l:=l) (x:=x) a t0 t0 rfl;have h2:=Jw (ops:=ops) (l:=l) (x:=x) (List.range j) t0 t0 rfl;rw [h1,c.agree v ho hx,← h2,c.GI j (by omega)];simp [kX,hs]
def kk (l:List zG) (h0 h':AH) (q:List Nat):AH:=match q.getLast? with|none=>h0|some j=>hpAt l h' (j+1)
theorem Canon.still {j:Nat} {o:Oper} (ho:ops[j]? = some o) {s:zG} (hs:l[j]? = some s) (hc:qI ops fl j=false):hpAt l h' (j+1)=s.h:=by
 obtain ⟨s',hs',q1,q2,q3,q4⟩:=c.step j o ho;rw [hs] at hs';cases hs'
 cases hgo:s.go with
 | false=>exact (q4 hgo).2
 | true =>
  have:=q3 hgo;unfold stepD at this;split at this
  ·split at this
   ·simp only [Option.some.injEq,Prod.mk.injEq] at this;exact this.2.symm
   ·cases this
  ·rename_i hid
   refine qbr ?_ this;unfold qI at hc;rw [zH2] at hc;rcases hc with hc|hc
   ·unfold XG at hc;rw [ho] at hc;exact hc
   ·simp at hc;obtain ⟨b,hb⟩:=c.ids1 j hc;rw [hid] at hb;cases hb
theorem Canon.wE:∀ j,j≤ops.size→kk l h0 h' ((List.range j).filter (qI ops fl))=hpAt l h' j
 | 0,_=>by simp [kk,c.startH]
 | j+1,hj=>by
  have ho:ops[j]? = some ops[j]:=zE2 (by omega);obtain ⟨s,hs,-⟩:=c.step j _ ho;rw [List.range_succ,zD1];cases hc:qI ops fl j with
  | true=>simp [hc,kk]
  | false =>
   simp only [zD8,hc,zD9,if_false,List.filter_nil,zD7];rw [Canon.wE j (by omega),c.still ho hs hc,WX hs]
theorem Canon.qe4 {a:List Nat} {j:Nat} (v:Valid ops (a ++ [j])) {s:zG} (hs:l[j]? = some s) (hj:j<ops.size) (hc:qI ops fl j=true):kk l h0 h' (a.filter (qI ops fl))=s.h:=by
 have:a.filter (qI ops fl)=(List.range j).filter (qI ops fl):=by
  refine Chain.Pj v rfl c.Vo (fun k hk hw=>c.Vo k j hk hj hw hc) fun k hk hn hw=>c.Vo j k hk hn hc hw
 rw [this,c.wE j (by omega),WX hs]
theorem Canon.qfN {a:List Nat} {j:Nat} (v:Valid ops (a ++ [j])) {s:zG} (hs:l[j]? = some s) (hj:j<ops.size) (hf:wO (masks ops.toList []) ((List.range ops.size).filter (qI ops fl)) j=true):kk l h0 h' (a.filter (qI ops fl))=s.h:=by
 unfold wO at hf;rw [zC8] at hf;have hmem:∀ k,k<ops.size→qI ops fl k=true→k∈(List.range ops.size).filter (qI ops fl):=fun k h1 h2=>zE0.2 ⟨zE3.2 h1,h2⟩;have:a.filter (qI ops fl)=(List.range j).filter (qI ops fl):=by
  refine Chain.Pj v rfl c.Vo (fun k hk hw=>?_) fun k hk hn hw=>?_
  ·have:=hf k (hmem k (by omega) hw);rw [show Nat.blt k j=true by rw [Nat.blt_eq];exact hk] at this;exact this
  ·have:=hf k (hmem k hn hw);rw [show Nat.blt k j=false by rw [Bool.eq_false_iff];intro q;rw [Nat.blt_eq] at q;omega,show Nat.beq k j=false by rw [Bool.eq_false_iff];intro q;have:=zA6 q;omega] at this;simpa using this
 rw [this,c.wE j (by omega),WX hs]
theorem Canon.qdC {a:List Nat} {j:Nat} (v:Valid ops (a ++ [j])) {o:Oper} (ho:ops[j]? = some o) {s:zG} (hs:l[j]? = some s) (hsame:qI ops fl j=true→hpAt l h' (j+1)=s.h) :
 kk l h0 h' ((a ++ [j]).filter (qI ops fl))=kk l h0 h' (a.filter (qI ops fl)):=by
 have hj:j<ops.size:=(zB9.1 ho).1;rw [zD1];cases hc:qI ops fl j with
 | true =>
  rw [c.qe4 v hs hj hc,← hsame hc];simp [hc,kk]
 | false=>simp [hc]
end
end
end Go.Proofs.Xx
namespace Go.Proofs.Xx
open Go
section
variable {P:Program} {X:Extern} {run:zC} {sz:Nat} {ops:Array Oper} {ids:List (Nat×Nat)}
structure St [Glob] (B:Bs) (ops:Array Oper) (ids:List (Nat×Nat)) (fl:List Nat) (l:List zG) (t0:Tr Value) (h h0 h':AH) (sz:Nat) (e0:Emb) (w0:World) (a:List Nat) (e:Emb) (w:World) (tm:Array Value):Prop where
 rel:Rel B e (kk l h0 h' (a.filter (qI ops fl))) w
 tr:TR e sz (a.foldl (wr ops l) t0) tm
 turn:Turn e0 h w0 e (kk l h0 h' (a.filter (qI ops fl))) w
 next:h0.next≤(kk l h0 h' (a.filter (qI ops fl))).next
 free:∀ j b,Qe ids j=some b→j ∉ a→e b=none
theorem OkAtP.of {P:Program} {ids:List (Nat×Nat)} {i:Nat} {op:Op} {s:zG} {k:AH} (h:qdX P ids i op s k=true):OkAtP P ids i op s k:=by
 unfold qdX at h;unfold OkAtP;split at h
 ·rename_i b hb
  (try rw [hb])
  split at h
  rotate_left
  ·cases h
  rename_i k1 c1 e1 hfl
  split at h
  rotate_left
  ·cases h
  rename_i c2 e2 hg
  rw [zA8] at h;have he12:=zA6 h.1;have hc12:=Jn (fun _ _=>YB) h.2;subst he12 hc12;exact ⟨_,_,_,hfl,hg⟩
 ·rename_i hb
  (try rw [hb])
  split at h
  rotate_left
  ·cases h
  rename_i u hx hop
  have hu:=qbi h;subst hu;exact ⟨_,hop⟩
theorem exists_least {n:Nat} (p:Nat→Prop) (hp:∃ i,i<n∧¬ p i):∃ i,i<n∧¬ p i∧∀ k,k<i→p k:=by
 obtain ⟨i,hi,hpi⟩:=hp;induction i using Nat.strongRecOn with
 | _ i ih =>
  by_cases hall:∀ k,k<i→p k
  ·exact ⟨i,hi,hpi,hall⟩
  ·obtain ⟨k,hk⟩:=Classical.not_forall.1 hall;obtain ⟨hk1,hk2⟩:=Classical.not_imp.1 hk;exact ih k hk1 (by omega) hk2
section
variable {fl:List Nat} {l:List zG} {t0 t':Tr Value} {h h0 h':AH} (c:Canon P X run sz ops ids fl l t0 t' h h0 h')
include c
theorem Canon.qdW {a:List Nat} {j:Nat} (v:Valid ops (a ++ [j])) {o:Oper} (ho:ops[j]? = some o) {s:zG} (hs:l[j]? = some s) (hgo:s.go=true) (hc:qI ops fl j=false) :
 OkAtP P ids j o.op s (kk l h0 h' (a.filter (qI ops fl))):=by
 have hj:j<ops.size:=(zB9.1 ho).1;cases hcalm:Yk ids (masks ops.toList []) ((List.range ops.size).filter (qI ops fl)) j o.op with
 | true =>
  have h1:=hcalm;unfold Yk at h1;split at h1
  ·cases h1
  rename_i hid
  obtain ⟨s',hs',q1,q2,q3,q4⟩:=c.step j o ho;rw [hs] at hs';cases hs'
  have hstep:=q3 hgo;unfold stepD at hstep;rw [hid] at hstep;simp only at hstep;have hm:VQ o.op=false:=by
   unfold qI at hc;rw [zH2] at hc;rcases hc with hc|hc
   ·unfold XG at hc;rw [ho] at hc;exact hc
   ·simp at hc;obtain ⟨b,hb⟩:=c.ids1 j hc;rw [hid] at hb;cases hb
  have hval:∃ u,zZ P s.t s.h o.op=some (.val s.v u):=by
   unfold WP at hstep;split at hstep
   ·rename_i v0 h0 hn;cases hstep;exact ⟨_,hn⟩
   ·rename_i h0 hn;obtain ⟨u,hu⟩:=Q9 hm hn;cases hu
   ·rename_i g args hn;obtain ⟨u,hu⟩:=Q9 hm hn;cases hu
   ·rename_i g args hn;obtain ⟨u,hu⟩:=Q9 hm hn;cases hu
   ·cases hstep
  obtain ⟨u,hval⟩:=hval;unfold OkAtP;rw [hid];simp only;rw [zG9] at h1;rcases h1 with h1|h1
  ·exact ⟨_,qch hm (by simpa using h1) hval⟩
  ·rw [c.qfN v hs hj h1];exact ⟨u,hval⟩
 | false =>
 have h1:=c.checked j hj hc o s ho hs hgo hcalm;have htk:=Chain.take v.left c.Vo;generalize hms:(List.range ops.size).filter (qI ops fl)=mems at h1 htk
 generalize hq:a.filter (qI ops fl)=q at htk ⊢
 have hql:q.length≤mems.length:=by rw [htk,zA9];exact Nat.min_le_right _ _
 have hfar:xn (masks ops.toList []) mems q.length j=false:=by
  rw [Bool.eq_false_iff];intro hf;unfold xn at hf;rw [zG9,List.any_eq_true,List.any_eq_true] at hf;rcases hf with ⟨x,hx,hp⟩|⟨x,hx,hp⟩
  ·have hxa:=Qq j _ a [] x v rfl hp;have hxm:x∈mems:=List.mem_of_mem_drop hx;have hxc:qI ops fl x=true:=by rw [← hms,zE0] at hxm;exact hxm.2
   have hxq:x∈q:=by rw [← hq,zE0];exact ⟨hxa,hxc⟩
   rw [htk] at hxq;have hn:mems.Nodup:=by rw [← hms];exact (Zn _ _).imp (fun h=>Nat.ne_of_lt h)
   rw [← zH1 q.length mems,zG4] at hn;exact hn.2.2 x hxq x hx rfl
  ·rw [← htk,← hq,zE0] at hx;obtain ⟨a1,a2,ha⟩:=List.append_of_mem hx.1;have:=Qq x _ a1 (a2 ++ [j]) j v (by rw [ha];simp) hp;exact (v a j [] rfl).1 (by rw [ha];simp [this])
 have hget:(h0 :: mems.map fun i=>hpAt l h' (i+1))[q.length]? = some (kk l h0 h' q):=by
  unfold kk;rcases List.eq_nil_or_concat q with hz|⟨r,x,hz⟩
  ·rw [hz];rfl
  ·rw [List.concat_eq_append] at hz;have hl:q.length=r.length+1:=by rw [hz];simp
   have hx:mems[r.length]? = some x:=by
    have:q[r.length]? = some x:=by rw [hz];simp
    rw [htk,zC7] at this;split at this
    ·exact this
    ·cases this
   rw [hl,zH5,zH9,hx,hz];simp
 exact h1 _ _ hget hfar
theorem Canon.one [Glob] (hC:XA P (Qb P X run)) (hY:XO P (Qx run)) {B:Bs} {e0:Emb} {w0:World} {a:List Nat} {j:Nat} {o:Oper} (v:Valid ops (a ++ [j])) (ho:ops[j]? = some o)
 (hdom:∀ b L,e0 b=some L→b<h.next) {e:Emb} {w:World} {tm:Array Value} (S:St B ops ids fl l t0 h h0 h' sz e0 w0 a e w tm) :
 ∃ e' w' tm',St B ops ids fl l t0 h h0 h' sz e0 w0 (a ++ [j]) e' w' tm'∧∀ (fn:FuncId) (ro:Option Nat) (rest:List Nat) (k:List Item) (ds:List Deferred) (cs:List Frame),
  Steps P (lone (fr fn ro tm (.inRegion ops (j :: rest) :: k) ds) cs w) (lone (fr fn ro tm' (.inRegion ops rest :: k) ds) cs w'):=by
 have hj:j<ops.size:=(zB9.1 ho).1;obtain ⟨s,hs,q1,q2,q3,q4⟩:=c.step j o ho;have hag:∀ x∈ZT ops o,(a.foldl (wr ops l) t0).get x=s.t.get x:=fun x hx=>c.get v ho hs hx;have hguard:qC ops (a.foldl (wr ops l) t0) o.guard=some s.go:=by
  rw [wH (u:=s.t) fun x hx=>hag x (by simp [ZT,hx])];exact q1
 have hput:=qaY (u:=a.foldl (wr ops l) t0) ho hs q2;have huse:∀ x∈X5 o.op,(a.foldl (wr ops l) t0).get x=s.t.get x:=fun x hx=>hag x (by simp [ZT,hx]);have hfold:(a ++ [j]).foldl (wr ops l) t0=wr ops l (a.foldl (wr ops l) t0) j:=by rw [List.foldl_append];rfl
 have hfree:∀ i b,Qe ids i=some b→i ∉ a ++ [j]→e b=none:=fun i b hi hn=>S.free i b hi fun q=>hn (by simp [q]);have hw:=JL S.tr hguard;cases hgo:s.go with
 | false =>
  obtain ⟨r1,r2⟩:=q4 hgo;have hk:=c.qdC v ho hs fun _=>r2;rw [hgo] at hw;refine ⟨e,w,WJ tm o.dst undef,⟨by rw [hk];exact S.rel,?_,by rw [hk];exact S.turn,by rw [hk];exact S.next,hfree⟩,fun fn ro rest k ds cs=>?_⟩
  ·rw [hfold];exact QO S.tr hput (by rw [r1];exact .tuple [] [] .nil)
  ·refine .one ?_;have:=Wy (P:=P) (fn:=fn) (ro:=ro) (tm:=tm) (k:=k) (ds:=ds) (cs:=cs) (w:=w) (ops:=ops) (i:=j) (rest:=rest) (by rw [ho];simp [hw]);rw [ho] at this;exact this
 | true =>
  have hstep:=q3 hgo;rw [hgo] at hw;cases hc:qI ops fl j with
  | true =>
   have hid:Qe ids j=none:=by
    cases hi:Qe ids j with
    | none=>rfl
    | some b =>
     have:=(c.ids2 j b hi).1;unfold qI at hc;rw [this] at hc;simp at hc
   unfold stepD at hstep;rw [hid] at hstep;simp only at hstep;have hkk:=c.qe4 v hs hj hc;have hk:kk l h0 h' ((a ++ [j]).filter (qI ops fl))=hpAt l h' (j+1):=by
    rw [zD1];simp [hc,kk]
   rw [← qay huse,← hkk] at hstep;obtain ⟨e',v',w',p1,p2,p3,p4⟩:=Vb hC hY ho hstep S.rel S.tr hw;refine ⟨e',w',WJ tm o.dst v',⟨by rw [hk];exact p1,?_,by rw [hk];exact S.turn.trans p2 hdom,by rw [hk];exact zD0 S.next p2.next,fun i b hi hn=>?_⟩,fun fn ro rest k ds cs=>p4 fn ro rest k ds cs⟩
   ·rw [hfold];exact QO (S.tr.mono p2.le) hput p3
   ·cases he:e' b with
    | none=>rfl
    | some L =>
     have hlt:=(c.ids2 i b hi).2.2;have:=p2.old b L he (zE4 hlt S.next);rw [hfree i b hi hn] at this;cases this
  | false =>
   have hk:=c.qdC v ho hs fun q=>by rw [hc] at q;cases q
   have hok:=c.qdW v ho hs hgo hc;unfold OkAtP at hok;unfold stepD at hstep;cases hid:Qe ids j with
   | some b =>
    rw [hid] at hok hstep;simp only at hok hstep;obtain ⟨k1,c1,e1,hfl,hg⟩:=hok;rw [hfl] at hstep;simp only [zD9,Option.some.injEq,Prod.mk.injEq] at hstep;rw [← kD huse] at hfl;obtain ⟨d',w',r1,r2,r3⟩:=kC S.tr (w:=w) hfl;obtain ⟨i1,i2,i3⟩:=c.ids2 j b hid;have hnone:e b=none:=S.free j b hid (v a j [] rfl).1;have hle0:e.le (e.put b ⟨w.heap.size,0,0⟩):=by
     intro x M ex;rw [Emb.qY];exact ex
     intro q;subst q;rw [hnone] at ex;cases ex
    obtain ⟨rr,hle⟩:=S.rel.qcd r2 (zE4 i3 S.next) hnone hg (ObjR.fresh0 r2.new (r1.mono hle0));have hd:Zp o.op=false:=by cases hq:o.op<;>first|rfl|(rw [hq] at hfl;cases hfl)
    refine ⟨e.put b ⟨w.heap.size,0,0⟩,w',WJ tm o.dst (QC k1 w.heap.size),⟨by rw [hk];exact rr,?_,by rw [hk];exact S.turn.qcd r2 i2 hnone,by rw [hk];exact S.next,fun i b' hi hn=>?_⟩,
     fun fn ro rest k ds cs=>.one (Xe ho hw hd r3)⟩
    ·rw [hfold];refine QO (S.tr.mono hle) hput ?_;rw [← hstep.1];have hp:=Emb.qN e b ⟨w.heap.size,0,0⟩;cases k1 with
     | none=>simpa [QC] using VR.pointer (f:=e.put b ⟨w.heap.size,0,0⟩) b 0 _ hp
     | some n=>simpa [QC] using VR.slice (f:=e.put b ⟨w.heap.size,0,0⟩) b 0 _ n n _ hp (zA3 _) (.inl rfl)
    ·rw [Emb.qY]
     ·exact hfree i b' hi hn
     ·intro q;subst q;have:=c.ids3 i j b' hi hid;subst this;exact hn (by simp)
   | none =>
    rw [hid] at hok hstep;simp only at hok hstep;obtain ⟨u,hop⟩:=hok;have hm:VQ o.op=false:=by
     unfold qI at hc;rw [zH2] at hc;rcases hc with hc|hc
     ·unfold XG at hc;rw [ho] at hc;exact hc
     ·simp at hc;obtain ⟨b,hb⟩:=c.ids1 j hc;rw [hid] at hb;cases hb
    obtain ⟨u',hu'⟩:=Q9 hm hop;cases hu'
    have hop':WP P X run (a.foldl (wr ops l) t0) (kk l h0 h' (a.filter (qI ops fl))) o.op=some (s.v,kk l h0 h' (a.filter (qI ops fl))):=by
     unfold WP;rw [vw huse,hop]
    obtain ⟨e',v',w',p1,p2,p3,p4⟩:=Vb hC hY ho hop' S.rel S.tr hw;refine ⟨e',w',WJ tm o.dst v',⟨by rw [hk];exact p1,?_,by rw [hk];exact S.turn.trans p2 hdom,by rw [hk];exact S.next,fun i b hi hn=>?_⟩,fun fn ro rest k ds cs=>p4 fn ro rest k ds cs⟩
    ·rw [hfold];exact QO (S.tr.mono p2.le) hput p3
    ·cases he:e' b with
     | none=>rfl
     | some L =>
      have hlt:=(c.ids2 i b hi).2.2;have:=p2.old b L he (zE4 hlt S.next);rw [hfree i b hi hn] at this;cases this
theorem Canon.finish [Glob] {B:Bs} {e0:Emb} {w0:World} {a:List Nat} (v:Valid ops a) (hl:a.length=ops.size) {e:Emb} {w:World} {tm:Array Value} (S:St B ops ids fl l t0 h h0 h' sz e0 w0 a e w tm) :
 Rel B e h' w∧Turn e0 h w0 e h' w∧TR e sz t' tm:=by
 have hk:kk l h0 h' (a.filter (qI ops fl))=h':=by
  rw [Chain.full v c.Vo hl,c.wE _ (zA3 _)];simp [hpAt,zG5 (show l.length≤ops.size by rw [c.len];exact zA3 _)]
 have h1:=S.rel;have h2:=S.turn;rw [hk] at h1 h2;refine ⟨h1,h2,S.tr.1,fun x u hx=>S.tr.2 x u ?_⟩;have q1:=Jw (ops:=ops) (l:=l) (x:=x) a t0 t0 rfl;have q2:=Jw (ops:=ops) (l:=l) (x:=x) (List.range ops.size) t0 t0 rfl;rw [q1,Chain.full v (c.qb3 x) hl,← q2,c.GI _ (zA3 _)];simpa [kX,zG5 (show l.length≤ops.size by rw [c.len];exact zA3 _)] using hx
theorem Canon.go [Glob] (hC:XA P (Qb P X run)) (hY:XO P (Qx run)) {B:Bs} {e0:Emb} {w0:World} (hdom:∀ b L,e0 b=some L→b<h.next) :
 ∀ (fuel tv:Nat) (listed:Array Bool) (a:List Nat),a.length+fuel=ops.size→listed.size=ops.size→(∀ i,i<ops.size→listed[i]? = some (decide (i∈a)))→Valid ops a →
 ∀ (e:Emb) (w:World) (tm:Array Value),St B ops ids fl l t0 h h0 h' sz e0 w0 a e w tm →
 ∃ e' w' tm',Rel B e' h' w'∧Turn e0 h w0 e' h' w'∧TR e' sz t' tm'∧∀ (fn:FuncId) (ro:Option Nat) (k:List Item) (ds:List Deferred) (cs:List Frame),
  Steps P (lone (fr fn ro tm (.inRegion ops (Region.linearise.go .any ops fuel tv listed []) :: k) ds) cs w) (lone (fr fn ro tm' (.inRegion ops [] :: k) ds) cs w'):=by
 intro fuel;induction fuel with
 | zero =>
  intro tv listed a hl hsz hli v e w tm S;obtain ⟨r1,r2,r3⟩:=c.finish v (by omega) S;exact ⟨e,w,tm,r1,r2,r3,fun fn ro k ds cs=>by simp only [Region.linearise.go,List.reverse_nil];exact .refl _ _⟩
 | succ fuel ih =>
  intro tv listed a hl hsz hli v e w tm S;simp only [Region.linearise.go];generalize hrs:(List.range ops.size).filter (fun i=>!listed.getD i true && ((ops[i]?).map (·.after.all fun e=>!Region.binds .any e || listed.getD e.on false)).getD false)=rs
  have hmem:∀ i,i∈rs→∃ o,ops[i]? = some o∧i ∉ a∧∀ e∈o.after,Region.binds .any e=true→e.on∈a:=by
   intro i hi;rw [← hrs,zE0,zE3] at hi;obtain ⟨h1,h2⟩:=hi;rw [zA8] at h2;have ho:ops[i]? = some ops[i]:=zE2 h1;rw [ho] at h2;have h3:=h2.1;rw [zH3,hli i h1] at h3;simp at h3;refine ⟨_,ho,h3,fun ed he hb=>?_⟩;have h4:=h2.2;simp only [Option.map_some,zH7,Array.all_eq_true_iff_forall_mem] at h4;have h5:=h4 ed he;rw [hb] at h5;simp only [Bool.not_true,Bool.false_or] at h5;have hlt:=c.edge ho he hb;rw [zH3,hli _ (by omega)] at h5;simpa using h5
  have hne:rs≠[]:=by
   have hex:∃ i,i<ops.size∧¬ i∈a:=by
    apply zG8
    intro hno;have hall:∀ i,i<ops.size→i∈a:=fun i hi=>by
     apply zG8;intro hn;exact hno ⟨i,hi,hn⟩
    have hle:=WQ a.length (List.range ops.size) List.nodup_range;have hn:=Valid.nodup _ a rfl v;have hsub:(List.range ops.size).length≤a.length:=by
     clear hle;have:∀ (p q:List Nat),p.Nodup→(∀ x∈p,x∈q)→p.length≤q.length:=by
      intro p;induction p with
      | nil=>intro q _ _;simp
      | cons x p ihp =>
       intro q hp hq;rw [List.nodup_cons] at hp;have:=ihp (q.erase x) hp.2 fun y hy=>(List.mem_erase_of_ne (fun e=>hp.1 (by rw [← e];exact hy))).2 (hq y (by simp [hy]));have hx:=hq x (by simp);rw [List.length_erase_of_mem hx] at this;have:0<q.length:=List.length_pos_of_mem hx;simp only [zC4];omega
     exact this _ _ List.nodup_range fun x hx=>hall x (zE3.1 hx)
    simp at hsub;omega
   obtain ⟨i,hi,hia,hleast⟩:=exists_least (fun i=>i∈a) hex;have ho:ops[i]? = some ops[i]:=zE2 hi;have:i∈rs:=by
    rw [← hrs,zE0];refine ⟨zE3.2 hi,?_⟩;rw [zA8,zH3,hli i hi,ho];refine ⟨by simp [hia],?_⟩;simp only [Option.map_some,zH7,Array.all_eq_true_iff_forall_mem];intro ed he;cases hb:Region.binds .any ed with
    | false=>rfl
    | true =>
     have hlt:=c.edge ho he hb;rw [zH3,hli _ (by omega)];simp [hleast _ hlt]
   intro q;rw [q] at this;cases this
  have hpos:0<rs.length:=List.length_pos_iff.2 hne;have hlt:tv % rs.length<rs.length:=Nat.mod_lt _ hpos;rw [zA4 hlt];simp only;generalize hi:rs[tv % rs.length]=i
  have hir:i∈rs:=by rw [← hi];exact List.getElem_mem _
  obtain ⟨o,ho,hia,hed⟩:=hmem i hir;have v':=v.snoc hia ho hed;obtain ⟨e1,w1,tm1,S1,s1⟩:=c.one hC hY v' ho hdom S;have hilt:i<ops.size:=(zB9.1 ho).1;obtain ⟨e2,w2,tm2,r1,r2,r3,s2⟩:=ih (tv / rs.length) (listed.setIfInBounds i true) (a ++ [i]) (by simp;omega) (by simp [hsz]) (fun k hk=>by
   rw [Array.getElem?_setIfInBounds];by_cases hki:i=k
   ·subst hki;simp [hsz,hk]
   ·rw [if_neg hki,hli k hk];congr 1
    rw [decide_eq_decide];simp
    intro q;exact absurd q.symm hki) v' e1 w1 tm1 S1
  refine ⟨e2,w2,tm2,r1,r2,r3,fun fn ro k ds cs=>?_⟩;rw [linearise_go_acc,List.reverse_singleton,List.singleton_append];exact (s1 fn ro _ k ds cs).trans (s2 fn ro k ds cs)
end
end
end Go.Proofs.Xx
namespace Go.Proofs.Xx
open Go
theorem Zo:∀ (l:List Nat) (n i b:Nat),Qe (numbered n l) i=some b→n≤b∧b<n+l.length∧l[b - n]? = some i
 | [],n,i,b,h=>by cases h
 | j :: r,n,i,b,h=>by
  simp only [numbered,Qe] at h;split at h
  ·rename_i hj
   cases h
   have:=zA6 hj;subst this;exact ⟨zA3 _,by simp,by simp⟩
  ·obtain ⟨h1,h2,h3⟩:=Zo r (n+1) i b h;refine ⟨by omega,by simp;omega,?_⟩;rw [show b - n=(b - (n+1))+1 by omega,zH5];exact h3
theorem YF:∀ (l:List Nat) (n i:Nat),WZ l i=true→∃ b,Qe (numbered n l) i=some b
 | [],n,i,h=>by cases h
 | j :: r,n,i,h=>by
  simp only [numbered,Qe];cases hj:Nat.beq j i with
  | true=>exact ⟨n,rfl⟩
  | false =>
   simp only;refine YF r (n+1) i ?_;rw [WY] at h ⊢;rw [zE8] at h;rcases h with h|h
   ·subst h;simp at hj
   ·exact h
section
variable {P:Program}
theorem Rel.qdi [Glob] {B:Bs} {e:Emb} {h:AH} {w:World} (r:Rel B e h w) (o:jC):Rel B e (h.add o) w∧Turn e h w e (h.add o) w:=by
 have hne:∀ b L,e b=some L→b≠h.next:=fun b L q=>by have:=r.dom b L q;omega
 refine ⟨⟨fun b L q=>Nat.lt_succ_of_lt (r.dom b L q),fun b hb=>?_,r.rng,fun b L p q1 q2=>?_,fun k M p k' M' p' e1 e2 e3 e4 e5 e6 e7=>?_,fun b L p q1 q2 q3=>?_,r.base,r.keep,r.glob⟩,
  ⟨e.le_refl,Nat.le_succ _,zA3 _,fun _ _ q _=>q,fun b L q n=>(by rw [n] at q;cases q),zA3 _,fun _ _ _=>rfl,fun b hb _=>?_,rfl,rfl,rfl⟩⟩
 ·have hb':h.next+1≤b:=hb
  rw [AH.qW,if_neg (by omega)];exact r.wf b (by omega)
 ·rw [AH.qW,if_neg (hne b L q1)] at q2;exact r.obj b L p q1 q2
 ·rw [AH.qW,if_neg (hne k M e1)] at e2;rw [AH.qW,if_neg (hne k' M' e3)] at e4;exact r.inj k M p k' M' p' e1 e2 e3 e4 e5 e6 e7
 ·rw [AH.qW,if_neg (hne b L q1)] at q2;exact r.own b L p q1 q2 q3
 ·rw [AH.qW,if_neg (by omega)]
theorem Rel.qce [Glob] {B:Bs} {e:Emb} {w:World}:∀ (os:List jC) (h:AH),Rel B e h w→Rel B e (os.foldl AH.add h) w∧Turn e h w e (os.foldl AH.add h) w∧(os.foldl AH.add h).next=h.next+os.length
 | [],h,r=>⟨r,Turn.refl _ _ _,rfl⟩
 | o :: os,h,r=>by
  obtain ⟨r1,u1⟩:=r.qdi o;obtain ⟨r2,u2,n2⟩:=Rel.qce os (h.add o) r1;refine ⟨r2,u1.trans u2 r.dom,?_⟩;rw [List.foldl_cons,n2];simp only [AH.add,zC4];omega
theorem VN [Glob] {X:Extern} {run:zC} (hm:P.follows .mixedOrders=true) (hC:XA P (Qb P X run)) (hY:XO P (Qx run)) {sz:Nat} {ops:Array Oper} {fl:List Nat} {ids:List (Nat×Nat)}
 {t t':Tr Value} {h h0 h':AH} (hp:Ye ops (masks ops.toList []) fl=true) (ho:Xk P X run sz ops (masks ops.toList []) fl ids t h0=some (t',h'))
 (ids1:∀ i,WZ fl i=true→∃ b,Qe ids i=some b) (ids2:∀ i b,Qe ids i=some b→WZ fl i=true∧h.next≤b∧b<h0.next) (ids3:∀ i j b,Qe ids i=some b→Qe ids j=some b→i=j)
 {B:Bs} {e:Emb} {w:World} {tm:Array Value} (r:Rel B e h w) (r0:Rel B e h0 w) (u0:Turn e h w e h0 w) (T:TR e sz t tm) (tv:Nat) :
 ∃ e' w' tm',Rel B e' h' w'∧Turn e h w e' h' w'∧TR e' sz t' tm'∧∀ (fn:FuncId) (ro:Option Nat) (k:List Item) (ds:List Deferred) (cs:List Frame),
  Steps P (lone (fr fn ro tm (.inRegion ops (Region.schedule (P.follows .mixedOrders) ops tv) :: k) ds) cs w) (lone (fr fn ro tm' (.inRegion ops [] :: k) ds) cs w'):=by
 unfold Xk at ho;split at ho
 rotate_left
 ·cases ho
 rename_i l t1 h1 hr
 simp only at ho;have hkey:t1=t'∧h1=h'∧qcm P ops ids (masks ops.toList []) fl ((List.range ops.size).filter (qI ops fl)) (h0 :: ((List.range ops.size).filter (qI ops fl)).map fun i=>hpAt l h1 (i+1)) l:=by
  split at ho
  ·rename_i hall
   cases ho
   refine ⟨rfl,rfl,fun i hi hc o s hoo hs hgo hcalm m k hm hf=>?_⟩;rw [zC8] at hall;have h1:=hall i (zE3.2 hi);unfold vK at h1;rw [hc,hoo,hs] at h1;simp only [Bool.false_or,hgo,Bool.not_true,hcalm,zC8] at h1;have h2:=h1 m (zE3.2 (zD6.1 hm).1);rw [hf,hm] at h2;exact OkAtP.of (by simpa using h2)
  ·split at ho
   ·rename_i hst
    cases ho
    exact ⟨rfl,rfl,hst⟩
   ·cases ho
 obtain ⟨rfl,rfl,hall⟩:=hkey;obtain ⟨q1,q2,q3,q4⟩:=XD ops.toList 0 t h0 l t1 h1 hr;have c:Canon P X run sz ops ids fl l t t1 h h0 h1:={
  plan:=hp
  startT:=q1
  startH:=q2
  len:=q3.trans zC2
  step:=fun k o hk=>by
   obtain ⟨s,s1,s2⟩:=q4 k o (by rw [zC1];exact hk);refine ⟨s,s1,?_⟩;rw [zG1] at s2;exact s2
  checked:=hall
  ids1:=ids1
  ids2:=ids2
  ids3:=ids3 }
 have hk0:kk l h0 h1 (([]:List Nat).filter (qI ops fl))=h0:=rfl;have S:St B ops ids fl l t h h0 h1 sz e w [] e w tm:={
  rel:=r0
  tr:=T
  turn:=u0
  next:=zA3 _
  free:=fun j b hj _=>by
   cases he:e b with
   | none=>rfl
   | some L =>
    have:=r.dom b L he;have:=(ids2 j b hj).2.1;omega }
 obtain ⟨e',w',tm',p1,p2,p3,p4⟩:=c.go hC hY r.dom ops.size tv (Array.replicate ops.size false) [] (by simp) (by simp) (fun i hi=>by simp [Array.getElem?_replicate,hi]) (Valid.nil ops) e w tm S;refine ⟨e',w',tm',p1,p2,p3,fun fn ro k ds cs=>?_⟩;simp only [Region.schedule,hm,Bool.true_or,if_true];exact p4 fn ro k ds cs
theorem qcY [Glob] {X:Extern} {run:zC} (hm:P.follows .mixedOrders=true) (hX:VA P X) (hN:∀ (f:FuncId) (fn:Func),P.funcs[f]? = some fn→fn.body.isSome=true→(fn.name == "runtime.NumGoroutine")=false)
 (hR:YZ P run):kM P X run:=by
 have hC:=Xv hX hN hR;have hY:=Yq hR;intro sz ops t h t' h' ho B e w tm r T tv;unfold xZ at ho;simp only at ho;split at ho
 rotate_left
 ·cases ho
 rename_i hp
 split at ho
 ·rename_i hfl
  rw [hfl] at hp;refine VN hm hC hY hp ho (fun i q=>by cases q) (fun i b q=>by cases q) (fun i j b q=>by cases q) r r (Turn.refl _ _ _) T tv
 ·rename_i j rest hfl
  rw [hfl] at hp;obtain ⟨r0,u0,n0⟩:=Rel.qce ((j :: rest).map (XH P ops sz h t)) h r;refine VN hm hC hY hp ho (fun i q=>YF _ _ _ q) (fun i b q=>?_) (fun i k b q1 q2=>?_) r r0 u0 T tv
  ·obtain ⟨a1,a2,a3⟩:=Zo _ _ _ _ q;refine ⟨WY.2 (List.mem_of_getElem? a3),a1,?_⟩;rw [n0,zC5];exact a2
  ·obtain ⟨a1,a2,a3⟩:=Zo _ _ _ _ q1;obtain ⟨b1,b2,b3⟩:=Zo _ _ _ _ q2;rw [a3] at b3;exact Option.some.inj b3
theorem xq [Glob] {X:Extern} (hm:P.follows .mixedOrders=true) (hX:VA P X) (hN:∀ (f:FuncId) (fn:Func),P.funcs[f]? = some fn→fn.body.isSome=true→(fn.name == "runtime.NumGoroutine")=false) (n:Nat) :
 YZ P (exec P X n):=wP hX hN (fun run hR=>qcY hm hX hN hR) n
end
end Go.Proofs.Xx
namespace Go.Proofs.Xx
open Go Go.RowKit
section
variable {P:Program}
theorem Gh [Glob] {X:Extern} {run:zC} (hR:YZ P run) {f:FuncId} {args:List Value} {h h':AH} {v:Value} (hc:Qb P X run f args h=some (v,h')) (hXn:X f args h=none)
 {fn:Func} {body:Code} (hfn:P.funcs[f]? = some fn) (hb:fn.body=some body) {B:Bs} {e:Emb} {w:World} {args':List Value} (r:Rel B e h w) (hargs:VRs e args args') :
 ∃ e' v' w',Rel B e' h' w'∧Turn e h w e' h' w'∧VR e' v v'∧Calls P f args'.toArray w (fun en w''=>en = .returned v'∧w''=w'):=by
 unfold Qb at hc;rw [hXn,hfn] at hc;simp only [hb] at hc;have hlen:=hargs.length;have hent:Frame.enter P f args'.toArray .normal=fr f none (args'.toArray ++ Array.replicate (fn.ntmps - args'.length) undef) [.code body] []:=by
  simp [Frame.enter,fr,hfn,hb]
 have T:TR e (args.length+(fn.ntmps - args.length)) (je 0 args .e) (args'.toArray ++ Array.replicate (fn.ntmps - args'.length) undef):=by
  refine Zd ⟨by simp [hlen],fun k u hk=>by rw [Tr.yU] at hk;cases hk⟩ hargs (by omega) fun j hj=>?_;rw [zG1,Array.getElem?_append_left (by simpa using hj)];simp
 split at hc
 ·cases hc
 rotate_left
 ·cases hc
 rename_i x t h1 hx hrun
 split at hc
 rotate_left
 ·cases hc
 rename_i vs hvs
 cases hc
 obtain ⟨e1,w1,tm1,dn,r1,u1,T1,m1,-,a1⟩:=hR _ _ _ _ _ _ _ _ hrun B e w _ f none r T (fun _=>rfl);obtain ⟨rs,d1,d2,d3⟩:=m1.ex;obtain ⟨w2,b2,st2⟩:=JC (P:=P) (N:=w.heap.size) (e:=e1) (fn:=f) (tm:=tm1) rs w1 d2 d3;have r2:=r1.beside b2 r.base;obtain ⟨vs',p1,p2⟩:=ZA (P:=P) r2 T1 hvs;have main:∀ cs,∃ todo,Steps P (lone (fr f none (args'.toArray ++ Array.replicate (fn.ntmps - args'.length) undef) [.code body] []) cs w) (lone (gone f tm1 todo dn) cs w1):=by
  cases x with
  | norm =>
   refine fun cs=>⟨[],?_⟩
   have:=a1 [] [] cs;rw [zD7] at this;exact Steps.trans this (.one qbb)
  | exit id=>exact (hx id rfl).elim
  | ret =>
   refine fun cs=>?_;obtain ⟨k',hk⟩:=a1 [] [] cs;rw [zD7] at hk;exact ⟨_,Steps.trans hk (.one qa9)⟩
 refine ⟨e1,_,w2,r2,u1.beside b2,Jq p2,fun cs=>?_⟩;obtain ⟨todo,hst⟩:=main cs;refine ⟨_,w2,gone f tm1 todo [],⟨rfl,rfl⟩,?_,rfl,rfl,rfl,rfl,fn,hfn,?_⟩
 ·rw [hent];rw [d1] at hst;exact Steps.trans hst (st2 todo cs)
 ·rw [show (gone f tm1 todo []).tmps=tm1 from rfl,WG,zA5,Array.mapM_eq_mapM_toList,Sem.run_map,p1];rfl
theorem Rel.empty [Glob] {B:Bs} {e:Emb} {h:AH} {w:World} (r:Rel B e h w):Rel B (fun _=>none) ⟨.e,0,0⟩ w :=
 ⟨fun b L q=>(by cases q),fun b _=>Tr.yU b,fun b L q=>(by cases q),fun b L o q=>(by cases q),fun b L o b' L' o' q=>(by cases q),fun b L o q=>(by cases q),r.base,r.keep,r.glob⟩
def XB (X:Extern) (f:FuncId) (v:Bool):Extern:=fun g args h=>match Nat.beq g f,args with
 | true,[]=>some (.bool v,h)
 | _,_=>X g args h
theorem vF [Glob] {X X1:Extern} {run:zC} (hX:VA P X) (hC:XA P (Qb P X1 run)) {f:FuncId} {h':AH} {v:Bool} (hc:Qb P X1 run f [] ⟨.e,0,0⟩=some (.bool v,h')):VA P (XB X f v):=by
 intro g args h u h1 hx B e w args' r hargs;unfold XB at hx;split at hx
 ·rename_i hg
  cases hx
  have:=zA6 hg;subst this;have:=hargs.jy;subst this;obtain ⟨e1,v1,w1,r1,u1,hv,hs⟩:=hC _ _ _ _ _ hc _ _ w [] r.empty .nil;cases hv
  have hk:∀ k,k<w.heap.size→w1.heap[k]? = w.heap[k]?:=fun k hk=>u1.keep k hk fun b L q=>by cases q
  refine ⟨e,.bool v,w1,?_,?_,.bool v,hs⟩
  ·exact ⟨r.dom,r.wf,fun b L q=>zE4 (r.rng b L q) u1.size,fun b L o q1 q2=>(r.obj b L o q1 q2).world (hk _ (r.rng b L q1)),r.inj,r.own,zD0 r.base u1.size,fun k q=>(hk k (by have:=r.base;omega)).trans (r.keep k q),r.glob⟩
  ·exact ⟨e.le_refl,zA3 _,zA3 _,fun _ _ q _=>q,fun b L q n=>(by rw [n] at q;cases q),u1.size,fun k q _=>hk k q,fun _ _ _=>rfl,u1.os,u1.tape,u1.output⟩
 ·exact hX _ _ _ _ _ hx B e w args' r hargs
def jR (n:Nat):Extern:=fun f args h=>match Nat.beq f n,args with
 | true,[x]=>some (x,h)
 | _,_=>none
theorem YQ [Glob] {n:Nat} {fn:Func} (hfn:P.funcs[n]? = some fn) (hname:(fn.name == "runtime.NumGoroutine")=false) (hb:fn.body.isNone=true) (hn:Extern.findNext fn=none)
 (he:Extern.find fn=some Extern.AbiNoEscape.same):VA P (jR n):=by
 intro f args h v h' hx B e w args' r hargs;unfold jR at hx;split at hx
 ·rename_i x hf
  cases hx
  have:=zA6 hf;subst this;obtain ⟨x',r',rfl,hx',hr'⟩:=hargs.cons_inv;have:=hr'.jy;subst this;refine ⟨e,x',w,r,Turn.refl _ _ _,hx',.inl ?_⟩;rw [run_callFunc_extern hfn hname hb hn he];rfl
 ·cases hx
end
end Go.Proofs.Xx
namespace Go.Proofs.Xx
open Go Go.RowKit
def QH (c:UInt8):List UInt8→Option Nat
 | []=>none
 | x :: s=>if x=c then some 0 else (QH c s).map (· + 1)
def Yi (c:UInt8) (s:List UInt8):Int:=match QH c s with|some i=>i|none=>-1
def qaR (c:UInt8) (s:List UInt8):Nat:=s.countP (· == c)
theorem yY (c:UInt8):∀ s:List UInt8,(QH c s=none∧Lib.indexByte s c = -1)∨∃ i:Nat,QH c s=some i∧Lib.indexByte s c=i
 | []=>.inl ⟨rfl,rfl⟩
 | x :: s=>by
  unfold QH Lib.indexByte;by_cases e:x=c
  ·rw [if_pos e,if_pos (by simpa using e)];exact .inr ⟨0,rfl,rfl⟩
  ·rw [if_neg e,if_neg (by simpa using e)];rcases yY c s with ⟨h1,h2⟩|⟨i,h1,h2⟩
   ·rw [h1,h2];exact .inl ⟨rfl,rfl⟩
   ·rw [h1,h2];refine .inr ⟨i+1,rfl,?_⟩;rw [if_neg (by intro q;have:=eq_of_beq q;omega)];rfl
theorem qbQ (c:UInt8) (s:List UInt8):Lib.indexByte s c=Yi c s:=by
 unfold Yi;rcases yY c s with ⟨h1,h2⟩|⟨i,h1,h2⟩
 ·rw [h1,h2]
 ·rw [h1,h2]
def withBytes (X:Extern) (cnt ix:Nat):Extern:=fun g args h=>match Nat.beq g cnt,Nat.beq g ix,args with
 | true,_,[.string s,.int .u8 c]=>some (.int .i64 (qaR c.toNat.toUInt8 s.data.toList:Nat),h)
 | _,true,[.string s,.int .u8 c]=>some (.int .i64 (Yi c.toNat.toUInt8 s.data.toList),h)
 | _,_,_=>X g args h
theorem vG [Glob] {P:Program} {X:Extern} (hX:VA P X) {cnt ix:Nat} {f1 f2:Func} (h1:P.funcs[cnt]? = some f1) (h2:P.funcs[ix]? = some f2) (n1:(f1.name == "runtime.NumGoroutine")=false) (n2:(f2.name == "runtime.NumGoroutine")=false)
 (b1:f1.body.isNone=true) (b2:f2.body.isNone=true) (m1:Extern.findNext f1=none) (m2:Extern.findNext f2=none) (e1:Extern.find f1=some Extern.BytealgCount.count) (e2:Extern.find f2=some Extern.BytealgIndexByte.indexByte):VA P (withBytes X cnt ix):=by
 intro f args h v h' hx B e w args' r hargs;unfold withBytes at hx;split at hx
 ·rename_i s c hf
  cases hx
  have:=zA6 hf;subst this;obtain ⟨x',r',rfl,hx',hr'⟩:=hargs.cons_inv;obtain ⟨y',r2,rfl,hy',hr2⟩:=hr'.cons_inv;have:=hr2.jy;subst this;cases hx';cases hy'
  refine ⟨e,_,w,r,Turn.refl _ _ _,.int _ _,.inl ?_⟩;rw [run_callFunc_extern h1 n1 b1 m1 e1,Lib.run_countString];rfl
 ·rename_i s c hg hf
  cases hx
  have:=zA6 hg;subst this;obtain ⟨x',r',rfl,hx',hr'⟩:=hargs.cons_inv;obtain ⟨y',r2,rfl,hy',hr2⟩:=hr'.cons_inv;have:=hr2.jy;subst this;cases hx';cases hy'
  refine ⟨e,_,w,r,Turn.refl _ _ _,.int _ _,.inl ?_⟩;rw [run_callFunc_extern h2 n2 b2 m2 e2,Lib.run_indexByteString,qbQ];rfl
 ·exact hX _ _ _ _ _ hx B e w args' r hargs
end Go.Proofs.Xx
namespace Go.Proofs.Xx
open Go Go.RowKit
def We (X:Extern) (n:Nat):Extern:=fun g args h=>match Nat.beq g n,args with
 | true,[.string a,.string b]=>some (.int .i64 (Lib.compareBytes a.data.toList b.data.toList),h)
 | _,_=>X g args h
theorem Gy [Glob] {P:Program} {X:Extern} (hX:VA P X) {n:Nat} {f1:Func} (h1:P.funcs[n]? = some f1) (n1:(f1.name == "runtime.NumGoroutine")=false) (b1:f1.body.isNone=true) (m1:Extern.findNext f1=none) (e1:Extern.find f1=some Extern.BytealgCompare.compare):VA P (We X n):=by
 intro f args h v h' hx B e w args' r hargs;unfold We at hx;split at hx
 ·rename_i s c hf
  cases hx
  have:=zA6 hf;subst this;obtain ⟨x',r',rfl,hx',hr'⟩:=hargs.cons_inv;obtain ⟨y',r2,rfl,hy',hr2⟩:=hr'.cons_inv;have:=hr2.jy;subst this;cases hx';cases hy'
  refine ⟨e,_,w,r,Turn.refl _ _ _,.int _ _,.inl ?_⟩;rw [run_callFunc_extern h1 n1 b1 m1 e1,Lib.run_compareString];rfl
 ·exact hX _ _ _ _ _ hx B e w args' r hargs
def qb7 (x y:Value) (h:AH):Bool :=
 match x,y with
 | .slice _ 0 _,.slice _ _ _=>true
 | .slice _ _ _,.slice _ 0 _=>true
 | .slice (some ⟨b,_,none⟩) _ _,.slice (some ⟨b',_,none⟩) _ _=>match Nat.beq b b',h.get b,h.get b' with
  | false,some (.cells _ _ _ false),some (.cells (_ :: _) _ _ false)=>true
  | _,_,_=>false
 | _,_=>false
def V8 (X:Extern) (n:Nat):Extern:=fun g args h=>match Nat.beq g n,args with
 | true,[x,y]=>match qb7 x y h with
  | true=>some (.bool false,h)
  | false=>none
 | _,_=>X g args h
theorem ZO {P:Program} (w:World) (tS tR e:TypeId) (ht:P.underlying tS=some (.slice e)) (size:Nat) (hz:∀ w,(Go.sizeOf e).run P w = .ok size w) (a b:Option Addr) (la ca lb cb:Nat) (h0:la=0∨lb=0) :
 (Extern.SlicesOverlaps.overlaps #[tS,tS] #[tR] #[.slice a la ca,.slice b lb cb]).run P w = .ok (.bool false) w:=by
 change Sem.run P (α:=Value) (do
  let some t:=(#[tS,tS]:Array TypeId)[0]?|stuck "slices.overlaps: no parameter types"
  let .slice elem ← underlying t|stuck "slices.overlaps: slice type expected"
  let size ← sizeOf elem
  match a,b with
  | some a,some b =>
   if la=0∨lb=0∨size=0 then pure (Value.bool false)
   else if a.block != b.block && (← frozen a) && (← frozen b) then unsupported .addressObserved
   else do
    if a.block != b.block then do
     noView a;noView b
     if ← mayBeOne a b then return Value.bool ((← choose (.extern "sameAddr.stringBytes" 2)) == 1)
    pure (Value.bool (a.block == b.block && a.off<b.off+lb*size && b.off<a.off+la*size))
  | _,_=>pure (Value.bool false)) w=_
 have h1:la=0∨lb=0∨size=0:=by rcases h0 with h|h;exact .inl h;exact .inr (.inl h)
 cases a with
 | none=>simp [run_underlying ht,hz]
 | some a=>cases b with
  | none=>simp [run_underlying ht,hz]
  | some b=>simp [run_underlying ht,hz,h1]
theorem Gv [Glob] {P:Program} {X:Extern} (hX:VA P X) {n:Nat} {f1:Func} {tS tR el:TypeId} {size:Nat} (h1:P.funcs[n]? = some f1) (n1:(f1.name == "runtime.NumGoroutine")=false) (b1:f1.body.isNone=true) (m1:Extern.findNext f1=none)
 (e1:Extern.find f1=some (Extern.SlicesOverlaps.overlaps #[tS,tS] #[tR])) (ht:P.underlying tS=some (.slice el)) (hz:∀ w,(Go.sizeOf el).run P w = .ok size w):VA P (V8 X n):=by
 intro f args h v h' hx B e w args' r hargs;unfold V8 at hx;split at hx
 ·rename_i x y hf
  split at hx
  rotate_left
  ·cases hx
  rename_i hap
  cases hx
  have:=zA6 hf;subst this;obtain ⟨x',r',rfl,hx',hr'⟩:=hargs.cons_inv;obtain ⟨y',r2,rfl,hy',hr2⟩:=hr'.cons_inv;have:=hr2.jy;subst this;have key:(Extern.SlicesOverlaps.overlaps #[tS,tS] #[tR] #[x',y']).run P w = .ok (.bool false) w:=by
   unfold qb7 at hap;split at hap
   ·cases hx'<;>cases hy'<;>exact ZO w tS tR el ht size hz _ _ _ _ _ _ (.inl rfl)
   ·cases hx'<;>cases hy'<;>exact ZO w tS tR el ht size hz _ _ _ _ _ _ (.inr rfl)
   ·rename_i b o la ca b' o' lb cb q1 q2
    split at hap
    ·rename_i c1 t1 s1 x0 c2 t2 s2 hne hb1 hb2
     cases hx' with
     | slice _ _ a _ _ L hL hl ho =>
     cases hy' with
     | slice _ _ a' _ _ L' hL' hl' ho' =>
     have hla:la≠0:=fun q=>q1 q;have hlb:lb≠0:=fun q=>q2 q;obtain rfl:a=⟨L.blk,L.sh+o,none⟩:=by rcases ho with ho|ho;exact ho;omega
     obtain rfl:a'=⟨L'.blk,L'.sh+o',none⟩:=by rcases ho' with ho|ho;exact ho;omega
     have o1:=r.obj _ _ _ hL hb1;have o2:=r.obj _ _ _ hL' hb2;obtain ⟨cc,fr,g1,g2,g3,g4,g5,g6⟩:=o1;obtain ⟨cc',fr',k1,k2,k3,k4,k5,k6⟩:=o2;have hblk:L.blk≠L'.blk:=fun q=>by
      have:=r.inj _ _ _ _ _ _ hL hb1 hL' hb2 q rfl rfl;subst this;simp at hne
     refine Lib.run_overlaps_apart w tS tR el ht size hz _ _ la _ lb _ hblk t1 t2 cc.size cc'.size ?_ ?_ ?_ ?_ ?_
     ·simp only [World.shape?,g1]
     ·simp only [World.shape?,k1]
     ·simp at k2;omega
     ·have:=g6 rfl (L.sh+o);unfold World.frozen?;simp only [g1];simp only [zH2,decide_eq_false_iff_not];omega
     ·have:=g6 rfl cc.size;unfold World.frozen?;simp only [g1];simp only [zH2,decide_eq_false_iff_not];omega
    ·cases hap
   ·cases hap
  refine ⟨e,_,w,r,Turn.refl _ _ _,.bool _,.inl ?_⟩;rw [run_callFunc_extern h1 n1 b1 m1 e1,key];rfl
 ·exact hX _ _ _ _ _ hx B e w args' r hargs
end Go.Proofs.Xx
namespace Go.Proofs.Xx
open Go Go.RowKit Go.Shelf
class Flag where
 b:Bool
def qfI:Ren where
 f x:=match x with | 217=>146 | 219=>187 | 224=>211 | 225=>210 | 266=>184 | 267=>212 | 314=>223|x=>x
 t x:=match x with | 3=>3 | 4=>4 | 5=>5 | 9=>9 | 46=>175 | 51=>200 | 146=>247|x=>x
 g x:=match x with | 1=>0|x=>x
theorem laysX:Lays.n219 Tryz.prog qfI where
 mixed:=by kernel_rfl
 f217:=by kernel_rfl
 f219:=by kernel_rfl
 f224:=by kernel_rfl
 f225:=by kernel_rfl
 f266:=by kernel_rfl
 f267:=by kernel_rfl
 f314:=by kernel_rfl
 t3:=by kernel_rfl
 a3:=fun w=>by rfl
 z3:=fun w=>by rfl
 v3:=fun w=>by rfl
 t4:=by kernel_rfl
 a4:=fun w=>by rfl
 z4:=fun w=>by rfl
 v4:=fun w=>by rfl
 t5:=by kernel_rfl
 a5:=fun w=>by rfl
 z5:=fun w=>by rfl
 v5:=fun w=>by rfl
 t9:=by kernel_rfl
 a9:=fun w=>by rfl
 z9:=fun w=>by rfl
 v9:=fun w=>by rfl
 t46:=by kernel_rfl
 a46:=fun w=>by rfl
 z46:=fun w=>by rfl
 v46:=fun w=>by rfl
 t51:=by kernel_rfl
 a51:=fun w=>by rfl
 z51:=fun w=>by rfl
 v51:=fun w=>by rfl
 t146:=by kernel_rfl
 a146:=fun w=>by rfl
 z146:=fun w=>by rfl
 v146:=fun w=>by rfl
 g1:=by kernel_rfl
def qfJ:Ren where
 f x:=match x with | 129=>162 | 284=>203 | 317=>216 | 318=>217|x=>x
 t x:=match x with | 0=>0 | 3=>3 | 4=>4 | 5=>5 | 9=>9 | 46=>175 | 53=>202 | 212=>241|x=>x
 g x:=match x with | 17=>1|x=>x
theorem laysD:LaysM.n284 Tryz.prog qfJ where
 mixed:=by kernel_rfl
 f129:=by kernel_rfl
 f284:=by kernel_rfl
 f317:=by kernel_rfl
 f318:=by kernel_rfl
 t0:=by kernel_rfl
 a0:=fun w=>by rfl
 z0:=fun w=>by rfl
 v0:=fun w=>by rfl
 t3:=by kernel_rfl
 a3:=fun w=>by rfl
 z3:=fun w=>by rfl
 v3:=fun w=>by rfl
 t4:=by kernel_rfl
 a4:=fun w=>by rfl
 z4:=fun w=>by rfl
 v4:=fun w=>by rfl
 t5:=by kernel_rfl
 a5:=fun w=>by rfl
 z5:=fun w=>by rfl
 v5:=fun w=>by rfl
 t9:=by kernel_rfl
 a9:=fun w=>by rfl
 z9:=fun w=>by rfl
 v9:=fun w=>by rfl
 t46:=by kernel_rfl
 a46:=fun w=>by rfl
 z46:=fun w=>by rfl
 v46:=fun w=>by rfl
 t53:=by kernel_rfl
 a53:=fun w=>by rfl
 z53:=fun w=>by rfl
 v53:=fun w=>by rfl
 t212:=by kernel_rfl
 a212:=fun w=>by rfl
 z212:=fun w=>by rfl
 v212:=fun w=>by rfl
 g17:=by kernel_rfl
 i0:=by kernel_rfl
 i3:=by kernel_rfl
 i4:=by kernel_rfl
 i5:=by kernel_rfl
 i9:=by kernel_rfl
 i46:=by kernel_rfl
 i53:=by kernel_rfl
 i212:=by kernel_rfl
 m17:=by kernel_rfl
instance globBook [Flag]:Glob:=⟨fun lo ref=>1<lo∧(∃ m el fr,ref[0]? = some (.cells #[.int .i64 m] el fr))∧(Flag.b=true→∃ el fr,ref[1]? = some (.cells (Lib.pow10Tab.map fun z=>Value.int .u64 z).toArray el fr))⟩
theorem qd5:Tryz.prog.globalNamed "internal/strconv.uint64pow10" = some 1:=by kernel_rfl
theorem qbN [Flag] {B:Bs} {e:Emb} {h:AH} {w:World} (r:Rel B e h w):∃ m,w.cell? ⟨0,0,none⟩=some (.int .i64 m):=by
 obtain ⟨h1,⟨m,el,fr,h2⟩,-⟩:=r.glob;have h3:=(r.keep 0 (by omega)).trans h2;refine ⟨m,?_⟩;unfold World.cell?;simp only [h3];rfl
theorem qbL [Flag] {B:Bs} {e:Emb} {h:AH} {w:World} (r:Rel B e h w) (hf:Flag.b=true):Lib.TabIs Tryz.prog w "internal/strconv.uint64pow10" .u64 Lib.pow10Tab:=by
 obtain ⟨h1,-,h2⟩:=r.glob;obtain ⟨el,fr,h2⟩:=h2 hf;have h3:=(r.keep 1 h1).trans h2;unfold Lib.TabIs World.var?;rw [qd5];simp only [Option.bind_some,h3]
def V9 (X:Extern) (f:FuncId):Extern:=fun g args h=>match Nat.beq g f,args with
 | true,[.string s,.string t]=>if s.data.toList.length<4294967281 then some (.int .i64 (Lib.index s.data.toList t.data.toList),h) else none
 | _,_=>X g args h
theorem Gx [Flag] {X:Extern} (hX:VA Tryz.prog X):VA Tryz.prog (V9 X 187):=by
 intro g args h u h1 hx B e w args' r hargs;unfold V9 at hx;split at hx
 ·rename_i s t hg
  have:=zA6 hg;subst this;split at hx
  rotate_left
  ·cases hx
  rename_i hz
  cases hx
  obtain ⟨x',r',rfl,hx',hr'⟩:=hargs.cons_inv;obtain ⟨y',r2,rfl,hy',hr2⟩:=hr'.cons_inv;have:=hr2.jy;subst this;cases hx';cases hy'
  obtain ⟨m,hm⟩:=qbN r;refine ⟨e,_,w,r,Turn.refl _ _ _,.int _ _,.inr ⟨?_,fun c cs=>?_⟩⟩
  ·exact Go.Proofs.enters_of laysX.f219 (by kernel_rfl) rfl _ _
  ·have hc:=Any.stringslite_Index laysX s t m w (by simpa using hz) hm (c :: cs);obtain ⟨en,w',fr,⟨rfl,rfl⟩,hco,-,hl⟩:=hc;exact Steps.trans hco (.one (step_leave_returned hl))
 ·exact hX _ _ _ _ _ hx B e w args' r hargs
def JB [Flag] (X:Extern) (f:FuncId):Extern:=fun g args h=>match Nat.beq g f,args with
 | true,[.int .u64 u]=>if Flag.b=true∧1≤u∧u<18446744073709551616 then some (.int .i64 (Lib.nDigits u.toNat),h) else none
 | _,_=>X g args h
theorem xN [Flag] {X:Extern} (hX:VA Tryz.prog X):VA Tryz.prog (JB X 203):=by
 intro g args h u h1 hx B e w args' r hargs;unfold JB at hx;split at hx
 ·rename_i z hg
  have:=zA6 hg;subst this;split at hx
  rotate_left
  ·cases hx
  rename_i hz
  cases hx
  obtain ⟨x',r',rfl,hx',hr'⟩:=hargs.cons_inv;have:=hr'.jy;subst this;cases hx'
  refine ⟨e,.int .i64 (Lib.nDigits z.toNat),w,r,Turn.refl _ _ _,.int _ _,.inr ⟨?_,fun c cs=>?_⟩⟩
  ·exact Go.Proofs.enters_of laysD.f284 (by kernel_rfl) rfl _ _
  ·have hc:=Any.internal_strconv_numDigits laysD z.toNat (by omega) (by omega) w (qbL r hz.1) (c :: cs);rw [show ((z.toNat:Nat):Int)=z by omega] at hc;obtain ⟨en,w',fr,⟨rfl,rfl⟩,hco,-,hl⟩:=hc;exact Steps.trans hco (.one (step_leave_returned hl))
 ·exact hX _ _ _ _ _ hx B e w args' r hargs
theorem Kw [Flag]:VA Tryz.prog (jR 182) :=
 YQ Tryz.func182 (by kernel_rfl) (by kernel_rfl) (by kernel_rfl) (by kernel_rfl)
theorem pq (f:FuncId) (fn:Func) (h:Tryz.prog.funcs[f]? = some fn) (hb:fn.body.isSome=true):(fn.name == "runtime.NumGoroutine")=false:=by
 have h0:Tryz.prog.funcs.all (fun fn=>!(fn.name == "runtime.NumGoroutine"))=true:=by kernel_rfl
 have:=Array.all_eq_true_iff_forall_mem.1 h0 fn (Array.mem_of_getElem? h);simpa using this
theorem follows:Tryz.prog.follows .mixedOrders=true:=by kernel_rfl
def X0:Extern:=V9 (V8 (We (withBytes (jR 182) 222 184) 194) 135) 187
theorem qft [Flag]:VA Tryz.prog X0 :=
 Gx <| Gv (tS:=30) (tR:=4) (el:=111) (size:=3) (Gy (vG Kw Tryz.func222 Tryz.func184 (by kernel_rfl) (by kernel_rfl) (by kernel_rfl) (by kernel_rfl) (by kernel_rfl) (by kernel_rfl) (by kernel_rfl) (by kernel_rfl))
  Tryz.func194 (by kernel_rfl) (by kernel_rfl) (by kernel_rfl) (by kernel_rfl)) Tryz.func135 (by kernel_rfl) (by kernel_rfl) (by kernel_rfl) (by rfl) (by kernel_rfl) (fun w=>by rfl)
end Go.Proofs.Xx
