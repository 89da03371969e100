/-
  Ways and trees in a metric: plain.
-/
import Derived.Test.YtjgpiabklllldaaGreatDoorM9
import Derived.Test.YtjgpiabklllldaaGreatDoorM8
import Derived.Test.YtjgpiabklllldaaGreatDoorM10
set_option linter.unusedSectionVars false
set_option linter.unusedSimpArgs false
set_option linter.unusedVariables false
set_option maxRecDepth 100000
set_option maxHeartbeats 4000000
namespace Go.Proofs.Xx
structure Met (d:Int→Int→Int):Prop where
 nn:∀ a b,0≤d a b
 z:∀ a,d a a=0
 sym:∀ a b,d a b=d b a
 tri:∀ a b c,d a c≤d a b+d b c
def jq (d:Int→Int→Int):Int→List Int→Int→Int
 | a,[],b=>d a b
 | a,t :: l,b=>d a t+jq d t l b
theorem QI {d:Int→Int→Int}:∀ (l:List Int) (a t:Int) (r:List Int) (b:Int),jq d a (l ++ t :: r) b=jq d a l t+jq d t r b
 | [],a,t,r,b=>rfl
 | x :: l,a,t,r,b=>by
  rw [zC6,jq,jq,QI l x t r b];omega
theorem ww {d:Int→Int→Int} (m:Met d):∀ (l:List Int) (a b:Int),d a b≤jq d a l b
 | [],a,b=>Int.le_refl _
 | x :: l,a,b=>by
  have h1:=ww m l x b;have h2:=m.tri a x b;rw [jq];omega
theorem VU {d:Int→Int→Int} (m:Met d) (l:List Int) (a b:Int):0≤jq d a l b:=by
 have h1:=ww m l a b;have h2:=m.nn a b;omega
def tour (d:Int→Int→Int) (l:List Int):Int:=jq d (-1) l (-1)
def jR (stops:List Int):Nat→List Int→List (List Int)
 | 0,done=>[done]
 | n+1,done=>stops.flatMap fun t=>if t∈done then [] else jR stops n (done ++ [t])
abbrev VA:=List Int×Int
def Qr (L:List Int→Int) (s:VA) (c:List Int):VA:=if s.2<0∨L c<s.2 then (c,L c) else s
theorem yh {L:List Int→Int}:∀ (l:List (List Int)) (s:VA),0≤s.2→(∀ c∈l,s.2≤L c)→l.foldl (Qr L) s=s
 | [],s,_,_=>rfl
 | c :: l,s,h,k=>by
  have h1:=k c (by simp);have e:Qr L s c=s:=by unfold Qr;rw [if_neg (by omega)]
  rw [List.foldl_cons,e];exact yh l s h fun x hx=>k x (List.mem_cons_of_mem _ hx)
theorem xH (stops:List Int):∀ (n:Nat) (done c:List Int),c∈jR stops n done→∃ r,c=done ++ r∧r.length=n
 | 0,done,c,h=>⟨[],by simpa [jR] using h,rfl⟩
 | n+1,done,c,h=>by
  rw [jR,zG9] at h;obtain ⟨t,ht,h⟩:=h;split at h
  ·cases h
  ·obtain ⟨r,rfl,hr⟩:=xH stops n _ c h;exact ⟨t :: r,by simp,by simp [hr]⟩
theorem xI (stops:List Int):∀ (n:Nat) (done r:List Int),r.length=n→(done ++ r).Nodup→(∀ x∈r,x∈stops)→done ++ r∈jR stops n done
 | 0,done,r,h,_,_=>by rw [zE9.1 h];simp [jR]
 | n+1,done,[],h,_,_=>by cases h
 | n+1,done,t :: r,h,h1,h2=>by
  rw [jR,zG9];refine ⟨t,h2 t (by simp),?_⟩;have hn:t ∉ done:=fun q=>by
   rw [zG4] at h1;exact h1.2.2 t q t (by simp) rfl
  rw [if_neg hn];have e:done ++ t :: r=(done ++ [t]) ++ r:=by simp
  rw [e] at h1 ⊢;exact xI stops n _ r (by simpa using h) h1 fun x hx=>h2 x (List.mem_cons_of_mem _ hx)
inductive Cov (d:Int→Int→Int):List Int→List Int→Int→Prop where
 | nil {J:List Int}:Cov d J [] 0
 | snoc {J R:List Int} {c x p:Int} (h:Cov d J R c) (hp:p∈J∨p∈R):Cov d J (R ++ [x]) (c+d x p)
theorem Cov.mono {d:Int→Int→Int} {J J' R:List Int} {c:Int} (h:Cov d J R c) (hs:∀ x∈J,x∈J'):Cov d J' R c:=by
 induction h with
 | nil=>exact .nil
 | snoc _ hp ih=>exact .snoc ih (hp.imp (hs _) id)
theorem Cov.shift {d:Int→Int→Int} {J J' R:List Int} {c p v:Int} (h:Cov d (p :: J) R c) (hv:v∈J') (hs:∀ x∈J,x∈J'):Cov d J' (p :: R) (c+d p v):=by
 generalize hJ:p :: J=K at h
 induction h with
 | nil =>
  have:=Cov.snoc (d:=d) (J:=J') (R:=[]) (c:=0) (x:=p) (p:=v) .nil (.inl hv);simpa using this
 | @snoc R c x q h hq ih =>
  subst hJ;have:=Cov.snoc (x:=x) (p:=q) ih (by
   rcases hq with hq|hq
   ·rcases zE8.1 hq with rfl|hq
    ·exact .inr (by simp)
    ·exact .inl (hs _ hq)
   ·exact .inr (List.mem_cons_of_mem _ hq))
  have e:c+d p v+d x q=c+d x q+d p v:=by omega
  rw [e] at this;exact this
theorem Cov.exch {d:Int→Int→Int} (m:Met d) {J:List Int} {w:Int} {R:List Int} {c:Int} (h:Cov d J R c):∀ {v:Int},v∈R→(∀ x∈R,∀ y∈J,w≤d x y)→R.Nodup →
 ∃ R' c',R'.Perm (R.erase v)∧Cov d (v :: J) R' c'∧c'+w≤c:=by
 induction h with
 | nil=>intro v hv;cases hv
 | @snoc R c x p h hp ih =>
  intro v hv hw hnd;rw [zG4] at hnd;obtain ⟨nd,-,ndx⟩:=hnd;have hxR:x ∉ R:=fun q=>ndx x q x (by simp) rfl;have hw0:∀ y∈R,∀ z∈J,w≤d y z:=fun y hy=>hw y (List.mem_append_left _ hy);by_cases e:v=x
  ·subst e;have eR:(R ++ [v]).erase v=R:=by rw [List.erase_append_right _ hxR];simp
   rw [eR];by_cases hpR:p∈R
   ·obtain ⟨R',c',k1,k2,k3⟩:=ih hpR hw0 nd;refine ⟨p :: R',c'+d p v,?_,k2.shift (by simp) fun y hy=>List.mem_cons_of_mem _ hy,?_⟩
    ·exact (k1.cons p).trans (List.perm_cons_erase hpR).symm
    ·have:=m.sym v p;omega
   ·have hpJ:p∈J:=hp.resolve_right hpR;have:=hw v (by simp) p hpJ;exact ⟨R,c,.refl _,h.mono fun y hy=>List.mem_cons_of_mem _ hy,by omega⟩
  ·have hvR:v∈R:=by
    rcases zB8.1 hv with q|q
    ·exact q
    ·exact absurd (zB5.1 q) e
   obtain ⟨R',c',k1,k2,k3⟩:=ih hvR hw0 nd;refine ⟨R' ++ [x],c'+d x p,?_,k2.snoc ?_,by omega⟩
   ·rw [List.erase_append_left _ hvR];exact k1.append_right [x]
   ·by_cases q:p=v
    ·exact .inl (by simp [q])
    ·rcases hp with hp|hp
     ·exact .inl (List.mem_cons_of_mem _ hp)
     ·exact .inr (k1.mem_iff.2 ((List.mem_erase_of_ne q).2 hp))
inductive Prim (d:Int→Int→Int):List Int→List Int→Int→Prop where
 | nil {J:List Int}:Prim d J [] 0
 | step {J L:List Int} {c v u:Int} (hv:v∈L) (hu:u∈J) (hm:∀ x∈L,∀ y∈J,d v u≤d x y) (h:Prim d (v :: J) (L.erase v) c):Prim d J L (d v u+c)
theorem Cov.perm0 {d:Int→Int→Int} {J R:List Int} {c:Int} (h:Cov d J R c) (hR:R=[]):c=0:=by
 cases h with
 | nil=>rfl
 | snoc _ _=>simp at hR
theorem Prim.le {d:Int→Int→Int} (m:Met d) {J L:List Int} {c:Int} (h:Prim d J L c):∀ {R:List Int} {e:Int},R.Perm L→L.Nodup→Cov d J R e→c≤e:=by
 induction h with
 | nil=>intro R e hp _ k;rw [k.perm0 (List.perm_nil.1 hp)];exact Int.le_refl _
 | @step J L c v u hv hu hm h ih =>
  intro R e hp nd k;obtain ⟨R',e',k1,k2,k3⟩:=Cov.exch m k (hp.mem_iff.2 hv) (fun x hx y hy=>hm x (hp.mem_iff.1 hx) y hy) (hp.symm.nodup nd);have:=ih (k1.trans (hp.erase v)) (nd.erase v) k2;omega
theorem Cov.way {d:Int→Int→Int} (m:Met d) (a b:Int):∀ (R:List Int),∃ e,Cov d [a] R e∧e≤jq d a R b:=fun R=>by
 have key:∀ (n:Nat) (R:List Int),R.length=n→∀ b,∃ e,Cov d [a] R e∧e+d (R.getLast?.getD a) b≤jq d a R b:=by
  intro n;induction n with
  | zero=>intro R h b;rw [zE9.1 h];exact ⟨0,.nil,by simp [jq]⟩
  | succ n ih =>
   intro R h b;rcases List.eq_nil_or_concat R with rfl|⟨R',x,rfl⟩
   ·cases h
   ·rw [List.concat_eq_append] at h ⊢;obtain ⟨e,k1,k2⟩:=ih R' (by simpa using h) x;refine ⟨e+d x (R'.getLast?.getD a),k1.snoc ?_,?_⟩
    ·cases hq:R'.getLast? with
     | none=>exact .inl (by simp)
     | some y=>exact .inr (List.mem_of_getLast? hq)
    ·rw [QI,m.sym x];simp [jq]
     omega
 obtain ⟨e,k1,k2⟩:=key _ R rfl b;have:=m.nn (R.getLast?.getD a) b;exact ⟨e,k1,by omega⟩
theorem kT {d:Int→Int→Int} (m:Met d) (a:Int):∀ (l:List Int) (v u b:Int),u=a∨u∈l→∃ l',l'.Perm (v :: l)∧jq d a l' b≤jq d a l b+2*d v u
 | l,v,u,b,h=>by
  by_cases e:u=a
  ·subst e;refine ⟨v :: l,.refl _,?_⟩;rw [jq];have h1:=m.sym v u;cases l with
   | nil=>rw [jq,jq];have:=m.tri v u b;omega
   | cons t l=>rw [jq,jq];have:=m.tri v u t;omega
  ·have hu:u∈l:=h.resolve_left e;cases l with
   | nil=>cases hu
   | cons t l =>
    obtain ⟨l',k1,k2⟩:=kT m t l v u b (by rcases zE8.1 hu with q|q;exact .inl q;exact .inr q);refine ⟨t :: l',(k1.cons t).trans (List.Perm.swap v t l),?_⟩;rw [jq,jq];omega
theorem Prim.tour {d:Int→Int→Int} (m:Met d) (a b:Int) {J L:List Int} {c:Int} (h:Prim d J L c):∀ {K:List Int},(∀ x∈J,x=a∨x∈K)→∃ l,l.Perm (L ++ K)∧jq d a l b≤jq d a K b+2*c:=by
 induction h with
 | nil=>intro K _;exact ⟨K,.refl _,by omega⟩
 | @step J L c v u hv hu hm h ih =>
  intro K hK;obtain ⟨K',k1,k2⟩:=kT m a K v u b (hK u hu);obtain ⟨l,k3,k4⟩:=ih (K:=K') fun x hx=>by
   rcases zE8.1 hx with rfl|hx
   ·exact .inr (k1.mem_iff.2 (by simp))
   ·exact (hK x hx).imp id fun q=>k1.mem_iff.2 (List.mem_cons_of_mem _ q)
  refine ⟨l,k3.trans ?_,by omega⟩;have p1:(L.erase v ++ K').Perm (L.erase v ++ (v :: K)):=k1.append_left _;have p2:(L.erase v ++ (v :: K)).Perm (v :: (L.erase v ++ K)):=List.perm_middle;have p3:(v :: (L.erase v ++ K)).Perm (L ++ K):=by
   rw [← zC6];exact (List.perm_cons_erase hv).symm.append_right K
  exact p1.trans (p2.trans p3)
end Go.Proofs.Xx
namespace Go.Proofs.Xx
def qgg (a b:List Int):Prop:=∃ pre x y s t,a=pre ++ x :: s∧b=pre ++ y :: t∧x<y
end Go.Proofs.Xx
namespace Go.Proofs.Xx
def Qn (l:List Int):Int:=l.getLast?.getD (-1)
def QJ (d:Int→Int→Int) (l:List Int):Int:=tour d l - d (Qn l) (-1)
theorem Q5 {l:List Int} {t:Int}:Qn (l ++ [t])=t:=by simp [Qn]
theorem yN {d:Int→Int→Int}:QJ d []=0:=by simp [QJ,tour,jq,Qn]
theorem VO {d:Int→Int→Int} {l:List Int}:tour d l=QJ d l+d (Qn l) (-1):=by unfold QJ;omega
theorem qcN {d:Int→Int→Int} (l:List Int) (t:Int):jq d (-1) l t=QJ d l+d (Qn l) t:=by
 unfold QJ tour;rcases List.eq_nil_or_concat l with rfl|⟨r,x,rfl⟩
 ·simp [jq,Qn]
 ·rw [List.concat_eq_append,QI,QI,Q5];simp [jq]
theorem yO {d:Int→Int→Int} (l:List Int) (t:Int):QJ d (l ++ [t])=QJ d l+d (Qn l) t:=by
 rw [← qcN];unfold QJ tour;rw [QI,Q5];simp [jq]
theorem qaU {d:Int→Int→Int} (m:Met d) (l r:List Int):tour d l≤tour d (l ++ r):=by
 rcases List.eq_nil_or_concat l with rfl|⟨l',x,rfl⟩
 ·have:=VU m r (-1) (-1);have h:=m.z (-1);simp [tour,jq,h];exact this
 ·unfold tour;rw [List.concat_eq_append,zF2,QI,List.singleton_append,QI];have:=ww m r x (-1);simp [jq];omega
theorem VX {d:Int→Int→Int} {M:Int} {N:Int} (hd:∀ a b,a<N→b<N→0≤d a b∧d a b≤M) (hN:0≤N):∀ (l:List Int),(∀ t∈l,t<N)→0≤QJ d l∧QJ d l≤M*l.length∧Qn l<N:=by
 have key:∀ (n:Nat) (l:List Int),l.length=n→(∀ t∈l,t<N)→0≤QJ d l∧QJ d l≤M*l.length∧Qn l<N:=by
  intro n;induction n with
  | zero=>intro l h _;rw [zE9.1 h];simp [yN,Qn];omega
  | succ n ih =>
   intro l h ht;rcases List.eq_nil_or_concat l with rfl|⟨l',x,rfl⟩
   ·cases h
   ·rw [List.concat_eq_append] at h ht ⊢;obtain ⟨h1,h2,h3⟩:=ih l' (by simpa using h) fun t q=>ht t (List.mem_append_left _ q);have hx:=ht x (by simp);have h4:=hd (Qn l') x h3 hx;rw [yO,Q5];refine ⟨by omega,?_,hx⟩;simp only [zB2,zD5];push_cast
    rw [Int.mul_add];omega
 exact fun l=>key _ l rfl
def YE (stops:List Int) (n:Nat) (done:List Int) (i:Nat):List (List Int):=(stops.take i).flatMap fun t=>if t∈done then [] else jR stops n (done ++ [t])
theorem qdB {stops:List Int} {n:Nat} {done:List Int}:YE stops n done 0=[]:=by simp [YE]
theorem qaL {stops:List Int} {n:Nat} {done:List Int}:YE stops n done stops.length=jR stops (n+1) done:=by simp [YE,jR]
theorem qdA {stops:List Int} {n:Nat} {done:List Int} {i:Nat} (hi:i<stops.length):YE stops n done (i+1)=YE stops n done i ++ (if stops.getD i default∈done then [] else jR stops n (done ++ [stops.getD i default])):=by
 unfold YE;rw [List.take_add_one,List.flatMap_append,zA4 hi];have:stops.getD i default=stops[i]:=by rw [zA2,zA4 hi];rfl
 rw [this];simp
theorem qb3 {d:Int→Int→Int} (m:Met d) {stops:List Int} {n:Nat} {done:List Int} {s:VA} (h0:0≤s.2) (h:s.2≤tour d done):(jR stops n done).foldl (Qr (tour d)) s=s :=
 yh _ _ h0 fun c hc=>by
  obtain ⟨r,rfl,-⟩:=xH stops n done c hc;have:=qaU m done r;omega
theorem PI {L:List Int→Int} {B:Int} (hL:∀ c,0≤L c):∀ (l:List (List Int)) (s:VA),(∀ c∈l,L c≤B)→s.2≤B→-1≤s.2→-1≤(l.foldl (Qr L) s).2∧(l.foldl (Qr L) s).2≤B
 | [],s,_,h,h1=>⟨h1,h⟩
 | c :: l,s,hb,h,h1=>by
  rw [List.foldl_cons];refine PI hL l _ (fun x hx=>hb x (List.mem_cons_of_mem _ hx)) ?_ ?_
  ·unfold Qr;split
   ·exact hb c (by simp)
   ·exact h
  ·unfold Qr;split
   ·have:=hL c;simp only;omega
   ·exact h1
theorem ValidL.xy {l:List Tab} (h:ValidL l) {i:Nat} (hi:i<l.length):kG (tb l i):=by
 have hc:=(h.2 i hi).1;unfold chk at hc;split at hc
 ·cases hc
 ·split at hc
  ·cases hc
  ·split at hc
   ·cases hc
   ·split at hc
    ·cases hc
    ·rename_i hx;exact zF3.1 hx
theorem yI {l:List Tab} (h:ValidL l) {t:Int} (ht:t<l.length):0≤wu l t∧wu l t≤1000:=by
 unfold wu;split
 ·omega
 ·have:=h.xy (i:=t.toNat) (by omega);unfold kG at this;omega
theorem yH {l:List Tab} (h:ValidL l) {t:Int} (ht:t<l.length):0≤wo l t∧wo l t≤1000:=by
 unfold wo;split
 ·omega
 ·have:=h.xy (i:=t.toNat) (by omega);unfold kG at this;omega
theorem Xb (l:List Tab):Met (zG l):=by
 constructor<;>intros<;>unfold zG<;>omega
theorem Zl {l:List Tab} (h:ValidL l) {a b:Int} (ha:a<l.length) (hb:b<l.length):0≤zG l a b∧zG l a b≤2000:=by
 have h1:=yI h ha;have h2:=yI h hb;have h3:=yH h ha;have h4:=yH h hb;unfold zG;omega
theorem gQ {h0:AH} (w:WfH h0) (v:PbV) (p:Pb) (H:PbOk h0 v p) (t:Int) (ht:t<p.tabs.length):Fn Tryz.prog Xh 102 [v.val,.int .i64 t] h0 (fun u h'=>u = .tuple #[.int .i64 (wu p.tabs t),.int .i64 (wo p.tabs t)]∧Hs h0 h' []):=by
 have S:=Hs.start w;have hr:=H.tab.rd;unfold PbV.val;refine qJ (by first|rfl) Tryz.func102 rfl rfl ?_;all_goals (repeat' (first|refine qg ?_|refine qh rfl ?_|refine qi ?_|(refine qc 0 ?_;(refine bx S ?_;clear S;intro b h S);refine mv ?_;refine mv ?_;refine qf ?_)|(refine qc 1 ?_;refine mv ?_;(first|(refine cS ?_ ?_<;>intro hc))<;>(refine qf ?_))|(refine qc 2 ?_;refine mv ?_;refine mv ?_;refine qf ?_)))
 ·refine qj ⟨_,rfl,?_⟩;exact ⟨by unfold wu wo;rw [if_pos hc,if_pos hc];rfl,S.drop⟩
 ·obtain ⟨j,rfl⟩:=zH3 (show 0≤t by omega);all_goals (repeat' (first|(refine zx 3 ?_;refine vl ?_;refine lB S rfl rfl ?_;refine mv ?_;refine zW S ?_;refine fB S ?_;refine zV S ?_;refine vl ?_;refine lB S rfl rfl ?_;refine mv ?_;refine zW S ?_;refine fB S ?_;refine zV S ?_;refine mv ?_;refine mv ?_;refine qf ?_)))
  refine qj ⟨_,rfl,?_⟩;exact ⟨by unfold wu wo;rw [if_neg (by omega),if_neg (by omega)];rfl,S.drop⟩
theorem Qy {h0:AH} (w:WfH h0) (v:PbV) (p:Pb) (H:PbOk h0 v p) (hv:ValidL p.tabs) (a c:Int) (ha:a<p.tabs.length) (hb:c<p.tabs.length):Fn Tryz.prog Xh 66 [v.val,.int .i64 a,.int .i64 c] h0 (fun u h'=>u = .int .i64 (zG p.tabs a c)∧Hs h0 h' []):=by
 have S:=Hs.start w;have x1:=yI hv ha;have x2:=yI hv hb;have y1:=yH hv ha;have y2:=yH hv hb;unfold PbV.val;refine qJ (by first|rfl) Tryz.func66 rfl rfl ?_;all_goals (repeat' (first|refine qg ?_|(refine qc 0 ?_;(refine bx S ?_;clear S;intro b h S);refine mv ?_;refine qf ?_)|(refine qc 1 ?_;refine lB S rfl rfl ?_;refine mv ?_)))
 obtain ⟨bb,hnm⟩:∃ x,x=b:=⟨_,rfl⟩;subst hnm;(refine qx rfl rfl rfl rfl rfl ((gQ S.wf v p (H.ext w S.ext) a ha).mono ?_);rintro _ h ⟨rfl,x⟩)<;>(replace S:=S.join0 x;clear x;refine mv ?_;refine vl ?_;refine vl ?_;refine mv ?_;refine mv ?_;refine qf ?_)
 all_goals (repeat' (first|refine qg ?_|(refine qc 2 ?_;refine lB S rfl rfl ?_;refine mv ?_)))
 (refine qx rfl rfl rfl rfl rfl ((gQ S.wf v p (H.ext w S.ext) c hb).mono ?_);rintro _ h ⟨rfl,x⟩)<;>(replace S:=S.join0 x;clear x;refine mv ?_;refine vl ?_;refine vl ?_;refine mv ?_;refine mv ?_;refine qf ?_)
 all_goals (repeat' (first|refine qg ?_|(refine qc 3 ?_;refine mv ?_;refine mv ?_;refine sb ?_;refine mv ?_;refine mv ?_;refine sb ?_;refine mx ?_;refine mv ?_;refine mv ?_;refine sb ?_;refine mv ?_;refine mv ?_;refine sb ?_;refine mx ?_;refine ad ?_;refine mv ?_;refine qf ?_)))
 refine qj ⟨_,rfl,?_⟩;exact ⟨rfl,S.drop⟩
theorem GM {h0:AH} (w:WfH h0) (v:PbV) (p:Pb) (H:PbOk h0 v p) (hv:ValidL p.tabs) (wl:Value) (l:List Int) (rl:qY h0 wl 1 eI l) (hl:l.length≤1000000) (ht:∀ t∈l,t<p.tabs.length):Fn Tryz.prog Xh 69 [v.val,wl] h0 (fun u h'=>u = .int .i64 (tour (zG p.tabs) l)∧Hs h0 h' []):=by
 have S:=Hs.start w;unfold PbV.val;refine qJ (by first|rfl) Tryz.func69 rfl rfl ?_;all_goals (repeat' (first|refine qg ?_|refine qo ?_|(refine qc 0 ?_;(refine bx S ?_;clear S;intro b h S);refine mv ?_;refine qf ?_)|(refine qc 1 ?_;refine mv ?_;refine mv ?_;refine qf ?_)|(refine qc 2 ?_;refine mv ?_;refine zC S ?_;refine mv ?_;refine qf ?_)))
 refine qH (σ:=Nat×Int×Int) (fun (i,n,a) h'=>Hs h0 h' [.blk b v.cs 28]∧i≤l.length∧(0≤n∧n≤2000*i)∧a<p.tabs.length∧n+jq (zG p.tabs) a (l.drop i) (-1)=tour (zG p.tabs) l) (fun (i,n,a)=>l.length - i) (fun (i,n,a)=>[(2,.pointer (some ⟨b,0,none⟩)),(5,.int .i64 n),(6,.int .i64 a),(9,wl),(10,.int .i64 l.length),(11,.int .i64 i)]) (0,0,-1) qy ?_ ?_
 ·exact ⟨S,zB0 _,⟨Int.le_refl _,Int.le_refl _⟩,by omega,by simp [tour]⟩
 clear S;rintro ⟨i,n,a⟩ h ⟨S,h1,h2,h3,h4⟩;all_goals (repeat' (first|refine qg ?_|refine qh rfl ?_|refine qi ?_|refine qB ?_|refine qo ?_|(refine qc 3 ?_;(first|(refine cS ?_ ?_<;>intro hc))<;>(refine qf ?_))|(refine qc 4 ?_;refine zW S ?_;refine zV S ?_;refine mv ?_;refine qf ?_)|(refine qc 5 ?_;refine mv ?_;refine lB S rfl rfl ?_;refine mv ?_;refine mv ?_)|(refine qc 8 ?_;refine mv ?_;refine lB S rfl rfl ?_;refine mv ?_)))
 ·(try simp only [zA0] at *)
  have hi:i<l.length:=by omega
  have h5:=ht _ (qI hi);have h6:=Zl hv h3 h5;(refine qx rfl rfl rfl rfl rfl ((Qy S.wf v p (H.ext w S.ext) hv a (l.getD i default) h3 h5).mono ?_);rintro _ h ⟨rfl,x⟩)<;>(replace S:=S.join0 x;clear x;refine ad ?_;refine mv ?_;refine qf ?_)
  all_goals (repeat' (first|(refine qc 6 ?_;refine mv ?_;refine mv ?_;refine qf ?_)|(refine qc 7 ?_;refine ad ?_;refine mv ?_;refine qf ?_)))
  refine ⟨(i+1,n+zG p.tabs a (l.getD i default),l.getD i default),?_,?_,qy⟩
  ·show l.length - (i+1)<l.length - i;omega
  ·refine ⟨S,by omega,⟨by simp only;omega,by simp only;omega⟩,h5,?_⟩;rw [← h4,zG7 hi,jq,zA2,zA4 hi];simp only [zH5];omega
 ·have hi:i=l.length:=by omega
  have h6:=Zl hv h3 (show (-1:Int)<p.tabs.length by omega);(refine qx rfl rfl rfl rfl rfl ((Qy S.wf v p (H.ext w S.ext) hv a (-1) h3 (by omega)).mono ?_);rintro _ h ⟨rfl,x⟩)<;>(replace S:=S.join0 x;clear x;refine ad ?_;refine mv ?_;refine qf ?_)
  all_goals (repeat' (fail))
  refine qj ⟨_,rfl,?_⟩;refine ⟨?_,S.drop⟩;rw [← h4,hi,List.drop_length,jq];rfl
theorem qcp {h0:AH} (w:WfH h0) (v:PbV) (p:Pb) (H:PbOk h0 v p) (a c:Int):Fn Tryz.prog Xh 41 [v.val,.int .i64 a,.int .i64 c] h0 (fun u h'=>((PO p∧-1≤a∧-1≤c∧a<p.tabs.length∧c<p.tabs.length∧u = .tuple #[.int .i64 (zG p.tabs a c),.bool true]) ∨
 (¬ (PO p∧-1≤a∧-1≤c∧a<p.tabs.length∧c<p.tabs.length)∧u = .tuple #[.int .i64 0,.bool false]))∧Hs h0 h' []):=by
 have S:=Hs.start w;have hr:=H.tab.rd;have hl:=H.tab.len;unfold PbV.val;refine qJ (by first|rfl) Tryz.func41 rfl rfl ?_;all_goals (repeat' (first|refine qg ?_|(refine qc 0 ?_;(refine bx S ?_;clear S;intro b h S);refine mv ?_;refine mv ?_;refine qf ?_)|(refine qc 1 ?_;refine lB S rfl rfl ?_)))
 (refine qx rfl rfl rfl rfl rfl ((XF S.wf v p (H.ext w S.ext)).mono ?_);rintro _ h ⟨i,e,rfl,hk,x⟩)<;>(replace S:=S.join0 x;clear x;refine mv ?_;refine vl ?_;refine vl ?_;refine mv ?_;refine mv ?_;refine qf ?_)
 have hpo:=hk.po;all_goals (repeat' (first|refine qg ?_|refine qh rfl ?_|refine qi ?_|(refine qc 2 ?_;refine mv ?_;(first|(refine cS ?_ ?_<;>intro hc))<;>(refine mv ?_;(first|refine off ?_|refine mv ?_);(first|refine off ?_|refine mv ?_);(first|refine off ?_|refine mn ?_);(first|refine off ?_|(first|(refine cS ?_ ?_<;>intro hc)))<;>(refine vl ?_;refine mv ?_;(first|refine off ?_|refine mv ?_);(first|refine off ?_|refine mv ?_);(first|refine off ?_|refine mx ?_);(first|refine off ?_|(refine vl ?_));(first|refine off ?_|(refine lB S rfl rfl ?_));(first|refine off ?_|(refine zC S ?_));(first|refine off ?_|(first|(refine cS ?_ ?_<;>intro hc)))<;>(refine vl ?_;refine qf ?_))))|(refine qc 3 ?_;refine mv ?_;refine mv ?_;refine qf ?_)))
 ·refine qj ⟨_,rfl,?_⟩;exact ⟨.inr ⟨fun q=>hc (hpo.2 q.1),rfl⟩,S.drop⟩
 ·refine qj ⟨_,rfl,?_⟩;exact ⟨.inr ⟨fun q=>by omega,rfl⟩,S.drop⟩
 ·refine qj ⟨_,rfl,?_⟩;exact ⟨.inr ⟨fun q=>by omega,rfl⟩,S.drop⟩
 ·have hp:PO p:=hpo.1 (by omega);all_goals (repeat' (first|(refine qc 4 ?_;refine lB S rfl rfl ?_;refine mv ?_;refine mv ?_)))
  (refine qx rfl rfl rfl rfl rfl ((Qy S.wf v p (H.ext w S.ext) hp.tabs a c (by omega) (by omega)).mono ?_);rintro _ h ⟨rfl,x⟩)<;>(replace S:=S.join0 x;clear x;refine mv ?_;refine mv ?_;refine qf ?_)
  all_goals (repeat' (fail))
  refine qj ⟨_,rfl,?_⟩;exact ⟨.inl ⟨hp,by omega,by omega,by omega,by omega,rfl⟩,S.drop⟩
theorem qaJ {h0:AH} (w:WfH h0) (v:PbV) (p:Pb) (H:PbOk h0 v p) (wl:Value) (l:List Int) (rl:qY h0 wl 1 eI l) (hl:l.length≤1000000):Fn Tryz.prog Xh 42 [v.val,wl] h0 (fun u h'=>((¬ PO p∧∃ i e,e≠0∧CkP p i e∧u = .tuple #[.int .i64 0,.int .i64 e])∨(PO p∧((¬ (∀ t∈l,0≤t∧t<p.tabs.length)∧u = .tuple #[.int .i64 0,.int .i64 2])∨((∀ t∈l,0≤t∧t<p.tabs.length)∧u = .tuple #[.int .i64 (tour (zG p.tabs) l),.int .i64 0]))))∧Hs h0 h' []):=by
 have S:=Hs.start w;have hr:=H.tab.rd;have htl:=H.tab.len;unfold PbV.val;refine qJ (by first|rfl) Tryz.func42 rfl rfl ?_;all_goals (repeat' (first|refine qg ?_|(refine qc 0 ?_;(refine bx S ?_;clear S;intro b h S);refine mv ?_;refine mv ?_;refine qf ?_)|(refine qc 1 ?_;refine lB S rfl rfl ?_)))
 (refine qx rfl rfl rfl rfl rfl ((XF S.wf v p (H.ext w S.ext)).mono ?_);rintro _ h ⟨i,e,rfl,hk,x⟩)<;>(replace S:=S.join0 x;clear x;refine mv ?_;refine vl ?_;refine vl ?_;refine mv ?_;refine mv ?_;refine qf ?_)
 have hpo:=hk.po;all_goals (repeat' (first|refine qg ?_|refine qh rfl ?_|refine qi ?_|refine qo ?_|(refine qc 2 ?_;refine mv ?_;(first|(refine cS ?_ ?_<;>intro hc))<;>(refine qf ?_))|(refine qc 3 ?_;(iterate 3 refine mv ?_);refine qf ?_)|(refine qc 4 ?_;refine mv ?_;refine zC S ?_;refine mv ?_;refine qf ?_)))
 ·refine qj ⟨_,rfl,?_⟩;exact ⟨.inl ⟨fun q=>hc (hpo.2 q),i,e,hc,hk,rfl⟩,S.drop⟩
 have hp:PO p:=hpo.1 (by omega);all_goals (repeat' (fail))
 refine qH (σ:=Nat) (fun i h'=>Hs h0 h' [.blk b v.cs 28]∧i≤l.length∧∀ j,j<i→0≤l.getD j default∧l.getD j default<p.tabs.length) (fun i=>l.length - i) (fun i=>[(1,wl),(2,.pointer (some ⟨b,0,none⟩)),(4,.int .i64 0),(5,.int .i64 0),(18,wl),(19,.int .i64 l.length),(20,.int .i64 i)]) 0 qy ?_ ?_
 ·exact ⟨S,zB0 _,fun j hj=>absurd hj (zB7 _)⟩
 clear S;rintro i h ⟨S,k1,k2⟩;all_goals (repeat' (first|refine qg ?_|refine qh rfl ?_|refine qi ?_|refine qB ?_|refine qo ?_|(refine qc 5 ?_;(first|(refine cS ?_ ?_<;>intro hc))<;>(refine qf ?_))|(refine qc 6 ?_;refine zW S ?_;refine zV S ?_;refine mv ?_;refine qf ?_)|(refine qc 7 ?_;refine mv ?_;(first|(refine cS ?_ ?_<;>intro hc))<;>(refine mv ?_;(first|refine off ?_|refine mv ?_);(first|refine off ?_|(refine vl ?_));(first|refine off ?_|(refine lB S rfl rfl ?_));(first|refine off ?_|(refine zC S ?_));(first|refine off ?_|(first|(refine cS ?_ ?_<;>intro hc)))<;>(refine vl ?_;refine qf ?_)))|(refine qc 8 ?_;refine mv ?_;refine mv ?_;refine qf ?_)|(refine qc 9 ?_;refine ad ?_;refine mv ?_;refine qf ?_)|(refine qc 10 ?_;refine lB S rfl rfl ?_;refine mv ?_)))
 ·refine qj ⟨_,rfl,?_⟩;exact ⟨.inr ⟨hp,.inl ⟨fun q=>by have:=(q _ (qI (show i<l.length by omega))).1;simp only [zA0] at hc;omega,rfl⟩⟩,S.drop⟩
 ·refine qj ⟨_,rfl,?_⟩;exact ⟨.inr ⟨hp,.inl ⟨fun q=>by have:=(q _ (qI (show i<l.length by omega))).2;simp only [zA0] at hc;omega,rfl⟩⟩,S.drop⟩
 ·(try simp only [zA0] at *)
  refine ⟨i+1,?_,?_,qy⟩
  ·show l.length - (i+1)<l.length - i;omega
  ·exact ⟨S,by omega,jy k2 ⟨by omega,by omega⟩⟩
 ·have ht:∀ t∈l,0≤t∧t<p.tabs.length:=fun t ht=>by
   obtain ⟨j,hj,rfl⟩:=qK.1 ht;exact k2 j (by omega)
  (refine qx rfl rfl rfl rfl rfl ((GM S.wf v p (H.ext w S.ext) hp.tabs wl l (rl.ext w S.ext) hl (fun t q=>(ht t q).2)).mono ?_);rintro _ h ⟨rfl,x⟩)<;>(replace S:=S.join0 x;clear x;refine mv ?_;refine mv ?_;refine qf ?_)
  all_goals (repeat' (fail))
  refine qj ⟨_,rfl,?_⟩;exact ⟨.inr ⟨hp,.inr ⟨ht,rfl⟩⟩,S.drop⟩
section
variable {P:Program} {X:Extern} {ops:Array Oper} {os:List Oper} {o:Oper} {sz:Nat} {h h0:AH} {rs:List Rs} {R:Ks→AH→Prop}
inductive HSteps (P:Program) (ops:Array Oper) (sz:Nat) (h:AH):Ks→List Nat→Ks→Prop where
 | nil {L:Ks}:HSteps P ops sz h L [] L
 | cons {L L1 L':Ks} {k:Nat} {ks:List Nat} {ok:Oper} {v:Value} {h':AH} (hok:ops[k]? = some ok) (hg:qw ops L.tree ok.guard=some true) (ha:zF P L.tree h ok.op=some (.val v h')) (hd:qG sz L ok.dst v=some L1) (r:HSteps P ops sz h L1 ks L'):HSteps P ops sz h L (k :: ks) L'
theorem HSteps.mv {L L1 L':Ks} {k:Nat} {ks:List Nat} {ok:Oper} {v:Value} {x:Operand} (hok:ops[k]? = some ok) (hm:ok.op = .move x) (hx:kA L x=some v) (hg:qw ops L.tree ok.guard=some true) (hd:qG sz L ok.dst v=some L1) (r:HSteps P ops sz h L1 ks L'):HSteps P ops sz h L (k :: ks) L' :=
 .cons (h':=h) hok hg (by rw [hm];simp only [zF,qE hx,qN]) hd r
theorem HSteps.run {L L':Ks} {ks:List Nat} (s:HSteps P ops sz h L ks L'):∀ {t:Tr Value},Kn t L→Kn (ks.foldl (yu P ops sz h) t) L':=by
 induction s with
 | nil=>intro t hk;exact hk
 | @cons _ _ _ k _ _ _ _ hok hg ha hd r ih =>
  intro t hk;obtain ⟨t1,e1,k1⟩:=Xg hk hd;rw [List.foldl_cons];have:yu P ops sz h t k=t1:=by
   unfold yu;simp only [hok,jO hk.tle hg,xn hk.tle ha,e1]
  rw [this];exact ih k1
theorem HintOk.many {L L':Ks} {j:Nat} {ks:List Nat} {o:Oper} {x:Option Nat} {c:List Value} {e:TypeId} (hp:VT ops (masks ops.toList []) j=ks) (ho:ops[j]? = some o) (s:HSteps P ops sz h L ks L') (hf:jA P L'.tree o.op=some (x,c,e)):HintOk P ops sz L h j c e:=fun t hk=>by
 unfold Jl;rw [ho,hp];simp only [Z7 (s.run hk).tle hf]
end
def qeD (L:List (Value×List Int)) (h:AH) (fp:Fp):Prop:=∀ x∈L,(Rs.rd x.1 1 eI x.2).ok h fp
abbrev Wy (L:List (Value×List Int)):Rs:=.any (qeD L)
class InP (L:List (Value×List Int)) (v:Value) (l:outParam (List Int)):Prop where
 mem:(v,l)∈L
theorem qdE {h:AH} {fp:Fp} {v:Value} {l:List Int} (q:(Rs.rd v 1 eI l).ok h fp):qY h v 1 eI l:=by
 rcases q with ⟨q1,q2⟩|⟨b,o,cap,cc,e,s,r,q1,q2,q3,q4⟩
 ·exact .inl ⟨q1,by rw [q2];rfl,by rw [q2];rfl⟩
 ·exact .inr ⟨b,o,cap,cc,e,s,r,q1,q2,q4⟩
instance HasR.pool {L:List (Value×List Int)} {v:Value} {l:List Int} {rs:List Rs} [i:InP L v l]:HasR (Wy L :: rs) v Int 1 eI l:=⟨fun S=>by
 obtain ⟨fp,k⟩:=S.anyP .here;exact qdE (k _ i.mem)⟩
theorem Hs.poolAdd {h0 h:AH} {rs:List Rs} {L:List (Value×List Int)} {v:Value} {l:List Int} {e:TypeId} (S:Hs h0 h (.sl v e 1 eI l :: Wy L :: rs)):Hs h0 h (Wy (L ++ [(v,l)]) :: rs):=by
 obtain ⟨f1,k1,k2,f2,k3,k4,k5⟩:=S.sep;refine ⟨S.ext,fun b=>f1 b∨f2 b,fun h' q g' hg=>?_,fun b hb=>?_,k5.mono fun b hb=>⟨trivial,fun q=>?_⟩⟩
 ·rcases zB8.1 hg with hg|hg
  ·exact VS (k3 h' (fun b hb=>q b (.inr hb)) g' hg) fun b hb=>.inr hb
  ·obtain rfl:=zB5.1 hg;exact VS (qdD (k1.local fun b hb=>q b (.inl hb))) fun b hb=>.inl hb
 ·rcases hb with hb|hb
  ·exact k2 b hb
  ·exact ⟨(k4 b hb).1,(k4 b hb).2.1,trivial⟩
 ·rcases q with q|q
  ·exact hb.1.2 q
  ·exact hb.2 q
theorem Hs.poolNil {h0 h:AH} {rs:List Rs} (S:Hs h0 h rs):Hs h0 h (Wy [((.slice none 0 0),[])] :: rs):=S.anyS fun h' x hx=>by
 obtain rfl:=zB5.1 hx;exact .inl ⟨rfl,rfl⟩
theorem PT {stops:List Int}:∀ (n:Nat) (done c:List Int),c∈jR stops n done→∀ x∈c,x∈done∨x∈stops
 | 0,done,c,h,x,hx=>by
  have:c=done:=by simpa [jR] using h
  subst this;exact .inl hx
 | n+1,done,c,h,x,hx=>by
  rw [jR,zG9] at h;obtain ⟨t,ht,h⟩:=h;split at h
  ·cases h
  ·rcases PT n _ c h x hx with q|q
   ·rcases zB8.1 q with q|q
    ·exact .inl q
    ·rw [zB5.1 q];exact .inr ht
   ·exact .inr q
theorem Hs.poolRd {h0 h:AH} {rs:List Rs} {L:List (Value×List Int)} {v:Value} {l:List Int} (S:Hs h0 h rs) (a:At rs (Wy L)) (m:(v,l)∈L):qY h v 1 eI l:=by
 obtain ⟨fp,k⟩:=S.anyP a;exact qdE (k _ m)
def cvW (b9 b2 b5 b4 b10:Nat):Value:=.func (.func 65) #[] #[.pointer (some ⟨b9,0,none⟩),.pointer (some ⟨b2,0,none⟩),.pointer (some ⟨b5,0,none⟩),.pointer (some ⟨b4,0,none⟩),.pointer (some ⟨b10,0,none⟩)]
abbrev vZ (v:PbV) (b9 b2 b5 b4 b10:Nat) (vs:Value) (stops:List Int) (L:List (Value×List Int)) (vw:Value) (al:Int):List Rs :=
 [Wy L,.blk b4 [vw] 25,.blk b5 [.int .i64 al] 3,.sl vs 3 1 eI stops,.blk b9 [vs] 25,.blk b2 v.cs 28,.blk b10 [cvW b9 b2 b5 b4 b10] 99]
theorem qcD {p:Pb} (hv:ValidL p.tabs):∀ a b,a<(p.tabs.length:Int)→b<(p.tabs.length:Int)→0≤zG p.tabs a b∧zG p.tabs a b≤2000:=fun a b ha hb=>Zl hv ha hb
theorem qdT {p:Pb} (hv:ValidL p.tabs) {l:List Int} (h:∀ t∈l,t<(p.tabs.length:Int)):0≤tour (zG p.tabs) l∧tour (zG p.tabs) l≤2000*l.length+2000:=by
 obtain ⟨h1,h2,h3⟩:=VX (qcD hv) (by omega) l h;have:=Zl hv h3 (show (-1:Int)<p.tabs.length by omega);rw [VO];omega
theorem qae {h0:AH} (w:WfH h0) (v:PbV) (p:Pb) (H:PbOk h0 v p) (hv:ValidL p.tabs) {b9 b2 b5 b4 b10:Nat} {vs:Value} {stops:List Int} (hst:stops.length≤9) (hsm:∀ t∈stops,0≤t∧t<p.tabs.length):∀ (k:Nat) {h:AH} {L:List (Value×List Int)} {vw vd:Value} {way done:List Int} {al:Int}
 (hk:done.length+k=stops.length) (hL:(vd,done)∈L) (hW:(vw,way)∈L) (hd:∀ t∈done,t<p.tabs.length) (hal : -1≤al∧al≤100000) (S:Hs h0 h (vZ v b9 b2 b5 b4 b10 vs stops L vw al)),
 Fn Tryz.prog Xh 65 [vd,.int .i64 (QJ (zG p.tabs) done),.pointer (some ⟨b9,0,none⟩),.pointer (some ⟨b2,0,none⟩),.pointer (some ⟨b5,0,none⟩),.pointer (some ⟨b4,0,none⟩),.pointer (some ⟨b10,0,none⟩)] h
  (fun _ h'=>∃ L' vw',(∀ x∈L,x∈L')∧(vw',((jR stops k done).foldl (Qr (tour (zG p.tabs))) (way,al)).1)∈L'∧Hs h0 h' (vZ v b9 b2 b5 b4 b10 vs stops L' vw' ((jR stops k done).foldl (Qr (tour (zG p.tabs))) (way,al)).2)):=by
 intro k;induction k with
 | zero =>
  intro h L vw vd way done al hk hL hW hd hal S;haveI:InP L vd done:=⟨hL⟩
  obtain ⟨n1,n2,n3⟩:=VX (qcD hv) (by omega) done hd;have n4:=Zl hv n3 (show (-1:Int)<p.tabs.length by omega);dsimp only [vZ] at S;obtain ⟨sd,rfl⟩:=S.sV vd;refine qJ (by first|rfl) Tryz.func65 rfl rfl ?_;all_goals (repeat' (first|refine qg ?_|refine zT ?_|(refine qc 0 ?_;refine mv ?_;refine qf ?_)))
  (repeat (refine qg ?_));first|refine zB (σ:=Unit) (fun _ h'=>Hs h0 h' (vZ v b9 b2 b5 b4 b10 vs stops L vw al)) (fun _=>[(0,sd.val),(1,.int .i64 (QJ (zG p.tabs) done)),(2,.pointer (some ⟨b9,0,none⟩)),(3,.pointer (some ⟨b2,0,none⟩)),(4,.pointer (some ⟨b5,0,none⟩)),(5,.pointer (some ⟨b4,0,none⟩)),(6,.pointer (some ⟨b10,0,none⟩)),(9,.int .i64 (Qn done))]) ?_ ?_
  ·all_goals (repeat' (first|refine qh rfl ?_|refine qi ?_|(refine qc 1 ?_;refine mv ?_;refine XP S rfl rfl ?_;(first|(refine cS ?_ ?_<;>intro hc))<;>(refine qf ?_))|(refine qc 2 ?_;refine mv ?_;refine mv ?_;refine XP S rfl rfl ?_;refine sb ?_;refine QX S rfl rfl ?_;refine ZF S rfl rfl ?_;refine mv ?_;refine qf ?_)))
   ·have e:done.getD ((done.length:Int) - 1).toNat default=Qn done:=by
     rcases List.eq_nil_or_concat done with rfl|⟨l,x,rfl⟩
     ·simp at hc
     ·rw [List.concat_eq_append,Q5];simp
    rw [e];exact ⟨(),S,(qy)⟩
   ·obtain rfl:done=[]:=zE9.1 (by omega);exact ⟨(),S,(qy)⟩
  clear S;rintro - h S;dsimp only [vZ] at S;all_goals (repeat' (first|refine qg ?_|refine qh rfl ?_|(refine qc 3 ?_;refine mv ?_;refine XP S rfl rfl ?_;refine lB S rfl rfl ?_;refine XP S rfl rfl ?_;(refine cT ?_)<;>(refine qf ?_))))
  all_goals (repeat' (first|(refine qc 4 ?_;refine mv ?_;refine lB S rfl rfl ?_;refine mv ?_)))
  (refine qx rfl rfl rfl rfl rfl ((Qy S.wf v p (H.ext w S.ext) hv (Qn done) (-1) n3 (by omega)).mono ?_);rintro _ h ⟨rfl,x⟩)<;>(replace S:=S.join0 x;clear x;refine ad ?_;refine mv ?_;refine qf ?_)
  rw [← VO];have key:(jR stops 0 done).foldl (Qr (tour (zG p.tabs))) (way,al)=Qr (tour (zG p.tabs)) (way,al) done:=rfl;rw [key];unfold Qr;rw [VO] at *;all_goals (repeat' (first|refine qg ?_|refine qh rfl ?_|refine qi ?_|(refine qc 5 ?_;refine lB S rfl rfl ?_;(first|(refine cS ?_ ?_<;>intro hc))<;>(refine mv ?_;(first|refine off ?_|refine mv ?_);(first|refine off ?_|(refine lB S rfl rfl ?_));(first|refine off ?_|(first|(refine cS ?_ ?_<;>intro hc)))<;>(refine vl ?_;refine qf ?_)))))
  ·rw [if_pos (by simp only;omega)];all_goals (repeat' (first|(refine qc 6 ?_;refine mv ?_;refine mv ?_;(first|(refine sB S rfl rfl ?_;clear S;intro h S));(first|(refine sB S rfl rfl ?_;clear S;intro h S));refine qf ?_)))
   refine qj ⟨_,rfl,?_⟩;exact ⟨L,sd.val,fun _ h=>h,hL,S⟩
  ·rw [if_pos (by simp only;omega)];all_goals (repeat' (first|(refine qc 6 ?_;refine mv ?_;refine mv ?_;(first|(refine sB S rfl rfl ?_;clear S;intro h S));(first|(refine sB S rfl rfl ?_;clear S;intro h S));refine qf ?_)))
   refine qj ⟨_,rfl,?_⟩;exact ⟨L,sd.val,fun _ h=>h,hL,S⟩
  ·rw [if_neg (by simp only;omega)];refine qj ⟨_,rfl,?_⟩;exact ⟨L,vw,fun _ h=>h,hW,S⟩
 | succ k ih =>
  intro h L vw vd way done al hk hL hW hd hal S;haveI:InP L vd done:=⟨hL⟩
  obtain ⟨n1,n2,n3⟩:=VX (qcD hv) (by omega) done hd;have n4:=Zl hv n3 (show (-1:Int)<p.tabs.length by omega);dsimp only [vZ] at S;obtain ⟨sd,rfl⟩:=S.sV vd;refine qJ (by first|rfl) Tryz.func65 rfl rfl ?_;all_goals (repeat' (first|refine qg ?_|refine zT ?_|(refine qc 0 ?_;refine mv ?_;refine qf ?_)))
  (repeat (refine qg ?_));first|refine zB (σ:=Unit) (fun _ h'=>Hs h0 h' (vZ v b9 b2 b5 b4 b10 vs stops L vw al)) (fun _=>[(0,sd.val),(1,.int .i64 (QJ (zG p.tabs) done)),(2,.pointer (some ⟨b9,0,none⟩)),(3,.pointer (some ⟨b2,0,none⟩)),(4,.pointer (some ⟨b5,0,none⟩)),(5,.pointer (some ⟨b4,0,none⟩)),(6,.pointer (some ⟨b10,0,none⟩)),(9,.int .i64 (Qn done))]) ?_ ?_
  ·all_goals (repeat' (first|refine qh rfl ?_|refine qi ?_|(refine qc 1 ?_;refine mv ?_;refine XP S rfl rfl ?_;(first|(refine cS ?_ ?_<;>intro hc))<;>(refine qf ?_))|(refine qc 2 ?_;refine mv ?_;refine mv ?_;refine XP S rfl rfl ?_;refine sb ?_;refine QX S rfl rfl ?_;refine ZF S rfl rfl ?_;refine mv ?_;refine qf ?_)))
   ·have e:done.getD ((done.length:Int) - 1).toNat default=Qn done:=by
     rcases List.eq_nil_or_concat done with rfl|⟨l,x,rfl⟩
     ·simp at hc
     ·rw [List.concat_eq_append,Q5];simp
    rw [e];exact ⟨(),S,(qy)⟩
   ·obtain rfl:done=[]:=zE9.1 (by omega);exact ⟨(),S,(qy)⟩
  clear S;rintro - h S;dsimp only [vZ] at S;all_goals (repeat' (first|refine qg ?_|refine qh rfl ?_|refine qi ?_|refine ja ?_|(refine qc 3 ?_;refine mv ?_;refine XP S rfl rfl ?_;refine lB S rfl rfl ?_;refine XP S rfl rfl ?_;(refine cF ?_)<;>(refine qf ?_))))
  all_goals (repeat' (first|refine qo ?_|(refine qc 7 ?_;refine lB S rfl rfl ?_;refine XP S rfl rfl ?_;refine mv ?_;refine qf ?_)))
  obtain ⟨F,hF⟩:∃ F,F=fun i=>(YE stops k done i).foldl (Qr (tour (zG p.tabs))) (way,al):=⟨_,rfl⟩
  have hF0:F 0=(way,al):=by rw [hF];simp only [qdB,List.foldl_nil]
  have hFe:(jR stops (k+1) done).foldl (Qr (tour (zG p.tabs))) (way,al)=F stops.length:=by rw [hF];simp only [qaL]
  have hFs:∀ i,i<stops.length→F (i+1)=(if stops.getD i default∈done then [] else jR stops k (done ++ [stops.getD i default])).foldl (Qr (tour (zG p.tabs))) (F i):=fun i hi=>by rw [hF];simp only [qdA hi,List.foldl_append]
  have hb:∀ i,-1≤(F i).2∧(F i).2≤100000:=fun i=>by
   rw [hF];refine PI (L:=tour (zG p.tabs)) (fun c=>VU (Xb p.tabs) c (-1) (-1)) _ _ (fun c hc=>?_) hal.2 hal.1;have hc2:∃ t,t∈stops∧c∈jR stops k (done ++ [t]):=by
    unfold YE at hc;obtain ⟨t,ht,h⟩:=zG9.1 hc;split at h
    ·cases h
    ·exact ⟨t,List.mem_of_mem_take ht,h⟩
   obtain ⟨t,ht,hc2⟩:=hc2;obtain ⟨r,hr,hrl⟩:=xH stops k _ c hc2;have hcl:c.length≤9:=by rw [hr];simp;omega
   have:=(qdT hv (l:=c) fun x hx=>by
    rcases PT k _ c hc2 x hx with q|q
    ·rcases zB8.1 q with q|q
     ·exact hd x q
     ·rw [zB5.1 q];exact (hsm t ht).2
    ·exact (hsm x q).2).2
   omega
  rw [hFe];clear hFe;refine qH (σ:=Nat×List (Value×List Int)×Value) (fun (i,L',vw') h'=>Hs h0 h' (vZ v b9 b2 b5 b4 b10 vs stops L' vw' (F i).2)∧i≤stops.length∧(∀ x∈L,x∈L')∧(vw',(F i).1)∈L') (fun (i,L',vw')=>stops.length - i) (fun (i,L',vw')=>[(0,sd.val),(1,.int .i64 (QJ (zG p.tabs) done)),(2,.pointer (some ⟨b9,0,none⟩)),(3,.pointer (some ⟨b2,0,none⟩)),(4,.pointer (some ⟨b5,0,none⟩)),(5,.pointer (some ⟨b4,0,none⟩)),(6,.pointer (some ⟨b10,0,none⟩)),(9,.int .i64 (Qn done)),(41,vs),(42,.int .i64 stops.length),(43,.int .i64 i)]) (0,L,vw) qy ?_ ?_
  ·refine ⟨?_,zB0 _,fun _ h=>h,?_⟩
   ·show Hs h0 h (vZ v b9 b2 b5 b4 b10 vs stops L vw (F 0).2)
    rw [hF0];exact S
   ·show (vw,(F 0).1)∈L
    rw [hF0];exact hW
  clear S;rintro ⟨i,L',vw'⟩ h ⟨S,g1,g2,g3⟩;have hbi:=hb i;dsimp only [vZ] at S;all_goals (repeat' (first|refine qg ?_|refine qh rfl ?_|refine qi ?_|refine qB ?_|refine qo ?_|(refine qc 8 ?_;(first|(refine cS ?_ ?_<;>intro hc))<;>(refine qf ?_))|(refine qc 9 ?_;refine QX S rfl rfl ?_;refine ZF S rfl rfl ?_;refine mv ?_;refine qf ?_)))
  ·obtain ⟨t,ht⟩:∃ t,stops.getD (i:Int).toNat default=t:=⟨_,rfl⟩
   rw [ht];replace ht:stops.getD i default=t:=ht;have hi:i<stops.length:=by omega
   have htm:t∈stops:=by rw [← ht];exact qI hi
   have htb:=hsm t htm;have t1:=Zl hv n3 htb.2;have t2:=Zl hv htb.2 (show (-1:Int)<p.tabs.length by omega);haveI:InP L' sd.val done:=⟨g2 _ hL⟩
   have hfs:=hFs i hi;rw [ht] at hfs;all_goals (repeat' (first|(refine qc 10 ?_;refine mv ?_;refine lB S rfl rfl ?_;refine mv ?_;refine mv ?_)))
   (refine qx rfl rfl rfl rfl rfl ((Qy S.wf v p (H.ext w S.ext) hv (Qn done) t n3 htb.2).mono ?_);rintro _ h ⟨rfl,x⟩)<;>(replace S:=S.join0 x;clear x;refine ad ?_;refine mv ?_;refine qf ?_)
   rw [← yO];have hdl:done.length≤9:=by omega
   obtain ⟨m1,m2,m3⟩:=VX (qcD hv) (by omega) (done ++ [t]) (fun x hx=>by
    rcases zB8.1 hx with q|q
    ·exact hd x q
    ·rw [zB5.1 q];exact htb.2)
   (repeat (refine qg ?_));refine Qp (id:=11) [(12,(1,2))] [some (b5)] ?_;refine qp ?_;(first|(refine mv ?_<;>refine qf ⟨⟨by (first|exact True.intro),rfl⟩,?_⟩));refine qp ?_;(first|(refine mv ?_<;>refine qf ⟨⟨by (first|exact True.intro),rfl⟩,?_⟩));((refine qp ?_;first|refine qx rfl rfl rfl rfl rfl ((wS S.wf sd.val done (S.poolRd .here (g2 _ hL)) (by omega) t).mono ?_));rintro _ h ⟨⟨rfl,hq⟩|⟨rfl,hq⟩,x⟩)<;>((refine qf ⟨⟨True.intro,?_⟩,?_⟩;(focus ((show keepsX _ _ _ _ _;simp only [keepsX];(repeat' (first|exact True.intro|refine And.intro ?_ ?_));all_goals (intro hw;first|exact absurd hw (by decide +kernel))))));replace S:=S.join0 x;clear x;refine qp ?_;(first|(refine mv ?_<;>refine qf ⟨⟨by (first|exact True.intro),rfl⟩,?_⟩));refine qp ?_;(first|(refine off ?_;refine qf ⟨⟨by (first|exact True.intro),rfl⟩,?_⟩)|(refine lB S rfl rfl ?_<;>refine qf ⟨⟨by (first|exact True.intro),rfl⟩,?_⟩));refine qp ?_;(first|(refine off ?_;refine qf ⟨⟨by (first|exact True.intro),rfl⟩,?_⟩)|((refine cS ?_ ?_<;>intro hc)<;>refine qf ⟨⟨by (first|exact True.intro),rfl⟩,?_⟩))<;>(refine qp ?_;(first|(refine off ?_;refine qf ⟨⟨by (first|exact True.intro),rfl⟩,?_⟩)|(refine mv ?_<;>refine qf ⟨⟨by (first|exact True.intro),rfl⟩,?_⟩));refine qp ?_;(first|(refine off ?_;refine qf ⟨⟨by (first|exact True.intro),rfl⟩,?_⟩)|(refine mv ?_<;>refine qf ⟨⟨by (first|exact True.intro),rfl⟩,?_⟩));refine qp ?_;(first|(refine off ?_;refine qf ⟨⟨by (first|exact True.intro),rfl⟩,?_⟩)|(refine lB S rfl rfl ?_<;>refine qf ⟨⟨by (first|exact True.intro),rfl⟩,?_⟩));refine qp ?_;(first|(refine off ?_;refine qf ⟨⟨by (first|exact True.intro),rfl⟩,?_⟩)|(refine mv ?_<;>refine qf ⟨⟨by (first|exact True.intro),rfl⟩,?_⟩));(first|(refine qp ?_;refine off ?_;refine qf ⟨⟨True.intro,by show keepsX _ _ _ _ _;simp [keepsX]⟩,?_⟩;refine qp ?_;(first|(refine off ?_;refine qf ⟨⟨by (first|exact True.intro),rfl⟩,?_⟩));refine qp ?_;(first|(refine off ?_;refine qf ⟨⟨by (first|exact Or.inl rfl),rfl⟩,?_⟩));refine qp ?_;(first|(refine off ?_;refine qf ⟨⟨by (first|exact True.intro),rfl⟩,?_⟩))<;>(refine qp ?_;(first|(refine off ?_;refine qf ⟨⟨by (first|exact True.intro),rfl⟩,?_⟩)|(refine vl ?_<;>refine qf ⟨⟨by (first|exact True.intro),rfl⟩,?_⟩));refine qp ?_;(first|(refine vl ?_<;>refine qf ⟨⟨by (first|exact True.intro),rfl⟩,?_⟩));refine Qq ?_))|skip)))
   ·have hm:t∈done:=qK.2 hq;rw [if_pos hm] at hfs;all_goals (repeat' (first|refine qh rfl ?_|refine qB ?_|(refine qc 13 ?_;refine ad ?_;refine mv ?_;refine qf ?_)))
    refine ⟨(i+1,L',vw'),?_,?_,qy⟩
    ·show stops.length - (i+1)<stops.length - i;omega
    ·refine ⟨?_,by omega,g2,?_⟩
     ·show Hs h0 h (vZ v b9 b2 b5 b4 b10 vs stops L' vw' (F (i+1)).2)
      rw [hfs];exact S
     ·show (vw',(F (i+1)).1)∈L'
      rw [hfs];exact g3
   all_goals have hm:t ∉ done:=fun q=>hq (qK.1 q)
   all_goals rw [if_neg hm] at hfs
   ((refine qp ?_;first|refine qx rfl rfl rfl rfl rfl ((Qy S.wf v p (H.ext w S.ext) hv t (-1) htb.2 (by omega)).mono ?_));rintro _ h ⟨rfl,x⟩)<;>((refine qf ⟨⟨True.intro,?_⟩,?_⟩;(focus ((show keepsX _ _ _ _ _;simp only [keepsX];(repeat' (first|exact True.intro|refine And.intro ?_ ?_));all_goals (intro hw;first|exact x.ext.old _ S.bB)))));replace S:=S.join0 x;clear x;refine qp ?_;(first|(refine ad ?_<;>refine qf ⟨⟨by (first|exact True.intro),rfl⟩,?_⟩));refine qp ?_;(first|(refine lB S rfl rfl ?_<;>refine qf ⟨⟨by (first|exact Or.inr rfl),rfl⟩,?_⟩));refine qp ?_;(first|((refine cS ?_ ?_<;>intro hc)<;>refine qf ⟨⟨by (first|exact True.intro),rfl⟩,?_⟩))<;>(refine qp ?_;(first|(refine vl ?_<;>refine qf ⟨⟨by (first|exact True.intro),rfl⟩,?_⟩));refine qp ?_;(first|(refine vl ?_<;>refine qf ⟨⟨by (first|exact True.intro),rfl⟩,?_⟩));refine Qq ?_))
   ·have hcut:(F (i+1))=F i:=by
     rw [hfs];refine qb3 (Xb p.tabs) (by omega) ?_;rw [VO,Q5];omega
    all_goals (repeat' (first|refine qh rfl ?_|refine qB ?_|(refine qc 13 ?_;refine ad ?_;refine mv ?_;refine qf ?_)))
    refine ⟨(i+1,L',vw'),?_,?_,qy⟩
    ·show stops.length - (i+1)<stops.length - i;omega
    ·refine ⟨?_,by omega,g2,?_⟩
     ·show Hs h0 h (vZ v b9 b2 b5 b4 b10 vs stops L' vw' (F (i+1)).2)
      rw [hcut];exact S
     ·show (vw',(F (i+1)).1)∈L'
      rw [hcut];exact g3
   all_goals
    all_goals (repeat' (first|refine qh rfl ?_|refine qi ?_))
    (repeat (refine qg ?_));refine qct (id:=12) (j1:=4) (rd:=[(0,(0,2)),(4,(0,1))]) (fun b1=>[some (b10),some b1]) S (by exact HintOk.many (ks:=[3]) (by decide +kernel) rfl (.mv rfl rfl rfl rfl rfl .nil) rfl) ?_;clear S;intro b1 h S;refine qp ?_;(first|(refine lB S rfl rfl ?_<;>refine qf ⟨⟨by (first|exact Or.inr rfl),rfl⟩,?_⟩));refine qp ?_;(first|(refine mv ?_<;>refine qf ⟨⟨by (first|exact True.intro),rfl⟩,?_⟩));((refine qp ?_;first|refine qx rfl rfl rfl rfl rfl ((Y1 S.wf sd.val done (S.poolRd (.there .here) (g2 _ hL)) (by omega)).mono ?_));rintro u h x)<;>((refine qf ⟨⟨True.intro,?_⟩,?_⟩;(focus ((show keepsX _ _ _ _ _;simp only [keepsX];(repeat' (first|exact True.intro|refine And.intro ?_ ?_));all_goals (intro hw;first|exact x.ext.old _ S.bB)))));replace S:=S.join1 x;clear x;refine qp ?_;(first|(refine mv ?_<;>refine qf ⟨⟨by (first|exact True.intro),rfl⟩,?_⟩));refine fl S rfl rfl S.gB ?_)
    replace S:Hs h0 h (.sl u 3 1 eI done :: .blk b1 [.int .i64 t] 3 :: vZ v b9 b2 b5 b4 b10 vs stops L' vw' (F i).2):=S;have S:=(show Hs h0 h (.blk b1 [.int .i64 t] 3 :: .sl u 3 1 eI done :: vZ v b9 b2 b5 b4 b10 vs stops L' vw' (F i).2) from S.pick)
    have S:=Hs.asSl (z:=1) XK [[.int .i64 t]] S;dsimp only [vZ] at S;refine qp ?_;refine app (y0:=t) S rfl rfl ?_;have S0:=S;clear S;intro v1 h S;refine qf ⟨⟨True.intro,?_⟩,?_⟩;(focus ((show keepsX _ _ _ _ _;simp only [keepsX];(repeat' (first|exact True.intro|refine And.intro ?_ ?_));all_goals (intro hw;first|exact absurd hw (by decide +kernel)|exact (S.gB).trans (S0.gB).symm))));clear S0;(refine qp ?_;(first|(refine mv ?_<;>refine qf ⟨⟨by (first|exact True.intro),rfl⟩,?_⟩)));have S:=Hs.poolAdd S;refine qp ?_;refine jQ rfl rfl rfl rfl ((ih (by simp;omega) (List.mem_append_right _ (by simp)) (List.mem_append_left _ g3) (fun x hx=>by
     rcases zB8.1 hx with q|q
     ·exact hd x q
     ·rw [zB5.1 q];exact htb.2) (hb i) S).mono ?_)
    have S0:=S;clear S;rintro _ h ⟨L2,vw2,q1,q2,S⟩;refine qf ⟨⟨True.intro,?_⟩,?_⟩;(focus ((show keepsX _ _ _ _ _;simp only [keepsX];(repeat' (first|exact True.intro|refine And.intro ?_ ?_));all_goals (intro hw;first|exact absurd hw (by decide +kernel)))));clear S0;(refine Qq ?_);have hF1:(jR stops k (done ++ [t])).foldl (Qr (tour (zG p.tabs))) ((F i).1,(F i).2)=F (i+1):=hfs.symm;rw [hF1] at q2 S;all_goals (repeat' (first|(refine qc 13 ?_;refine ad ?_;refine mv ?_;refine qf ?_)))
    refine ⟨(i+1,L2,vw2),?_,?_,qy⟩
    ·show stops.length - (i+1)<stops.length - i;omega
    ·exact ⟨S,by omega,fun x hx=>q1 x (List.mem_append_left _ (g2 x hx)),q2⟩
  ·obtain rfl:i=stops.length:=by omega
   refine ⟨_,rfl,?_⟩;exact ⟨L',vw',g2,g3,S⟩
noncomputable def Qo (p:Pb) (q:List Int):VA:=(jR (srv (zk p q)) (srv (zk p q)).length []).foldl (Qr (tour (zG p.tabs))) ([],-1)
theorem PartOk.ql {p:Pb} {q:List Int} (hp:PO p) (h:PartOk p q):q.length≤64:=by
 have:=h.len;have:p.us.length≤64:=hp.rl.l64;omega
theorem PartOk.qm {p:Pb} {q:List Int} (hl:p.tabs.length≤1000) (h:PartOk p q):∀ x∈q,x≤9223372036854775807:=fun x hx=>by
 have h1:=h.rng x hx;have h2:=zJ p.tabs p.tabs.length;omega
theorem vS {p:Pb} {q:List Int}:∀ t∈srv (zk p q),0≤t∧t<p.tabs.length:=fun t ht=>by
 obtain ⟨k,h1,rfl,-⟩:=qcH.1 ht;rw [ZR] at h1;omega
theorem qbi {h0:AH} (w:WfH h0) (v:PbV) (p:Pb) (H:PbOk h0 v p) (vq:Value) (q:List Int) (rq:qY h0 vq 1 eI q) (hq:q.length≤9223372036854775807) :
 Fn Tryz.prog Xh 24 [v.val,vq] h0 (fun u h'=>(∃ vw:SlV,∃ way n e,u = .tuple #[vw.val,.int .i64 n,.int .i64 e]∧qY h' vw.val 1 eI way ∧
  ((¬ (PO p∧PartOk p q)∧(∃ i,PaC p q false i e)∧way=[]∧n=0)∨(PO p∧PartOk p q∧9<(srv (zk p q)).length∧e=8∧way=[]∧n=0)∨(PO p∧PartOk p q∧(srv (zk p q)).length≤9∧e=0∧(way,n)=Qo p q)))∧Hs h0 h' []):=by
 have S:=Hs.start w;have hr:=H.tab.rd;have hl:=H.tab.len;unfold PbV.val;refine qJ (by first|rfl) Tryz.func24 rfl rfl ?_;all_goals (repeat' (first|refine qg ?_|(refine qc 0 ?_;(refine bx S ?_;clear S;intro b h S);(refine al S ?_;clear S;intro b h S);(refine al S ?_;clear S;intro b h S);refine mv ?_;refine qf ?_)))
 rename_i b2 h2 b4 h4
 obtain ⟨b5,hnm⟩:∃ x,x=b:=⟨_,rfl⟩;subst hnm;all_goals (repeat' (first|(refine qc 1 ?_;refine lB S rfl rfl ?_;refine mv ?_)))
 (refine qx rfl rfl rfl rfl rfl ((Yu S.wf v p (H.ext w S.ext) vq q (rq.ext w S.ext) hq).mono ?_);rintro _ h ⟨i,e,rfl,hk,x⟩)<;>(replace S:=S.join0 x;clear x;refine mv ?_;refine vl ?_;refine vl ?_;refine mv ?_;refine mv ?_;refine qf ?_)
 have hpo:=hk.part;all_goals (repeat' (first|refine qg ?_|refine qh rfl ?_|refine qi ?_|(refine qc 2 ?_;refine mv ?_;(first|(refine cS ?_ ?_<;>intro hc))<;>(refine qf ?_))))
 ·all_goals (repeat' (first|(refine qc 3 ?_;refine mv ?_;(first|(refine sB S rfl rfl ?_;clear S;intro h S));(first|(refine sB S rfl rfl ?_;clear S;intro h S));refine mv ?_;refine qf ?_)))
  refine qj ⟨_,jm S rfl (by first|exact .there .here) (by exact rfl) (jm S rfl (by first|exact .here) (by exact rfl) (by exact rfl)),?_⟩;exact ⟨⟨⟨none,0,0⟩,[],0,e,rfl,Rd.none_ _ 1,.inl ⟨fun k=>hc (hpo.2 k),⟨i,hk⟩,rfl,rfl⟩⟩,S.drop⟩
 obtain ⟨hp,hpq⟩:=hpo.1 (by omega);have hql:=hpq.ql hp;have hqm:=hpq.qm hl;have hsl:=vP (pl:=zk p q);rw [ZR] at hsl;all_goals (repeat' (first|(refine qc 4 ?_;refine lB S rfl rfl ?_;refine mv ?_)))
 (refine qx rfl rfl rfl rfl rfl ((We S.wf v p (H.ext w S.ext) vq q (rq.ext w S.ext) (by omega) hqm).mono ?_);rintro vs h x)<;>(replace S:=S.join1 x;clear x;obtain ⟨ss,rfl⟩:=S.sV vs;(refine al S ?_;clear S;intro b h S);(first|(refine sB S rfl rfl ?_;clear S;intro h S));refine qf ?_)
 obtain ⟨b9,hnm⟩:∃ x,x=b:=⟨_,rfl⟩;subst hnm;obtain ⟨stops,hst⟩:∃ stops,srv (zk p q)=stops:=⟨_,rfl⟩
 rw [hst] at S hsl ⊢;replace S:Hs h0 h [.blk b9 [ss.val] 25,.sl ss.val 3 1 eI stops,.blk b5 [.int .i64 0] 3,.blk b4 [.slice none 0 0] 25,.blk b2 v.cs 28]:=S;all_goals (repeat' (first|refine qg ?_|refine qh rfl ?_|refine qi ?_|(refine qc 5 ?_;refine lB S rfl rfl ?_;refine XP S rfl rfl ?_;(first|(refine cS ?_ ?_<;>intro hc))<;>(refine qf ?_))))
 ·all_goals (repeat' (first|(refine qc 6 ?_;(first|(refine sB S rfl rfl ?_;clear S;intro h S));(first|(refine sB S rfl rfl ?_;clear S;intro h S));refine mv ?_;refine qf ?_)))
  refine qj ⟨_,jm S rfl (by first|exact .there (.there (.there .here))) (by exact rfl) (jm S rfl (by first|exact .there (.there .here)) (by exact rfl) (by exact rfl)),?_⟩;exact ⟨⟨⟨none,0,0⟩,[],0,8,rfl,Rd.none_ _ 1,.inr (.inl ⟨hp,hpq,by omega,rfl,rfl,rfl⟩)⟩,S.drop⟩
 all_goals (repeat' (first|refine qg ?_|(refine qc 7 ?_;(first|(refine sB S rfl rfl ?_;clear S;intro h S));refine qf ?_)|(refine qc 8 ?_;(refine al S ?_;clear S;intro b h S);refine qf ?_)|(refine qc 9 ?_;refine vl ?_;(first|(refine sB S rfl rfl ?_;clear S;intro h S));refine qf ?_)))
 obtain ⟨b10,hnm⟩:∃ x,x=b:=⟨_,rfl⟩;subst hnm;have S:=S.poolNil;replace S:Hs h0 h [Wy [((.slice none 0 0),[])],.blk b10 [cvW b9 b2 b5 b4 b10] 99,.blk b9 [ss.val] 25,.sl ss.val 3 1 eI stops,.blk b5 [.int .i64 (-1)] 3,.blk b4 [.slice none 0 0] 25,.blk b2 v.cs 28]:=S;have S:=(show Hs h0 h (vZ v b9 b2 b5 b4 b10 ss.val stops [((.slice none 0 0),[])] (.slice none 0 0) (-1)) from S.pick)
 dsimp only [vZ] at S;all_goals (repeat' (first|(refine qc 10 ?_;refine lB S rfl rfl ?_)))
 have hsr:∀ t∈stops,0≤t∧t<p.tabs.length:=by rw [← hst];exact vS
 have R:=qae w v p H hp.tabs (vs:=ss.val) (stops:=stops) (by omega) hsr stops.length (vw:=.slice none 0 0) (vd:=.slice none 0 0) (way:=[]) (done:=[]) (by simp) (by simp) (by simp) (fun t ht=>by cases ht) ⟨by omega,by omega⟩ S;rw [yN] at R;(refine jQ rfl rfl rfl rfl ((R).mono ?_);rintro _ h ⟨L2,vw,q1,q2,S⟩)<;>(refine qf ?_)
 have r:=S.poolRd .here q2;obtain ⟨sw,rfl⟩:=r.isSl;have hfin:Qo p q=(jR stops stops.length []).foldl (Qr (tour (zG p.tabs))) ([],-1):=by unfold Qo;rw [hst]
 rw [← hfin] at S r q2;dsimp only [vZ] at S;(repeat (refine qg ?_));refine Qp (id:=11) [(1,(0,1))] [some (b5)] ?_;refine qp ?_;(first|(refine lB S rfl rfl ?_<;>refine qf ⟨⟨by (first|exact True.intro),rfl⟩,?_⟩));refine qp ?_;(first|(refine lB S rfl rfl ?_<;>refine qf ⟨⟨by (first|exact Or.inr rfl),rfl⟩,?_⟩));refine qp ?_;(first|((refine sB S rfl rfl ?_;have S0:=S;clear S;intro h S);refine qf ⟨⟨True.intro,?_⟩,?_⟩;(focus ((show keepsX _ _ _ _ _;simp only [keepsX];(repeat' (first|exact True.intro|refine And.intro ?_ ?_));all_goals (intro hw;first|exact (S.gB).trans (S0.gB).symm))));clear S0));refine qp ?_;(first|((refine sB S rfl rfl ?_;have S0:=S;clear S;intro h S);refine qf ⟨⟨True.intro,?_⟩,?_⟩;(focus ((show keepsX _ _ _ _ _;simp only [keepsX];(repeat' (first|exact True.intro|refine And.intro ?_ ?_));all_goals (intro hw;first|exact absurd hw (by decide +kernel)))));clear S0));refine qp ?_;(first|(refine mv ?_<;>refine qf ⟨⟨by (first|exact True.intro),rfl⟩,?_⟩));refine Qq ?_;refine qj ⟨_,jm S rfl (by first|exact .there .here) (by exact rfl) (jm S rfl (by first|exact .there (.there .here)) (by exact rfl) (by exact rfl)),?_⟩;exact ⟨⟨sw,(Qo p q).1,(Qo p q).2,0,rfl,S.poolRd .here q2,.inr (.inr ⟨hp,hpq,by omega,rfl,rfl⟩)⟩,S.drop⟩
structure Chg (h h':AH) (b:Nat) (o:AObj):Prop where
 at_:h'.get b=some o
 old:∀ j,j≠b→j<h.next→h'.get j=h.get j
 next:h.next≤h'.next
 wf:WfH h'
theorem Chg.trans {h h' h'':AH} {b:Nat} {o o':AObj} (c:Chg h h' b o) (d:Chg h' h'' b o'):Chg h h'' b o' :=
 ⟨d.at_,fun j hj hn=>(d.old j hj (zE4 hn c.next)).trans (c.old j hj hn),zD0 c.next d.next,d.wf⟩
theorem Wh {c:List Value} {o:Nat} (h:o≤c.length):splice c o []=c:=by simp [splice]
section
variable {P:Program} {X:Extern} {sz:Nat} {L L':Ks} {h:AH} {ops:Array Oper} {os:List Oper} {o:Oper} {R:Ks→AH→Prop}
theorem rw3 {x lo hi mx:Operand} {vl vr vm:Value} {ty e' e:TypeId} {b o' n cap l r m z:Nat} {cc:List Value} {slk:Option Nat} {ro:Bool} (hb:h.get b=some (.cells cc e slk ro)) (wf:WfH h)
 (w:∀ h',Chg h h' b (.cells cc e slk ro)→KO P X sz ops os L' h' R) (ho:o.op = .slice ty x (some lo) (some hi) (some mx):=by exact rfl) (hg:qw ops L.tree o.guard=some true:=by exact rfl) (hx:kA L x=some (.slice (some ⟨b,o',none⟩) n cap):=by exact rfl)
 (h1:kA L lo=some vl:=by exact rfl) (h2:kA L hi=some vr:=by exact rfl) (h3:kA L mx=some vm:=by exact rfl) (b1:qU (some vl) 0=some l:=by exact rfl) (b2:qU (some vr) n=some r:=by exact rfl) (b3:qU (some vm) cap=some m:=by exact rfl)
 (hc:l≤r∧r≤m∧m≤cap:=by omega) (hu:P.underlying ty=some (.slice e'):=by exact rfl) (hz:zy P e'=some z:=by exact rfl) (hp:qG sz L o.dst (.slice (some ⟨h.next,0,none⟩) (r - l) (m - l))=some L':=by exact rfl):KO P X sz ops (o :: os) L h R:=by
 refine zh (v:=.slice (some ⟨h.next,0,none⟩) (r - l) (m - l)) (h':={ tr:=h.tr,next:=h.next+1,low:=lowest h.low b }) hg ?_ hp (w _ ⟨hb,fun j _ _=>rfl,Nat.le_succ _,fun j hj=>wf j (Nat.le_of_succ_le hj)⟩);rw [ho];simp only [zF,qE hx,zL,qE h1,qE h2,qE h3,Yy,hu,hb,hz,b1,b2,b3,zB3 hc.1,zB3 hc.2.1,zB3 hc.2.2,zF9]
theorem rw2 {x:Operand} {lo hi:Option Operand} {vl vr:Option Value} {ty e' e:TypeId} {b o' n cap l r z:Nat} {cc:List Value} {slk:Option Nat} {ro:Bool} {d:Tmp} (hb:h.get b=some (.cells cc e slk ro))
 (w:∀ o2,(l<cap→o2=o'+l*z)→(slk≠none→o2=o'+l*z)→KO P X sz ops os (L.put d (.slice (some ⟨b,o2,none⟩) (r - l) (cap - l))) h R) (ho:o.op = .slice ty x lo hi none:=by exact rfl) (hg:qw ops L.tree o.guard=some true:=by exact rfl) (hx:kA L x=some (.slice (some ⟨b,o',none⟩) n cap):=by exact rfl)
 (h1:zL L.tree lo=some vl:=by exact rfl) (h2:zL L.tree hi=some vr:=by exact rfl) (b1:qU vl 0=some l:=by exact rfl) (b2:qU vr n=some r:=by exact rfl)
 (hc:l≤r∧r≤cap:=by omega) (hu:P.underlying ty=some (.slice e'):=by exact rfl) (hz:zy P e'=some z:=by exact rfl) (hdst:o.dst=some d:=by exact rfl) (hds:Nat.blt d sz=true:=by exact rfl):KO P X sz ops (o :: os) L h R:=by
 have key:∀ o2,zu P ty (.slice (some ⟨b,o',none⟩) n cap) vl vr none h=some (.slice (some ⟨b,o2,none⟩) (r - l) (cap - l))→(l<cap→o2=o'+l*z)→(slk≠none→o2=o'+l*z)→KO P X sz ops (o :: os) L h R:=fun o2 q1 q2 q3=>by
  refine zh (v:=.slice (some ⟨b,o2,none⟩) (r - l) (cap - l)) (h':=h) hg ?_ (by simp only [qG,hdst,hds]) (w o2 q2 q3);rw [ho];simp only [zF,qE hx,h1,h2,show zL L.tree none=some none from rfl,q1,qN,zO]
 cases hq:slk.isNone && Nat.beq l cap with
 | true =>
  rw [zA8] at hq;have hl:=zA6 hq.2;subst hl;refine key o' ?_ (fun q=>by omega) (fun q=>by cases slk with|none=>exact absurd rfl q|some k=>cases hq.1);simp only [zu,hu,hb,hz,b1,b2,zB3 hc.1,zB3 hc.2,zF9,hq.1,show Nat.beq l l=true by simp]
 | false =>
  refine key (o'+l*z) ?_ (fun _=>rfl) (fun _=>rfl);simp only [zu,hu,hb,hz,b1,b2,zB3 hc.1,zB3 hc.2,zF9,hq]
theorem rwa {x y:Operand} {ts tx e e2:TypeId} {zc new cc:List Value} {by_ b o' n cap m z:Nat} {slk:Option Nat} {u:Value} {d:Tmp} (hb:h.get b=some (.cells cc e2 slk false)) (wf:WfH h) (hr:Rd h u z m new)
 (w:∀ h',Chg h h' b (.cells (splice cc (o'+n*z) new) e2 slk false)→KO P X sz ops os (L.put d (.slice (some ⟨b,o',none⟩) (n+m) cap)) h' R)
 (ho:o.op = .call { callee:=.builtin .append,args:=#[x,y],argTypes:=#[ts,tx] }:=by exact rfl) (hg:qw ops L.tree o.guard=some true:=by exact rfl) (hx:kA L x=some (.slice (some ⟨b,o',none⟩) n cap):=by exact rfl) (hy:kA L y=some u:=by exact rfl)
 (hs:qO P ts=some e:=by exact rfl) (hz:qP P e=some zc:=by exact rfl) (hzl:zc.length=z:=by exact rfl) (hby:Qa P e=some (by_+1):=by exact rfl) (hxs:P.underlying tx=some (.slice e):=by exact rfl)
 (hc:n+m≤cap:=by omega) (hcc:o'+cap*z≤cc.length:=by assumption) (h1:new.all one? = true:=by assumption) (hsz:(m+1)*(by_+1)≤140737488355328:=by omega) (hdst:o.dst=some d:=by exact rfl) (hds:Nat.blt d sz=true:=by exact rfl):KO P X sz ops (o :: os) L h R:=by
 subst hzl;have hlen:=hr.length;have hfit:o'+n*zc.length+new.length≤cc.length:=by
  rw [hlen,zF7,← zE1];exact zD0 (Nat.add_le_add_left (zD3 _ hc) _) hcc
 have k2:Nat.beq new.length (m*zc.length)=true:=by rw [hlen];simp
 have hsrc:Zy zc.length u h=some (m,new):=hr.source;have go:∀ h',jC P [ts,tx] (.slice (some ⟨b,o',none⟩) n cap) u h=some (.slice (some ⟨b,o',none⟩) (n+m) cap,h')→Chg h h' b (.cells (splice cc (o'+n*zc.length) new) e2 slk false)→KO P X sz ops (o :: os) L h R:=fun h' q1 q2=>by
  refine zh (v:=.slice (some ⟨b,o',none⟩) (n+m) cap) (h':=h') hg ?_ (by simp only [qG,hdst,hds]) (w h' q2);rw [ho];simp [zF,qE hx,qE hy,jb,zQ,q1,jL]
 cases m with
 | zero =>
  have hn:new=[]:=zE9.1 (by omega);subst hn;refine go h ?_ ⟨by rw [Wh (by simp at hfit;omega)];exact hb,fun _ _ _=>rfl,zA3 _,wf⟩;simp only [jC,hs,hxs,hz,hby,hsrc,zB3 hsz,h1,k2,zF9,hb,zB3 (show n≤cap from hc),Nat.add_zero]
 | succ m =>
  refine go (h.put b (.cells (splice cc (o'+n*zc.length) new) e2 slk false)) ?_ ⟨by rw [AH.get_put,if_pos rfl],fun j hj _=>by rw [AH.get_put,if_neg hj],zA3 _,wf.put (wf.lt hb) _⟩;simp only [jC,hs,hxs,hz,hby,hsrc,zB3 hsz,h1,k2,zF9,hb,zB3 hc,putCells,zB3 hfit]
theorem VY (zc:List Value):∀ n,(zeroRow zc n).length=n*zc.length
 | 0=>by simp [zeroRow]
 | n+1=>by rw [zeroRow,zB2,VY zc n,zE1,Nat.one_mul,Nat.add_comm]
theorem kP {zc:List Value} (h:zc.all one? = true):∀ n,(zeroRow zc n).all one? = true
 | 0=>rfl
 | n+1=>by rw [zeroRow,List.all_append,h,kP h n];rfl
theorem rwc {x:Operand} {ty e e2:TypeId} {zc cc:List Value} {b o' n cap:Nat} {slk:Option Nat} (hb:h.get b=some (.cells cc e2 slk false)) (wf:WfH h)
 (w:∀ h',Chg h h' b (.cells (splice cc o' (zeroRow zc n)) e2 slk false)→KO P X sz ops os L' h' R)
 (ho:o.op = .call { callee:=.builtin .clear,args:=#[x],argTypes:=#[ty] }:=by exact rfl) (hg:qw ops L.tree o.guard=some true:=by exact rfl) (hx:kA L x=some (.slice (some ⟨b,o',none⟩) n cap):=by exact rfl)
 (hu:P.underlying ty=some (.slice e):=by exact rfl) (hz:qP P e=some zc:=by exact rfl) (h1:zc.all one? = true:=by exact rfl) (hfit:o'+n*zc.length≤cc.length:=by omega) (hp:qG sz L o.dst (.tuple #[])=some L':=by exact rfl):KO P X sz ops (o :: os) L h R:=by
 have go:∀ h',J5 P ty (.slice (some ⟨b,o',none⟩) n cap) h=some h'→Chg h h' b (.cells (splice cc o' (zeroRow zc n)) e2 slk false)→KO P X sz ops (o :: os) L h R:=fun h' q1 q2=>by
  refine zh (v:=.tuple #[]) (h':=h') hg ?_ hp (w h' q2);rw [ho];simp [zF,qE hx,jb,zQ,q1]
 have hfit2:o'+(zeroRow zc n).length≤cc.length:=by rw [VY];exact hfit
 cases n with
 | zero =>
  refine go h ?_ ⟨by show _=some (AObj.cells (splice cc o' []) e2 slk false);rw [Wh (by omega)];exact hb,fun _ _ _=>rfl,zA3 _,wf⟩;simp only [J5,hu]
 | succ n =>
  refine go (h.put b (.cells (splice cc o' (zeroRow zc (n+1))) e2 slk false)) ?_ ⟨by rw [AH.get_put,if_pos rfl],fun j hj _=>by rw [AH.get_put,if_neg hj],zA3 _,wf.put (wf.lt hb) _⟩;simp only [J5,hu,hz,hb,putCells,kP h1,zB3 hfit2,zF9]
end
theorem qc9 {cc old zr:List Value} {s a b z n:Nat} (ho:∀ j,j<n→cc[s+j]? = old[j]?) (hn:old.length=n) (hab:a≤b∧b≤n) (hz:zr.length=b - a) (hs:s+n≤cc.length) :
 ∀ j,j<a+(n - b)→(splice (splice cc (s+a) (old.drop b)) (s+(a+(n - b))) zr)[s+j]? = (old.take a ++ old.drop b)[j]?:=by
 intro j hj;have l1:s+a+(old.drop b).length≤cc.length:=by rw [zB4];omega
 have l2:(splice cc (s+a) (old.drop b)).length=cc.length:=qM _ _ _ l1;have hd:(old.drop b).length=n - b:=by rw [zB4,hn]
 have ht:(old.take a).length=a:=by rw [zA9];omega
 rw [zt _ _ _ (by rw [l2];omega),zt _ _ _ l1,if_pos (by omega),zF0,ht];by_cases h1:j<a
 ·rw [if_pos (by omega),if_pos h1,zC7,if_pos h1,ho j (by omega)]
 ·rw [if_neg (by omega),if_pos (by omega),if_neg h1];congr 1;omega
theorem Gw {c xs:List Value} {o n:Nat} (hl:xs.length=n) (hfit:o+n≤c.length) (hg:∀ j,j<n→c[o+j]? = xs[j]?):qV c o n=some xs:=by
 rw [ZL hfit];congr 1
 apply List.ext_getElem?
 intro j;rw [zC7];split
 ·rw [zC3];exact hg j (by assumption)
 ·rw [zG5 (by omega)]
theorem qda {h0 h:AH} {rs:List Rs} {v:SlV} {l:List Int} (i:Nat) (hi:i<l.length) (hl:l.length≤1000000) (S:Hs h0 h (.sl v.val 3 1 eI l :: rs)) :
 Fn Tryz.prog Xh 70 [v.val,.int .i64 i,.int .i64 ((i:Int)+1)] h (fun u h'=>Hs h0 h' (.sl u 3 1 eI (l.take i ++ l.drop (i+1)) :: rs)):=by
 have S0:=S;obtain ⟨f1,k1,k2,k3⟩:=S.sep;have hr:=Rd.of_sl S .here;rcases k1 with ⟨-,rfl⟩|⟨b,o,cc,slk,cap,e1,g1,fb,t1,c1,s1⟩
 ·simp at hi
 rw [e1] at hr ⊢;have hb:=g1;have w:=S.wf;have hcc:o+cap*1≤cc.length:=c1.2;replace S:=Hs.start S.wf;have hfl:=qR (enc:=eI) (z:=1) (by intro _;rfl) l;have hcap:=c1.1;refine qJ (by first|rfl|exact KX.no _ _ _ (by decide) rfl) Tryz.func70 rfl rfl ?_;all_goals (repeat' (first|refine qg ?_|refine qh rfl ?_|refine qi ?_|refine qB ?_|refine qo ?_|refine zT ?_|refine ja ?_|(refine qc 0 ?_;refine mv ?_;refine qf ?_)|(refine qc 1 ?_;(iterate 4 refine mv ?_);(first|refine zC S ?_|refine XP S rfl rfl ?_))))
 refine rw3 (l:=i) (r:=i+1) (m:=l.length) hb w (fun ha ca=>?_);have xa:Ext h ha:=⟨ca.next,fun j hj=>by
  by_cases q:j=b
  ·subst q;rw [ca.at_,hb]
  ·exact ca.old j q hj,ca.wf⟩
 have ra:=hr.ext w xa;have wa:=ca.wf;have ba:=ca.at_;clear S;have S:=Hs.start wa;(refine qf ?_);all_goals (repeat' (first|refine qg ?_|refine qh rfl ?_|refine qi ?_|refine qB ?_|refine qo ?_|refine zT ?_|refine ja ?_|(refine qc 2 ?_;refine mv ?_;refine mv ?_;(first|refine cT ?_|refine cF ?_|(refine cS ?_ ?_<;>intro hc))<;>(refine qf ?_))|(refine qc 3 ?_;refine mv ?_;refine mv ?_;refine qf ?_)|(refine qc 4 ?_;refine mv ?_;(first|refine zC S ?_|refine XP S rfl rfl ?_);refine mv ?_;refine qf ?_)|(refine zx 5 ?_;refine mv ?_;refine mv ?_)))
 refine rw2 (l:=0) (r:=i) ba (fun o2 q1 _=>?_);rw [show o2=o by have:=q1 (by omega);omega];refine mv ?_;refine mv ?_;refine rw2 (l:=i+1) (r:=l.length) ba (fun o3 q3 q4=>?_);have ru:Rd ha (.slice (some ⟨b,o3,none⟩) (l.length - (i+1)) (cap - (i+1))) 1 (l.length - (i+1)) ((l.drop (i+1)).flatMap eI):=by
  refine .inr ⟨b,o3,_,cc,3,slk,false,rfl,ba,?_⟩;rcases zA7 (i+1) cap with z|z
  ·have z1:=q3 z;have z2:o3=o+(i+1)*1:=z1;have:=jF (i:=(i+1)*1) (m:=(l.length - (i+1))*1) t1 (by omega);rw [z2,this,jk (z:=1) (by intro _;rfl),zF8 (by rw [zB4,hfl];omega)]
  ·rw [show l.length - (i+1)=0 by omega,List.drop_of_length_le (by omega)];rfl
 have hone:((l.drop (i+1)).flatMap eI).all one? = true:=by
  rw [zC8];intro x hx;obtain ⟨y,-,hy⟩:=zG9.1 hx;simp [eI] at hy
  subst hy;rfl
 refine rwa (z:=1) ba wa ru (fun hd cd=>?_);(refine mv ?_;refine qf ?_);have hln:l.length - (i - 0+(l.length - (i+1)))=1:=by omega
 (repeat (refine qg ?_));refine qc 6 ?_;refine mv ?_;refine mv ?_;refine vl ?_;refine mv ?_;refine rw2 (l:=i - 0+(l.length - (i+1))) (r:=l.length) cd.at_ (fun o4 q5 _=>?_);have q6:=q5 (by omega);have hq6:o4=o+(i - 0+(l.length - (i+1)))*1:=q6;have hsl:(splice cc (o+(i - 0)*1) ((l.drop (i+1)).flatMap eI)).length=cc.length:=qM _ _ _ (by rw [qR (z:=1) (by intro _;rfl),zB4];omega);refine rwc cd.at_ cd.wf (fun he ce=>?_) (hfit:=?_);rotate_left
 ·rw [hsl];show o4+(l.length - (i - 0+(l.length - (i+1))))*1≤cc.length
  omega
 (refine qf ?_)
 all_goals (repeat' (first|refine qg ?_|refine qh rfl ?_|refine qi ?_|refine qB ?_|refine qo ?_|refine zT ?_|refine ja ?_|(refine qc 7 ?_;refine mv ?_;refine mv ?_;refine qf ?_)))
 refine qj ⟨_,rfl,?_⟩;have C:=(ca.trans cd).trans ce;have hm:∀ a c:Nat,a - 0+c=a+c:=fun a c=>by omega
 have hlen:(l.take i ++ l.drop (i+1)).length=i - 0+(l.length - (i+1)):=by rw [zB2,zA9,zB4];omega
 have hzl:(zeroRow (Value.int IntKind.i64 0).cells.toList (l.length - (i - 0+(l.length - (i+1))))).length=(i+1)*1 - i*1:=by
  rw [VY,hln];show 1*1=_;omega
 have hdrop:=jk (enc:=eI) (z:=1) (by intro _;rfl) l (i+1);have htake:=jP (enc:=eI) (z:=1) (by intro _;rfl) l i;show Hs h0 he (.sl (.slice (some ⟨b,o,none⟩) (i - 0+(l.length - (i+1))) (cap - 0)) 3 1 eI (l.take i ++ l.drop (i+1)) :: rs)
 refine S0.turn .here C.next C.wf fun fp p1 p2=>?_
 rcases p1 with ⟨p1,-⟩|⟨b2,o2,cc2,sl2,cap2,p1,-,p3,-⟩
 ·rw [p1] at e1;cases e1
 obtain rfl:b2=b:=by rw [p1] at e1;cases e1;rfl
 refine ⟨fun j hj hf=>C.old j (fun q=>by subst q;exact hf p3) hj,fun j=>j=b2,.inr ⟨b2,o,_,slk,cap - 0,by rw [hlen],C.at_,rfl,?_,⟨by rw [hlen];omega,?_⟩,s1⟩,fun j hj=>?_⟩
 ·rw [hlen];have hg:∀ j,j<l.length*1→cc[o+j]? = (l.flatMap eI)[j]?:=fun j hj=>V4 t1 hj;have D:=qc9 (zr:=zeroRow (Value.int IntKind.i64 0).cells.toList (l.length - (i - 0+(l.length - (i+1))))) (a:=i*1) (b:=(i+1)*1) (z:=1) hg hfl (by omega) hzl (by omega);rw [hdrop,hq6,Nat.sub_zero,show (i+(l.length - (i+1)))*1=i*1+(l.length*1 - (i+1)*1) by omega];have e2:(l.take i ++ l.drop (i+1)).flatMap eI=(l.flatMap eI).take (i*1) ++ (l.flatMap eI).drop ((i+1)*1):=by rw [List.flatMap_append,htake,hdrop]
  rw [e2];rw [Nat.sub_zero] at D;refine Gw ?_ ?_ D
  ·rw [zB2,zA9,zB4,hfl];omega
  ·rw [qM,qM]
   ·omega
   ·rw [zB4,hfl];omega
   ·rw [qM _ _ _ (by rw [zB4,hfl];omega)];have hz2:=hzl;simp only [Nat.sub_zero] at hz2 ⊢;rw [hz2];omega
 ·rw [qM,hsl]
  ·show o+(cap - 0)*1≤_;omega
  ·rw [hsl,hzl];omega
 ·subst hj;exact ⟨C.wf.lt C.at_,.inl p3⟩
def Bst (d:Int→Int→Int) (L J:List Int) (i k best:Nat) (least:Int):Prop :=
 (i=0∧k=0∧best=0∧least = -1)∨(best<L.length∧0≤least∧(∃ u∈J,least=d (L.getD best default) u)∧(∀ j,j<i→∀ y∈J,least≤d (L.getD j default) y)∧∀ m,m<k→least≤d (L.getD i default) (J.getD m default))
theorem Bst.new {d:Int→Int→Int} (m:Met d) {L J:List Int} {i k best:Nat} {least:Int} (h:Bst d L J i k best least) (hi:i<L.length) (hk:k<J.length) (hx:least<0∨d (L.getD i default) (J.getD k default)<least) :
 Bst d L J i (k+1) i (d (L.getD i default) (J.getD k default)):=by
 refine .inr ⟨hi,m.nn _ _,⟨_,qI hk,rfl⟩,?_,?_⟩
 ·rcases h with ⟨rfl,-,-,-⟩|⟨-,h2,-,h4,-⟩
  ·exact fun j hj=>absurd hj (zB7 _)
  ·exact fun j hj y hy=>by have:=h4 j hj y hy;omega
 ·rcases h with ⟨-,rfl,-,-⟩|⟨-,h2,-,-,h5⟩
  ·intro j hj;rw [show j=0 by omega];exact Int.le_refl _
  ·exact jy (fun j hj=>by have:=h5 j hj;omega) (Int.le_refl _)
theorem Bst.old {d:Int→Int→Int} {L J:List Int} {i k best:Nat} {least:Int} (h:Bst d L J i k best least) (hx:¬ least<0) (hy:¬ d (L.getD i default) (J.getD k default)<least):Bst d L J i (k+1) best least:=by
 rcases h with ⟨-,-,-,rfl⟩|⟨h1,h2,h3,h4,h5⟩
 ·exact absurd (show (-1:Int)<0 by omega) hx
 ·exact .inr ⟨h1,h2,h3,h4,jy h5 (by omega)⟩
theorem Bst.row {d:Int→Int→Int} {L J:List Int} {i best:Nat} {least:Int} (h:Bst d L J i J.length best least) (hJ:J≠[]):Bst d L J (i+1) 0 best least:=by
 rcases h with ⟨-,h,-,-⟩|⟨h1,h2,h3,h4,h5⟩
 ·exact absurd (zE9.1 h) hJ
 ·refine .inr ⟨h1,h2,h3,jy h4 fun y hy=>?_,fun m hm=>absurd hm (zB7 _)⟩;obtain ⟨j,hj,rfl⟩:=qK.1 hy;exact h5 j hj
theorem Bst.fin {d:Int→Int→Int} {L J:List Int} {best:Nat} {least:Int} (h:Bst d L J L.length 0 best least) (hL:0<L.length):best<L.length∧0≤least∧∃ u∈J,least=d (L.getD best default) u∧∀ x∈L,∀ y∈J,d (L.getD best default) u≤d x y:=by
 rcases h with ⟨h,-,-,-⟩|⟨h1,h2,⟨u,h3,h4⟩,h5,-⟩
 ·omega
 ·refine ⟨h1,h2,u,h3,h4,fun x hx y hy=>?_⟩;obtain ⟨j,hj,rfl⟩:=qK.1 hx;rw [← h4];exact h5 j hj y hy
theorem qbX {l:List Int} (nd:l.Nodup) {i:Nat} (hi:i<l.length):l.take i ++ l.drop (i+1)=l.erase (l.getD i default):=by
 induction l generalizing i with
 | nil=>cases hi
 | cons x l ih =>
  rw [List.nodup_cons] at nd;cases i with
  | zero=>simp
  | succ i =>
   have hi':i<l.length:=by simpa using hi
   have hm:l.getD i default∈l:=qI hi';have e:(x :: l).getD (i+1) default=l.getD i default:=rfl;rw [e,List.erase_cons_tail (by simp only [beq_iff_eq];intro q;rw [← q] at hm;exact nd.1 hm),← ih nd.2 hi'];simp
theorem qcI {h0:AH} (w:WfH h0) (pv:PbV) (p:Pb) (H:PbOk h0 pv p) (vq:Value) (q:List Int) (rq:qY h0 vq 1 eI q) (hq:q.length≤9223372036854775807) :
 Fn Tryz.prog Xh 27 [pv.val,vq] h0 (fun u h'=>∃ n,u = .int .i64 n∧((¬ (PO p∧PartOk p q)∧n=0)∨(PO p∧PartOk p q∧Prim (zG p.tabs) [-1] (srv (zk p q)) n))∧Hs h0 h' []):=by
 have S:=Hs.start w;have hr:=H.tab.rd;have hl:=H.tab.len;unfold PbV.val;refine qJ (by first|rfl) Tryz.func27 rfl rfl ?_;all_goals (repeat' (first|refine qg ?_|(refine qc 0 ?_;(refine bx S ?_;clear S;intro b h S);refine mv ?_;refine qf ?_)))
 obtain ⟨b2,hnm⟩:∃ x,x=b:=⟨_,rfl⟩;subst hnm;all_goals (repeat' (first|(refine qc 1 ?_;refine lB S rfl rfl ?_;refine mv ?_)))
 (refine qx rfl rfl rfl rfl rfl ((P5 S.wf pv p (H.ext w S.ext) vq q (rq.ext w S.ext) hq).mono ?_);rintro _ h ⟨⟨rfl,hv⟩|⟨rfl,hv⟩,x⟩)<;>(replace S:=S.join0 x;clear x;refine vl ?_;refine qf ?_)
 rotate_left
 ·all_goals (repeat' (first|refine qg ?_|refine qh rfl ?_|(refine qc 2 ?_;refine mv ?_;refine qf ?_)))
  refine qj ⟨_,rfl,?_⟩;exact ⟨0,rfl,.inl ⟨hv,rfl⟩,S.drop⟩
 obtain ⟨hp,hpq⟩:=hv;have hql:=hpq.ql hp;have hqm:=hpq.qm hl;have hsl:=vP (pl:=zk p q);rw [ZR] at hsl;have met:=Xb p.tabs;all_goals (repeat' (first|refine qg ?_|refine qh rfl ?_|refine qi ?_|(refine qc 3 ?_;refine lB S rfl rfl ?_;refine mv ?_)))
 (refine qx rfl rfl rfl rfl rfl ((We S.wf pv p (H.ext w S.ext) vq q (rq.ext w S.ext) (by omega) hqm).mono ?_);rintro vL h x)<;>(replace S:=S.join1 x;clear x;refine mv ?_;refine qf ?_)
 have nd0:(srv (zk p q)).Nodup:=srv_inc.imp fun h=>Int.ne_of_lt h;have hsr:=vS (p:=p) (q:=q);obtain ⟨stops,hst⟩:∃ stops,srv (zk p q)=stops:=⟨_,rfl⟩
 rw [hst] at S hsl nd0 hsr ⊢;all_goals (repeat' (first|refine qg ?_|refine qo ?_|(refine qc 4 ?_;(refine one 1 S ?_;clear S;intro u h S);refine mv ?_;refine qf ?_)|(refine qc 5 ?_;refine mv ?_;refine qf ?_)))
 replace S:=S.one eI (-1) rfl;rename_i u0 h8
 replace S:Hs h0 h [.sl u 3 1 eI [-1],.sl vL 3 1 eI stops,.blk b2 pv.cs 28]:=S;refine qH (σ:=Value×Value×List Int×List Int×Int) (fun (vL,vJ,L,J,n) h'=>Hs h0 h' [.sl vJ 3 1 eI J,.sl vL 3 1 eI L,.blk b2 pv.cs 28]∧L.Nodup∧(∀ t∈L,0≤t∧t<p.tabs.length)∧(∀ t∈J,t<p.tabs.length)∧J≠[]∧L.length+J.length≤1001∧(0≤n∧n≤2000*J.length)∧∀ c,Prim (zG p.tabs) J.reverse L c→Prim (zG p.tabs) [-1] stops (n+c)) (fun (vL,vJ,L,J,n)=>L.length) (fun (vL,vJ,L,J,n)=>[(2,.pointer (some ⟨b2,0,none⟩)),(5,vL),(6,vJ),(7,.int .i64 n)]) (vL,u,stops,[-1],0) qy ?_ ?_
 ·exact ⟨S,nd0,hsr,fun t ht=>by rw [zB5.1 ht];omega,by simp,by simp;omega,⟨by omega,by omega⟩,fun c hc=>by rw [Int.zero_add];exact hc⟩
 clear S;rintro ⟨vL,vJ,L,J,n⟩ h ⟨S,g1,g2,g3,g4,g5,g6,g7⟩;all_goals (repeat' (first|refine qg ?_|refine qh rfl ?_|refine qi ?_|refine qB ?_|refine qo ?_|(refine qc 6 ?_;refine mv ?_;refine XP S rfl rfl ?_;(first|(refine cS ?_ ?_<;>intro hc))<;>(refine qf ?_))))
 ·all_goals (repeat' (first|refine qg ?_|refine qo ?_|(refine qc 7 ?_;refine mv ?_;refine mv ?_;refine qf ?_)|(refine qc 8 ?_;refine mv ?_;refine XP S rfl rfl ?_;refine mv ?_;refine qf ?_)))
  refine qH (σ:=Nat×Nat×Int) (fun (i,best,least) h'=>Hs h0 h' [.sl vJ 3 1 eI J,.sl vL 3 1 eI L,.blk b2 pv.cs 28]∧i≤L.length∧Bst (zG p.tabs) L J i 0 best least) (fun (i,best,least)=>L.length - i) (fun (i,best,least)=>[(2,.pointer (some ⟨b2,0,none⟩)),(5,vL),(6,vJ),(7,.int .i64 n),(8,.int .i64 best),(9,.int .i64 least),(26,vL),(27,.int .i64 L.length),(28,.int .i64 i)]) (0,0,-1) qy ?_ ?_
  ·exact ⟨S,zB0 _,.inl ⟨rfl,rfl,rfl,rfl⟩⟩
  clear S;rintro ⟨i,best,least⟩ h ⟨S,e1,e2⟩;all_goals (repeat' (first|refine qg ?_|refine qh rfl ?_|refine qi ?_|refine qB ?_|refine qo ?_|(refine qc 9 ?_;(first|(refine cS ?_ ?_<;>intro hc))<;>(refine qf ?_))|(refine qc 10 ?_;refine mv ?_;refine QX S rfl rfl ?_;refine ZF S rfl rfl ?_;refine mv ?_;refine mv ?_;refine qf ?_)))
  ·have hi:i<L.length:=by omega
   obtain ⟨t,ht⟩:∃ t,L.getD (i:Int).toNat default=t:=⟨_,rfl⟩
   rw [ht];replace ht:L.getD i default=t:=ht;have htb:=g2 t (by rw [← ht];exact qI hi);all_goals (repeat' (first|refine qo ?_|(refine qc 11 ?_;refine mv ?_;refine XP S rfl rfl ?_;refine mv ?_;refine qf ?_)))
   refine qH (σ:=Nat×Nat×Int) (fun (k,best,least) h'=>Hs h0 h' [.sl vJ 3 1 eI J,.sl vL 3 1 eI L,.blk b2 pv.cs 28]∧k≤J.length∧Bst (zG p.tabs) L J i k best least) (fun (k,best,least)=>J.length - k) (fun (k,best,least)=>[(2,.pointer (some ⟨b2,0,none⟩)),(5,vL),(6,vJ),(7,.int .i64 n),(8,.int .i64 best),(9,.int .i64 least),(10,.int .i64 i),(11,.int .i64 t),(26,vL),(27,.int .i64 L.length),(28,.int .i64 i),(33,vJ),(34,.int .i64 J.length),(35,.int .i64 k)]) (0,best,least) qy ?_ ?_
   ·exact ⟨S,zB0 _,e2⟩
   clear S e2;rintro ⟨k,best,least⟩ h ⟨S,f1,f2⟩;all_goals (repeat' (first|refine qg ?_|refine qh rfl ?_|refine qi ?_|refine qB ?_|refine qo ?_|(refine qc 12 ?_;(first|(refine cS ?_ ?_<;>intro hc))<;>(refine qf ?_))|(refine qc 13 ?_;refine QX S rfl rfl ?_;refine ZF S rfl rfl ?_;refine mv ?_;refine qf ?_)))
   ·have hk:k<J.length:=by omega
    obtain ⟨z,hz⟩:∃ z,J.getD (k:Int).toNat default=z:=⟨_,rfl⟩
    rw [hz];replace hz:J.getD k default=z:=hz;have hzb:=g3 z (by rw [← hz];exact qI hk);all_goals (repeat' (first|(refine qc 14 ?_;refine lB S rfl rfl ?_;refine mv ?_;refine mv ?_)))
    (refine qx rfl rfl rfl rfl rfl ((Qy S.wf pv p (H.ext w S.ext) hp.tabs t z htb.2 hzb).mono ?_);rintro _ h ⟨rfl,x⟩)<;>(replace S:=S.join0 x;clear x;refine mv ?_;refine qf ?_)
    have N:=f2.new met hi hk;have O:=f2.old;rw [ht,hz] at N O;all_goals (repeat' (first|refine qg ?_|refine qh rfl ?_|refine qi ?_|(refine qc 15 ?_;refine mv ?_;(first|(refine cS ?_ ?_<;>intro hc))<;>(refine mv ?_;(first|refine off ?_|refine mv ?_);(first|refine off ?_|refine mv ?_);(first|refine off ?_|(first|(refine cS ?_ ?_<;>intro hc)))<;>(refine vl ?_;refine qf ?_)))))
    ·all_goals (repeat' (first|(refine qc 16 ?_;(iterate 4 refine mv ?_);refine qf ?_)|(refine qc 17 ?_;refine ad ?_;refine mv ?_;refine qf ?_)))
     refine ⟨(k+1,i,zG p.tabs t z),?_,?_,qy⟩
     ·show J.length - (k+1)<J.length - k;omega
     ·exact ⟨S,by omega,N (.inl (by assumption))⟩
    ·all_goals (repeat' (first|(refine qc 16 ?_;(iterate 4 refine mv ?_);refine qf ?_)|(refine qc 17 ?_;refine ad ?_;refine mv ?_;refine qf ?_)))
     refine ⟨(k+1,i,zG p.tabs t z),?_,?_,qy⟩
     ·show J.length - (k+1)<J.length - k;omega
     ·exact ⟨S,by omega,N (.inr (by assumption))⟩
    ·all_goals (repeat' (first|(refine qc 17 ?_;refine ad ?_;refine mv ?_;refine qf ?_)))
     refine ⟨(k+1,best,least),?_,?_,qy⟩
     ·show J.length - (k+1)<J.length - k;omega
     ·exact ⟨S,by omega,O (by assumption) (by assumption)⟩
   ·obtain rfl:k=J.length:=by omega
    all_goals (repeat' (first|(refine qc 18 ?_;refine ad ?_;refine mv ?_;refine qf ?_)))
    refine ⟨(i+1,best,least),?_,?_,qy⟩
    ·show L.length - (i+1)<L.length - i;omega
    ·exact ⟨S,by omega,f2.row g4⟩
  ·obtain rfl:i=L.length:=by omega
   obtain ⟨k1,k2,z,k3,k4,k5⟩:=e2.fin (by omega);have hm:=qI k1;have k6:=g2 _ hm;have k7:=Zl hp.tabs k6.2 (g3 z k3);rw [← k4] at k7;all_goals (repeat' (first|(refine qc 19 ?_;(iterate 3 refine mv ?_);refine QX S rfl rfl ?_;refine ZF S rfl rfl ?_;(refine one 1 S ?_;clear S;intro u h S))))
   refine app (y0:=(L.getD best default)) S rfl rfl ?_;clear S;intro v h S;refine mv ?_;refine qf ?_;obtain ⟨sL,rfl⟩:=S.sV vL;have S:=(show Hs h0 h [.sl sL.val 3 1 eI L,.sl v 3 1 eI (J ++ [L.getD best default]),.blk b2 pv.cs 28] from S.pick)
   all_goals (repeat' (first|refine qg ?_|(refine qc 20 ?_;(iterate 3 refine mv ?_);refine ad ?_)))
   (refine qx rfl rfl rfl rfl rfl ((qda best k1 (by omega) S).mono ?_);rintro vn h S)<;>(refine mv ?_;refine qf ?_)
   have key:L.take best ++ L.drop (best+1)=L.erase (L.getD best default):=qbX g1 k1;rw [key] at S;have hle:(L.erase (L.getD best default)).length=L.length - 1:=List.length_erase_of_mem hm;all_goals (repeat' (first|(refine qc 21 ?_;refine mv ?_;refine mv ?_;refine ad ?_;refine mv ?_;refine qf ?_)))
   refine ⟨(vn,v,L.erase (L.getD best default),J ++ [L.getD best default],n+least),?_,?_,qy⟩
   ·show (L.erase (L.getD best default)).length<L.length;omega
   ·refine ⟨S.pick,g1.erase _,fun t ht=>g2 t (List.mem_of_mem_erase ht),fun t ht=>?_,by simp,by show (L.erase (L.getD best default)).length+(J ++ [L.getD best default]).length≤1001;rw [zB2,zD5];omega,by simp only [zB2,zD5];omega,fun c hc=>?_⟩
    ·rcases zB8.1 ht with q|q
     ·exact g3 t q
     ·rw [zB5.1 q];exact k6.2
    ·rw [List.reverse_append] at hc;have:=g7 (zG p.tabs (L.getD best default) z+c) (.step hm (List.mem_reverse.2 k3) (fun x hx y hy=>k5 x hx y (List.mem_reverse.1 hy)) hc);rw [k4,Int.add_assoc];exact this
 ·all_goals (repeat' (first|(refine qc 22 ?_;refine mv ?_;refine mv ?_;refine qf ?_)))
  refine qj ⟨_,rfl,?_⟩;obtain rfl:L=[]:=zE9.1 (by omega);have:=g7 0 .nil;rw [Int.add_zero] at this;exact ⟨n,rfl,.inr ⟨hp,hpq,this⟩,S.drop⟩
end Go.Proofs.Xx
namespace Go.Proofs.Xx
def exch (l:List Int) (a b:Nat):List Int:=(l.set a (l.getD b default)).set b (l.getD a default)
def e82 (x:Nat×Nat):List Value:=[.int .u8 x.1,.int .u8 x.2]
end Go.Proofs.Xx
namespace Go.Proofs.Xx
def qa1 (ld:Int→Int):List Int→Int
 | []=>0
 | t :: l=>ld t+qa1 ld l
def seg (w:List Int) (i j:Nat):List Int:=(w.drop i).take (j - i)
theorem qa9 {w:List Int} {i j:Nat} (h:i≤j):seg w i j ++ w.drop j=w.drop i:=by
 have:=zH0 (j - i) (w.drop i);rw [List.drop_drop,show i+(j - i)=j by omega] at this;exact this
def qfH (ld:Int→Int) (k:Int) (c:List (List Int)):Prop:=∀ p∈c,p≠[]∧qa1 ld p≤k
def cost (d:Int→Int→Int):List (List Int)→Int
 | []=>0
 | p :: c=>tour d p+cost d c
def BestC (d:Int→Int→Int) (ld:Int→Int) (k:Int) (w:List Int) (i:Nat) (f:Int):Prop:=∀ c,qfH ld k c→c.flatten=w.drop i→f≤cost d c
theorem BestC.last {d:Int→Int→Int} (m:Met d) {ld:Int→Int} {k:Int} {w:List Int}:BestC d ld k w w.length 0:=fun c _ h=>by
 rw [List.drop_length] at h;induction c with
 | nil=>exact Int.le_refl _
 | cons p c ih =>
  simp only [List.flatten_cons,List.append_eq_nil_iff] at h;have h1:=VU m p (-1) (-1);have h2:=ih (fun q hq=>by rename_i hc;exact hc q (List.mem_cons_of_mem _ hq)) h.2;show 0≤tour d p+cost d c
  unfold tour;omega
theorem BestC.step {d:Int→Int→Int} {ld:Int→Int} {k:Int} {w:List Int} {i:Nat} {f:Int} {F:Nat→Int} (hi:i<w.length) (hF:∀ j,i<j→j≤w.length→BestC d ld k w j (F j))
 (h:∀ j,i<j→j≤w.length→qa1 ld (seg w i j)≤k→f≤tour d (seg w i j)+F j):BestC d ld k w i f:=fun c hc e=>by
 cases c with
 | nil =>
  have:=congrArg List.length e;simp at this;omega
 | cons p c =>
  obtain ⟨h1,h2⟩:=hc p (by simp);have hp:0<p.length:=List.length_pos_iff.2 h1;rw [List.flatten_cons] at e;have el:=congrArg List.length e;simp only [zB2,zB4] at el;have es:seg w i (i+p.length)=p:=by
   unfold seg;rw [← e,show i+p.length - i=p.length by omega];simp
  have ed:c.flatten=w.drop (i+p.length):=by
   have:=qa9 (w:=w) (i:=i) (j:=i+p.length) (by omega);rw [es,← e] at this;exact (List.append_cancel_left this).symm
  have h3:=h (i+p.length) (by omega) (by omega) (by rw [es];exact h2);have h4:=hF (i+p.length) (by omega) (by omega) c (fun q hq=>hc q (List.mem_cons_of_mem _ hq)) ed;rw [es] at h3;show f≤tour d p+cost d c
  omega
section
variable {P:Program} {X:Extern} {sz:Nat} {L L':Ks} {h h0:AH} {rs:List Rs} {ops:Array Oper} {os:List Oper} {o:Oper} {R:Ks→AH→Prop}
end
abbrev Qh {α:Type} (f:α→Rs) (l:List α):Rs:=.any (fun h fp=>Star h (l.map f) fp)
theorem Star.snoc_ {h:AH} {r:Rs} {fp:Fp} (hr:r.ok h fp):∀ {l:List Rs} {U:Fp},Star h l U→(∀ b,fp b→¬ U b)→Star h (l ++ [r]) (fun b=>U b∨fp b)
 | [],U,_,_=>⟨fp,hr,fun b hb=>.inr hb,trivial⟩
 | x :: l,U,⟨fx,h1,h2,h3⟩,hd=>⟨fx,h1,fun b hb=>.inl (h2 b hb),(Star.snoc_ hr h3 fun b hb q=>hd b hb q.1).mono fun b hb=>by
  rcases hb with hb|hb
  ·exact ⟨.inl hb.1,hb.2⟩
  ·exact ⟨.inr hb,fun q=>hd b hb (h2 b q)⟩⟩
section
variable {α:Type} {f:α→Rs} {h0 h:AH} {rs:List Rs} {gs:List α} {g:α}
theorem Hs.owNil (S:Hs h0 h rs):Hs h0 h (Qh f [] :: rs):=S.anyS fun h'=>trivial
theorem Hs.owApp (S:Hs h0 h (f g :: Qh f gs :: rs)):Hs h0 h (Qh f (gs ++ [g]) :: rs):=by
 obtain ⟨f1,k1,k2,f2,k3,k4,k5⟩:=S.sep;refine ⟨S.ext,fun b=>f2 b∨f1 b,fun h' q=>?_,fun b hb=>?_,k5.mono fun b hb=>⟨trivial,fun q=>?_⟩⟩
 ·rw [zC9];exact Star.snoc_ (k1.local fun b hb=>q b (.inr hb)) (k3 h' fun b hb=>q b (.inl hb)) fun b hb q=>(k4 b q).2.2.2 hb
 ·rcases hb with hb|hb
  ·exact ⟨(k4 b hb).1,(k4 b hb).2.1,trivial⟩
  ·exact k2 b hb
 ·rcases q with q|q
  ·exact hb.2 q
  ·exact hb.1.2 q
theorem Star.get_ {r:Rs}:∀ {l:List Rs} {U:Fp},Star h l U→r∈l→∃ fp,r.ok h fp
 | x :: l,U,⟨fx,h1,h2,h3⟩,hr=>by
  rcases zE8.1 hr with rfl|hr
  ·exact ⟨fx,h1⟩
  ·exact Star.get_ h3 hr
theorem vU {α:Type} {v:Value} {e:TypeId} {z:Nat} {enc:α→List Value} {l:List α} {h:AH} {fp:Fp} (k:(Rs.sl v e z enc l).ok h fp):qY h v z enc l:=by
 rcases k with ⟨rfl,rfl⟩|⟨b,o,cc,slk,cap,h1,h2,h3,h4,-⟩
 ·exact .inl ⟨rfl,rfl,rfl⟩
 ·exact .inr ⟨b,o,_,cc,e,slk,false,h1,h2,h4⟩
end
def ldP (pl:List Int) (t:Int):Int:=pl.getD t.toNat default
structure B3 where
 s:Int
 t:Int
 e:Int
instance:Inhabited B3:=⟨⟨0,0,0⟩⟩
def e3 (x:B3):List Value:=[.int .i64 x.s,.int .i64 x.t,.int .i64 x.e]
structure Tr_ where
 tv:SlV
 ta:List Int
 pl:Int
 st:Int
instance:Inhabited Tr_:=⟨⟨⟨none,0,0⟩,[],0,0⟩⟩
def eTr (x:Tr_):List Value:=[x.tv.val,.int .i64 x.pl,.int .i64 x.st]
abbrev qge (x:Tr_):Rs:=.sl x.tv.val 3 1 eI x.ta
structure FrI (p:Pb) (ld:Int→Int) (k:Int) (way:List Int) (m:Nat) (F:List B3):Prop where
 len:F.length=way.length+1
 best:∀ j,m≤j→j≤way.length→BestC (zG p.tabs) ld k way j (F.getD j default).s
 last:(F.getD way.length default).s=0
 bnd:∀ j,j≤way.length→(0≤(F.getD j default).s∧(F.getD j default).s≤4000*(way.length - j:Int))∧0≤(F.getD j default).t∧(F.getD j default).t≤(way.length - j:Int)
 stp_:∀ j,m≤j→j<way.length→∃ e:Nat,(F.getD j default).e=e∧j<e∧e≤way.length∧qa1 ld (seg way j e)≤k∧(F.getD j default).s=tour (zG p.tabs) (seg way j e)+(F.getD e default).s
def qf1 (p:Pb) (ld:Int→Int) (k:Int) (x:Tr_):Prop:=x.ta≠[]∧x.pl=qa1 ld x.ta∧x.st=tour (zG p.tabs) x.ta∧x.pl≤k
def qgc (p:Pb) (ld:Int→Int) (k:Int) (stops:List Int) (ts:List Tr_):Prop:=((ts.map (·.ta)).flatten).Perm stops∧∀ x∈ts,qf1 p ld k x
end Go.Proofs.Xx
namespace Go.Proofs.Xx
def qfj:(Nat→Int)→List Int→List Nat→Nat→Int
 | c,x :: q,w :: g=>qfj (fun v=>if v=w then c v+x else c v) q g
 | c,_,_=>c
def qf4 (n:Nat):Nat→List Nat→Prop
 | _,[]=>True
 | u,w :: g=>w<min (u+1) n∧qf4 n (max u (w+1)) g
def swW (a b v:Nat):Nat:=if v=a then b else if v=b then a else v
def qfZ (c:Nat→Int):Nat→Int
 | 0=>0
 | n+1=>qfZ c n+c n
end Go.Proofs.Xx
