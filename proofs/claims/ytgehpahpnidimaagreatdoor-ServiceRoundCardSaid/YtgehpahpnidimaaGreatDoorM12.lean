/-
  Ways and trees in a metric: plain.
-/
import Derived.Test.YtgehpahpnidimaaGreatDoorM11
import Derived.Test.YtgehpahpnidimaaGreatDoorM8
import Derived.Test.YtgehpahpnidimaaGreatDoorM10
import Derived.Below
import Derived.ChangeSame
import Derived.ChangeArms
import Derived.OpenShut
import Derived.Test.YtgehpahpnidimaaGreatDoorM4
import Derived.Test.YtgehpahpnidimaaGreatDoorM3
import Derived.WideShapes
import Derived.ChangeShapes
import Derived.Test.YtgehpahpnidimaaGreatDoorM5
set_option linter.unusedSectionVars false
set_option linter.unusedSimpArgs false
set_option linter.unusedVariables false
set_option maxRecDepth 100000
set_option maxHeartbeats 4000000
namespace Go.Proofs.Xx
structure Met (d:Int→Int→Int):Prop where
 nn:∀ a b,0≤d a b
 z:∀ a,d a a=0
 sym:∀ a b,d a b=d b a
 tri:∀ a b c,d a c≤d a b+d b c
def jS (d:Int→Int→Int):Int→List Int→Int→Int
 | a,[],b=>d a b
 | a,t :: l,b=>d a t+jS d t l b
theorem JX {d:Int→Int→Int}:∀ (l:List Int) (a t:Int) (r:List Int) (b:Int),jS d a (l ++ t :: r) b=jS d a l t+jS d t r b
 | [],a,t,r,b=>rfl
 | x :: l,a,t,r,b=>by
  rw [zC6,jS,jS,JX l x t r b];omega
theorem qab {d:Int→Int→Int} (m:Met d):∀ (l:List Int) (a b:Int),d a b≤jS d a l b
 | [],a,b=>Int.le_refl _
 | x :: l,a,b=>by
  have h1:=qab m l x b;have h2:=m.tri a x b;rw [jS];omega
theorem qdu {d:Int→Int→Int} (m:Met d) (l:List Int) (a b:Int):0≤jS d a l b:=by
 have h1:=qab m l a b;have h2:=m.nn a b;omega
def tour (d:Int→Int→Int) (l:List Int):Int:=jS d (-1) l (-1)
def qfp (stops:List Int):Nat→List Int→List (List Int)
 | 0,done=>[done]
 | n+1,done=>stops.flatMap fun t=>if t∈done then [] else qfp stops n (done ++ [t])
abbrev GG:=List Int×Int
def qew (L:List Int→Int) (s:GG) (c:List Int):GG:=if s.2<0∨L c<s.2 then (c,L c) else s
inductive Cov (d:Int→Int→Int):List Int→List Int→Int→Prop where
 | nil {J:List Int}:Cov d J [] 0
 | snoc {J R:List Int} {c x p:Int} (h:Cov d J R c) (hp:p∈J∨p∈R):Cov d J (R ++ [x]) (c+d x p)
theorem Cov.mono {d:Int→Int→Int} {J J' R:List Int} {c:Int} (h:Cov d J R c) (hs:∀ x∈J,x∈J'):Cov d J' R c:=by
 induction h with
 | nil=>exact .nil
 | snoc _ hp ih=>exact .snoc ih (hp.imp (hs _) id)
theorem Cov.shift {d:Int→Int→Int} {J J' R:List Int} {c p v:Int} (h:Cov d (p :: J) R c) (hv:v∈J') (hs:∀ x∈J,x∈J'):Cov d J' (p :: R) (c+d p v):=by
 generalize hJ:p :: J=K at h
 induction h with
 | nil =>
  have:=Cov.snoc (d:=d) (J:=J') (R:=[]) (c:=0) (x:=p) (p:=v) .nil (.inl hv);simpa using this
 | @snoc R c x q h hq ih =>
  subst hJ;have:=Cov.snoc (x:=x) (p:=q) ih (by
   rcases hq with hq|hq
   ·rcases zE8.1 hq with rfl|hq
    ·exact .inr (by simp)
    ·exact .inl (hs _ hq)
   ·exact .inr (List.mem_cons_of_mem _ hq))
  have e:c+d p v+d x q=c+d x q+d p v:=by omega
  rw [e] at this;exact this
theorem Cov.exch {d:Int→Int→Int} (m:Met d) {J:List Int} {w:Int} {R:List Int} {c:Int} (h:Cov d J R c):∀ {v:Int},v∈R→(∀ x∈R,∀ y∈J,w≤d x y)→R.Nodup →
 ∃ R' c',R'.Perm (R.erase v)∧Cov d (v :: J) R' c'∧c'+w≤c:=by
 induction h with
 | nil=>intro v hv;cases hv
 | @snoc R c x p h hp ih =>
  intro v hv hw hnd;rw [zG4] at hnd;obtain ⟨nd,-,ndx⟩:=hnd;have hxR:x ∉ R:=fun q=>ndx x q x (by simp) rfl;have hw0:∀ y∈R,∀ z∈J,w≤d y z:=fun y hy=>hw y (List.mem_append_left _ hy);by_cases e:v=x
  ·subst e;have eR:(R ++ [v]).erase v=R:=by rw [List.erase_append_right _ hxR];simp
   rw [eR];by_cases hpR:p∈R
   ·obtain ⟨R',c',k1,k2,k3⟩:=ih hpR hw0 nd;refine ⟨p :: R',c'+d p v,?_,k2.shift (by simp) fun y hy=>List.mem_cons_of_mem _ hy,?_⟩
    ·exact (k1.cons p).trans (List.perm_cons_erase hpR).symm
    ·have:=m.sym v p;omega
   ·have hpJ:p∈J:=hp.resolve_right hpR;have:=hw v (by simp) p hpJ;exact ⟨R,c,.refl _,h.mono fun y hy=>List.mem_cons_of_mem _ hy,by omega⟩
  ·have hvR:v∈R:=by
    rcases zB8.1 hv with q|q
    ·exact q
    ·exact absurd (zB5.1 q) e
   obtain ⟨R',c',k1,k2,k3⟩:=ih hvR hw0 nd;refine ⟨R' ++ [x],c'+d x p,?_,k2.snoc ?_,by omega⟩
   ·rw [List.erase_append_left _ hvR];exact k1.append_right [x]
   ·by_cases q:p=v
    ·exact .inl (by simp [q])
    ·rcases hp with hp|hp
     ·exact .inl (List.mem_cons_of_mem _ hp)
     ·exact .inr (k1.mem_iff.2 ((List.mem_erase_of_ne q).2 hp))
inductive Prim (d:Int→Int→Int):List Int→List Int→Int→Prop where
 | nil {J:List Int}:Prim d J [] 0
 | step {J L:List Int} {c v u:Int} (hv:v∈L) (hu:u∈J) (hm:∀ x∈L,∀ y∈J,d v u≤d x y) (h:Prim d (v :: J) (L.erase v) c):Prim d J L (d v u+c)
theorem Cov.perm0 {d:Int→Int→Int} {J R:List Int} {c:Int} (h:Cov d J R c) (hR:R=[]):c=0:=by
 cases h with
 | nil=>rfl
 | snoc _ _=>simp at hR
theorem Prim.le {d:Int→Int→Int} (m:Met d) {J L:List Int} {c:Int} (h:Prim d J L c):∀ {R:List Int} {e:Int},R.Perm L→L.Nodup→Cov d J R e→c≤e:=by
 induction h with
 | nil=>intro R e hp _ k;rw [k.perm0 (List.perm_nil.1 hp)];exact Int.le_refl _
 | @step J L c v u hv hu hm h ih =>
  intro R e hp nd k;obtain ⟨R',e',k1,k2,k3⟩:=Cov.exch m k (hp.mem_iff.2 hv) (fun x hx y hy=>hm x (hp.mem_iff.1 hx) y hy) (hp.symm.nodup nd);have:=ih (k1.trans (hp.erase v)) (nd.erase v) k2;omega
theorem Cov.way {d:Int→Int→Int} (m:Met d) (a b:Int):∀ (R:List Int),∃ e,Cov d [a] R e∧e≤jS d a R b:=fun R=>by
 have key:∀ (n:Nat) (R:List Int),R.length=n→∀ b,∃ e,Cov d [a] R e∧e+d (R.getLast?.getD a) b≤jS d a R b:=by
  intro n;induction n with
  | zero=>intro R h b;rw [zE9.1 h];exact ⟨0,.nil,by simp [jS]⟩
  | succ n ih =>
   intro R h b;rcases List.eq_nil_or_concat R with rfl|⟨R',x,rfl⟩
   ·cases h
   ·rw [List.concat_eq_append] at h ⊢;obtain ⟨e,k1,k2⟩:=ih R' (by simpa using h) x;refine ⟨e+d x (R'.getLast?.getD a),k1.snoc ?_,?_⟩
    ·cases hq:R'.getLast? with
     | none=>exact .inl (by simp)
     | some y=>exact .inr (List.mem_of_getLast? hq)
    ·rw [JX,m.sym x];simp [jS]
     omega
 obtain ⟨e,k1,k2⟩:=key _ R rfl b;have:=m.nn (R.getLast?.getD a) b;exact ⟨e,k1,by omega⟩
theorem gm {d:Int→Int→Int} (m:Met d) (a:Int):∀ (l:List Int) (v u b:Int),u=a∨u∈l→∃ l',l'.Perm (v :: l)∧jS d a l' b≤jS d a l b+2*d v u
 | l,v,u,b,h=>by
  by_cases e:u=a
  ·subst e;refine ⟨v :: l,.refl _,?_⟩;rw [jS];have h1:=m.sym v u;cases l with
   | nil=>rw [jS,jS];have:=m.tri v u b;omega
   | cons t l=>rw [jS,jS];have:=m.tri v u t;omega
  ·have hu:u∈l:=h.resolve_left e;cases l with
   | nil=>cases hu
   | cons t l =>
    obtain ⟨l',k1,k2⟩:=gm m t l v u b (by rcases zE8.1 hu with q|q;exact .inl q;exact .inr q);refine ⟨t :: l',(k1.cons t).trans (List.Perm.swap v t l),?_⟩;rw [jS,jS];omega
theorem Prim.tour {d:Int→Int→Int} (m:Met d) (a b:Int) {J L:List Int} {c:Int} (h:Prim d J L c):∀ {K:List Int},(∀ x∈J,x=a∨x∈K)→∃ l,l.Perm (L ++ K)∧jS d a l b≤jS d a K b+2*c:=by
 induction h with
 | nil=>intro K _;exact ⟨K,.refl _,by omega⟩
 | @step J L c v u hv hu hm h ih =>
  intro K hK;obtain ⟨K',k1,k2⟩:=gm m a K v u b (hK u hu);obtain ⟨l,k3,k4⟩:=ih (K:=K') fun x hx=>by
   rcases zE8.1 hx with rfl|hx
   ·exact .inr (k1.mem_iff.2 (by simp))
   ·exact (hK x hx).imp id fun q=>k1.mem_iff.2 (List.mem_cons_of_mem _ q)
  refine ⟨l,k3.trans ?_,by omega⟩;have p1:(L.erase v ++ K').Perm (L.erase v ++ (v :: K)):=k1.append_left _;have p2:(L.erase v ++ (v :: K)).Perm (v :: (L.erase v ++ K)):=List.perm_middle;have p3:(v :: (L.erase v ++ K)).Perm (L ++ K):=by
   rw [← zC6];exact (List.perm_cons_erase hv).symm.append_right K
  exact p1.trans (p2.trans p3)
end Go.Proofs.Xx
namespace Go.Proofs.Xx
def qhk (a b:List Int):Prop:=∃ pre x y s t,a=pre ++ x :: s∧b=pre ++ y :: t∧x<y
end Go.Proofs.Xx
namespace Go.Proofs.Xx
def JA (l:List Int):Int:=l.getLast?.getD (-1)
def ZY (d:Int→Int→Int) (l:List Int):Int:=tour d l - d (JA l) (-1)
theorem Y8 {l:List Int} {t:Int}:JA (l ++ [t])=t:=by simp [JA]
theorem qaR {d:Int→Int→Int}:ZY d []=0:=by simp [ZY,tour,jS,JA]
theorem qdd {d:Int→Int→Int} {l:List Int}:tour d l=ZY d l+d (JA l) (-1):=by unfold ZY;omega
theorem qdt {d:Int→Int→Int} (l:List Int) (t:Int):jS d (-1) l t=ZY d l+d (JA l) t:=by
 unfold ZY tour;rcases List.eq_nil_or_concat l with rfl|⟨r,x,rfl⟩
 ·simp [jS,JA]
 ·rw [List.concat_eq_append,JX,JX,Y8];simp [jS]
theorem qaS {d:Int→Int→Int} (l:List Int) (t:Int):ZY d (l ++ [t])=ZY d l+d (JA l) t:=by
 rw [← qdt];unfold ZY tour;rw [JX,Y8];simp [jS]
theorem qdC {d:Int→Int→Int} {M:Int} {N:Int} (hd:∀ a b,a<N→b<N→0≤d a b∧d a b≤M) (hN:0≤N):∀ (l:List Int),(∀ t∈l,t<N)→0≤ZY d l∧ZY d l≤M*l.length∧JA l<N:=by
 have key:∀ (n:Nat) (l:List Int),l.length=n→(∀ t∈l,t<N)→0≤ZY d l∧ZY d l≤M*l.length∧JA l<N:=by
  intro n;induction n with
  | zero=>intro l h _;rw [zE9.1 h];simp [qaR,JA];omega
  | succ n ih =>
   intro l h ht;rcases List.eq_nil_or_concat l with rfl|⟨l',x,rfl⟩
   ·cases h
   ·rw [List.concat_eq_append] at h ht ⊢;obtain ⟨h1,h2,h3⟩:=ih l' (by simpa using h) fun t q=>ht t (List.mem_append_left _ q);have hx:=ht x (by simp);have h4:=hd (JA l') x h3 hx;rw [qaS,Y8];refine ⟨by omega,?_,hx⟩;simp only [zB2,zD5];push_cast
    rw [Int.mul_add];omega
 exact fun l=>key _ l rfl
def qhh (stops:List Int) (n:Nat) (done:List Int) (i:Nat):List (List Int):=(stops.take i).flatMap fun t=>if t∈done then [] else qfp stops n (done ++ [t])
theorem ValidL.xy {l:List Tab} (h:ValidL l) {i:Nat} (hi:i<l.length):qbe (tb l i):=by
 have hc:=(h.2 i hi).1;unfold chk at hc;split at hc
 ·cases hc
 ·split at hc
  ·cases hc
  ·split at hc
   ·cases hc
   ·split at hc
    ·cases hc
    ·rename_i hx;exact zF3.1 hx
theorem P9 {l:List Tab} (h:ValidL l) {t:Int} (ht:t<l.length):0≤ptX l t∧ptX l t≤1000:=by
 unfold ptX;split
 ·omega
 ·have:=h.xy (i:=t.toNat) (by omega);unfold qbe at this;omega
theorem P8 {l:List Tab} (h:ValidL l) {t:Int} (ht:t<l.length):0≤ptY l t∧ptY l t≤1000:=by
 unfold ptY;split
 ·omega
 ·have:=h.xy (i:=t.toNat) (by omega);unfold qbe at this;omega
theorem qdh (l:List Tab):Met (ZJ l):=by
 constructor<;>intros<;>unfold ZJ<;>omega
theorem PY {l:List Tab} (h:ValidL l) {a b:Int} (ha:a<l.length) (hb:b<l.length):0≤ZJ l a b∧ZJ l a b≤2000:=by
 have h1:=P9 h ha;have h2:=P9 h hb;have h3:=P8 h ha;have h4:=P8 h hb;unfold ZJ;omega
theorem Kw {h0:AH} (w:WfH h0) (v:PbV) (p:Pb) (H:PbOk h0 v p) (t:Int) (ht:t<p.tabs.length):Fn Tryz.prog Xh 142 [v.val,.int .i64 t] h0 (fun u h'=>u = .tuple #[.int .i64 (ptX p.tabs t),.int .i64 (ptY p.tabs t)]∧Hs h0 h' []):=by
 have S:=Hs.start w;have hr:=H.tab.rd;unfold PbV.val;refine qM (by first|rfl|exact KX.no _ _ _ (by decide) rfl) Tryz.func142 rfl rfl ?_;all_goals (repeat' (first|refine qg ?_|refine qi rfl ?_|refine qj ?_|refine qA ?_|refine qp ?_|refine qP ?_|refine qQ ?_|(refine qc 0 ?_;(refine bx S ?_;clear S;intro b h S);refine mv ?_;refine mv ?_;refine qf ?_)|(refine qc 1 ?_;refine mv ?_;(first|refine cT ?_|refine cF ?_|(refine cS ?_ ?_<;>intro hc))<;>(refine qf ?_))|(refine qc 2 ?_;refine mv ?_;refine mv ?_;refine qf ?_)))
 ·refine qw ⟨_,rfl,?_⟩;exact ⟨by unfold ptX ptY;rw [if_pos hc,if_pos hc];rfl,S.drop⟩
 ·obtain ⟨j,rfl⟩:=zH4 (show 0≤t by omega);all_goals (repeat' (first|refine qg ?_|refine qi rfl ?_|refine qj ?_|refine qA ?_|refine qp ?_|refine qP ?_|refine qQ ?_|(refine zi 3 ?_;(first|refine vl ?_|refine fB S ?_|refine fS S rfl rfl ?_|refine fA ?_);(first|refine lB S rfl rfl ?_|refine jT S rfl rfl ?_|refine Qk S ?_|refine lH S ?_);refine mv ?_;(first|refine QE S ?_|refine jI S rfl rfl ?_);(first|refine vl ?_|refine fB S ?_|refine fS S rfl rfl ?_|refine fA ?_);(first|refine lB S rfl rfl ?_|refine jT S rfl rfl ?_|refine Qk S ?_|refine lH S ?_);(first|refine vl ?_|refine fB S ?_|refine fS S rfl rfl ?_|refine fA ?_);(first|refine lB S rfl rfl ?_|refine jT S rfl rfl ?_|refine Qk S ?_|refine lH S ?_);refine mv ?_;(first|refine QE S ?_|refine jI S rfl rfl ?_);(first|refine vl ?_|refine fB S ?_|refine fS S rfl rfl ?_|refine fA ?_);(first|refine lB S rfl rfl ?_|refine jT S rfl rfl ?_|refine Qk S ?_|refine lH S ?_);refine mv ?_;refine mv ?_;refine qf ?_)))
  refine qw ⟨_,rfl,?_⟩;exact ⟨by unfold ptX ptY;rw [if_neg (by omega),if_neg (by omega)];rfl,S.drop⟩
theorem yJ {h0:AH} (w:WfH h0) (v:PbV) (p:Pb) (H:PbOk h0 v p) (hv:ValidL p.tabs) (a c:Int) (ha:a<p.tabs.length) (hb:c<p.tabs.length):Fn Tryz.prog Xh 91 [v.val,.int .i64 a,.int .i64 c] h0 (fun u h'=>u = .int .i64 (ZJ p.tabs a c)∧Hs h0 h' []):=by
 have S:=Hs.start w;have x1:=P9 hv ha;have x2:=P9 hv hb;have y1:=P8 hv ha;have y2:=P8 hv hb;unfold PbV.val;refine qM (by first|rfl|exact KX.no _ _ _ (by decide) rfl) Tryz.func91 rfl rfl ?_;all_goals (repeat' (first|refine qg ?_|refine qi rfl ?_|refine qj ?_|refine qA ?_|refine qp ?_|refine qP ?_|refine qQ ?_|(refine qc 0 ?_;(refine bx S ?_;clear S;intro b h S);refine mv ?_;refine qf ?_)|(refine qc 1 ?_;(first|refine lB S rfl rfl ?_|refine jT S rfl rfl ?_|refine Qk S ?_|refine lH S ?_);refine mv ?_)))
 obtain ⟨bb,hnm⟩:∃ x,x=b:=⟨_,rfl⟩;subst hnm;(refine qx rfl rfl rfl rfl rfl ((Kw S.wf v p (H.ext w S.ext) a ha).mono ?_);rintro _ h ⟨rfl,x⟩)<;>(replace S:=S.join0 x;clear x;refine mv ?_;refine vl ?_;refine vl ?_;refine mv ?_;refine mv ?_;refine qf ?_)
 all_goals (repeat' (first|refine qg ?_|refine qi rfl ?_|refine qj ?_|refine qA ?_|refine qp ?_|refine qP ?_|refine qQ ?_|(refine qc 2 ?_;(first|refine lB S rfl rfl ?_|refine jT S rfl rfl ?_|refine Qk S ?_|refine lH S ?_);refine mv ?_)))
 (refine qx rfl rfl rfl rfl rfl ((Kw S.wf v p (H.ext w S.ext) c hb).mono ?_);rintro _ h ⟨rfl,x⟩)<;>(replace S:=S.join0 x;clear x;refine mv ?_;refine vl ?_;refine vl ?_;refine mv ?_;refine mv ?_;refine qf ?_)
 all_goals (repeat' (first|refine qg ?_|refine qi rfl ?_|refine qj ?_|refine qA ?_|refine qp ?_|refine qP ?_|refine qQ ?_|(refine qc 3 ?_;refine mv ?_;refine mv ?_;(first|refine sb ?_|refine vl ?_);refine mv ?_;refine mv ?_;(first|refine sb ?_|refine vl ?_);refine mx ?_;refine mv ?_;refine mv ?_;(first|refine sb ?_|refine vl ?_);refine mv ?_;refine mv ?_;(first|refine sb ?_|refine vl ?_);refine mx ?_;(first|refine ad ?_|refine vl ?_);refine mv ?_;refine qf ?_)))
 refine qw ⟨_,rfl,?_⟩;exact ⟨rfl,S.drop⟩
theorem WG {h0:AH} (w:WfH h0) (v:PbV) (p:Pb) (H:PbOk h0 v p) (hv:ValidL p.tabs) (wl:Value) (l:List Int) (rl:zo h0 wl 1 eI l) (hl:l.length≤1000000) (ht:∀ t∈l,t<p.tabs.length):Fn Tryz.prog Xh 55 [v.val,wl] h0 (fun u h'=>u = .int .i64 (tour (ZJ p.tabs) l)∧Hs h0 h' []):=by
 have S:=Hs.start w;unfold PbV.val;refine qM (by first|rfl|exact KX.no _ _ _ (by decide) rfl) Tryz.func55 rfl rfl ?_;all_goals (repeat' (first|refine qg ?_|refine qi rfl ?_|refine qj ?_|refine qA ?_|refine qp ?_|refine qP ?_|refine qQ ?_|(refine qc 0 ?_;(refine bx S ?_;clear S;intro b h S);refine mv ?_;refine qf ?_)|(refine qc 1 ?_;refine mv ?_;refine mv ?_;refine qf ?_)|(refine qc 2 ?_;refine mv ?_;(first|refine jZ S ?_|refine yc S rfl rfl ?_);refine mv ?_;refine qf ?_)))
 refine qL (σ:=Nat×Int×Int) (fun (i,n,a) h'=>Hs h0 h' [.blk b v.cs 28]∧i≤l.length∧(0≤n∧n≤2000*i)∧a<p.tabs.length∧n+jS (ZJ p.tabs) a (l.drop i) (-1)=tour (ZJ p.tabs) l) (fun (i,n,a)=>l.length - i) (fun (i,n,a)=>[(2,.pointer (some ⟨b,0,none⟩)),(5,.int .i64 n),(6,.int .i64 a),(9,wl),(10,.int .i64 l.length),(11,.int .i64 i)]) (0,0,-1) qy ?_ ?_
 ·exact ⟨S,zB0 _,⟨Int.le_refl _,Int.le_refl _⟩,by omega,by simp [tour]⟩
 clear S;rintro ⟨i,n,a⟩ h ⟨S,h1,h2,h3,h4⟩;all_goals (repeat' (first|refine qg ?_|refine qi rfl ?_|refine qj ?_|refine qA ?_|refine qp ?_|refine qP ?_|refine qQ ?_|(refine qc 3 ?_;(first|refine cT ?_|refine cF ?_|(refine cS ?_ ?_<;>intro hc))<;>(refine qf ?_))|(refine qc 4 ?_;(first|refine QE S ?_|refine jI S rfl rfl ?_);(first|refine lB S rfl rfl ?_|refine jT S rfl rfl ?_|refine Qk S ?_|refine lH S ?_);refine mv ?_;refine qf ?_)|(refine qc 5 ?_;refine mv ?_;(first|refine lB S rfl rfl ?_|refine jT S rfl rfl ?_|refine Qk S ?_|refine lH S ?_);refine mv ?_;refine mv ?_)|(refine qc 8 ?_;refine mv ?_;(first|refine lB S rfl rfl ?_|refine jT S rfl rfl ?_|refine Qk S ?_|refine lH S ?_);refine mv ?_)))
 ·(try simp only [zA0] at *)
  have hi:i<l.length:=by omega
  have h5:=ht _ (qJ hi);have h6:=PY hv h3 h5;(refine qx rfl rfl rfl rfl rfl ((yJ S.wf v p (H.ext w S.ext) hv a (l.getD i default) h3 h5).mono ?_);rintro _ h ⟨rfl,x⟩)<;>(replace S:=S.join0 x;clear x;(first|refine ad ?_|refine vl ?_);refine mv ?_;refine qf ?_)
  all_goals (repeat' (first|refine qg ?_|refine qi rfl ?_|refine qj ?_|refine qA ?_|refine qp ?_|refine qP ?_|refine qQ ?_|(refine qc 6 ?_;refine mv ?_;refine mv ?_;refine qf ?_)|(refine qc 7 ?_;(first|refine ad ?_|refine vl ?_);refine mv ?_;refine qf ?_)))
  refine ⟨(i+1,n+ZJ p.tabs a (l.getD i default),l.getD i default),?_,?_,qy⟩
  ·show l.length - (i+1)<l.length - i;omega
  ·refine ⟨S,by omega,⟨by simp only;omega,by simp only;omega⟩,h5,?_⟩;rw [← h4,zG7 hi,jS,zA2,zA4 hi];simp only [zH6];omega
 ·have hi:i=l.length:=by omega
  have h6:=PY hv h3 (show (-1:Int)<p.tabs.length by omega);(refine qx rfl rfl rfl rfl rfl ((yJ S.wf v p (H.ext w S.ext) hv a (-1) h3 (by omega)).mono ?_);rintro _ h ⟨rfl,x⟩)<;>(replace S:=S.join0 x;clear x;(first|refine ad ?_|refine vl ?_);refine mv ?_;refine qf ?_)
  all_goals (repeat' (first|refine qg ?_|refine qi rfl ?_|refine qj ?_|refine qA ?_|refine qp ?_|refine qP ?_|refine qQ ?_))
  refine qw ⟨_,rfl,?_⟩;refine ⟨?_,S.drop⟩;rw [← h4,hi,List.drop_length,jS];rfl
section
variable {P:Program} {X:Extern} {ops:Array Oper} {os:List Oper} {o:Oper} {sz:Nat} {h h0:AH} {rs:List Rs} {R:Ks→AH→Prop}
inductive HSteps (P:Program) (ops:Array Oper) (sz:Nat) (h:AH):Ks→List Nat→Ks→Prop where
 | nil {L:Ks}:HSteps P ops sz h L [] L
 | cons {L L1 L':Ks} {k:Nat} {ks:List Nat} {ok:Oper} {v:Value} {h':AH} (hok:ops[k]? = some ok) (hg:qo ops L.tree ok.guard=some true) (ha:zD P L.tree h ok.op=some (.val v h')) (hd:qE sz L ok.dst v=some L1) (r:HSteps P ops sz h L1 ks L'):HSteps P ops sz h L (k :: ks) L'
theorem HSteps.mv {L L1 L':Ks} {k:Nat} {ks:List Nat} {ok:Oper} {v:Value} {x:Operand} (hok:ops[k]? = some ok) (hm:ok.op = .move x) (hx:kA L x=some v) (hg:qo ops L.tree ok.guard=some true) (hd:qE sz L ok.dst v=some L1) (r:HSteps P ops sz h L1 ks L'):HSteps P ops sz h L (k :: ks) L' :=
 .cons (h':=h) hok hg (by rw [hm];simp only [zD,qB hx,qH]) hd r
theorem HSteps.cU {L L1 L':Ks} {k:Nat} {ks:List Nat} {ok:Oper} {x:Operand} {s d:TypeId} {k1 k2:IntKind} {a:Int} (hb:0≤a∧a≤255) (hok:ops[k]? = some ok) (hm:ok.op = .convert s d x) (hx:kA L x=some (.int k1 a)) (hs:P.underlying s=some (.int k2)) (hd':P.underlying d=some (.int .u8)) (hg:qo ops L.tree ok.guard=some true) (hd:qE sz L ok.dst (.int .u8 a)=some L1) (r:HSteps P ops sz h L1 ks L'):HSteps P ops sz h L (k :: ks) L' :=
 .cons (h':=h) hok hg (by rw [hm];simp only [zD,qB hx,zF,hs,hd',wrap_u8 hb]) hd r
theorem HSteps.run {L L':Ks} {ks:List Nat} (s:HSteps P ops sz h L ks L'):∀ {t:Tr Value},Kn t L→Kn (ks.foldl (yI P ops sz h) t) L':=by
 induction s with
 | nil=>intro t hk;exact hk
 | @cons _ _ _ k _ _ _ _ hok hg ha hd r ih =>
  intro t hk;obtain ⟨t1,e1,k1⟩:=Xn hk hd;rw [List.foldl_cons];have:yI P ops sz h t k=t1:=by
   unfold yI;simp only [hok,jP hk.tle hg,xM hk.tle ha,e1]
  rw [this];exact ih k1
theorem HintOk.many {L L':Ks} {j:Nat} {ks:List Nat} {o:Oper} {x:Option Nat} {c:List Value} {e:TypeId} (hp:Wi ops (masks ops.toList []) j=ks) (ho:ops[j]? = some o) (s:HSteps P ops sz h L ks L') (hf:jv P L'.tree o.op=some (x,c,e)):HintOk P ops sz L h j c e:=fun t hk=>by
 unfold Jk;rw [ho,hp];simp only [Z9 (s.run hk).tle hf]
end
def qfh (L:List (Value×List Int)) (h:AH) (fp:Fp):Prop:=∀ x∈L,(Rs.rd x.1 1 eI x.2).ok h fp
abbrev qeh (L:List (Value×List Int)):Rs:=.any (qfh L)
class InP (L:List (Value×List Int)) (v:Value) (l:outParam (List Int)):Prop where
 mem:(v,l)∈L
theorem qfI {h:AH} {fp:Fp} {v:Value} {l:List Int} (q:(Rs.rd v 1 eI l).ok h fp):zo h v 1 eI l:=by
 rcases q with ⟨q1,q2⟩|⟨b,o,cap,cc,e,s,r,q1,q2,q3,q4⟩
 ·exact .inl ⟨q1,by rw [q2];rfl,by rw [q2];rfl⟩
 ·exact .inr ⟨b,o,cap,cc,e,s,r,q1,q2,q4⟩
instance HasR.pool {L:List (Value×List Int)} {v:Value} {l:List Int} {rs:List Rs} [i:InP L v l]:HasR (qeh L :: rs) v Int 1 eI l:=⟨fun S=>by
 obtain ⟨fp,k⟩:=S.anyP .here;exact qfI (k _ i.mem)⟩
def cvW (b9 b2 b5 b4 b10:Nat):Value:=.func (.func 90) #[] #[.pointer (some ⟨b9,0,none⟩),.pointer (some ⟨b2,0,none⟩),.pointer (some ⟨b5,0,none⟩),.pointer (some ⟨b4,0,none⟩),.pointer (some ⟨b10,0,none⟩)]
abbrev rtR (v:PbV) (b9 b2 b5 b4 b10:Nat) (vs:Value) (stops:List Int) (L:List (Value×List Int)) (vw:Value) (al:Int):List Rs :=
 [qeh L,.blk b4 [vw] 25,.blk b5 [.int .i64 al] 3,.sl vs 3 1 eI stops,.blk b9 [vs] 25,.blk b2 v.cs 28,.blk b10 [cvW b9 b2 b5 b4 b10] 133]
theorem qgz {p:Pb} (hv:ValidL p.tabs):∀ a b,a<(p.tabs.length:Int)→b<(p.tabs.length:Int)→0≤ZJ p.tabs a b∧ZJ p.tabs a b≤2000:=fun a b ha hb=>PY hv ha hb
theorem GY {p:Pb} (hv:ValidL p.tabs) {l:List Int} (h:∀ t∈l,t<(p.tabs.length:Int)):0≤tour (ZJ p.tabs) l∧tour (ZJ p.tabs) l≤2000*l.length+2000:=by
 obtain ⟨h1,h2,h3⟩:=qdC (qgz hv) (by omega) l h;have:=PY hv h3 (show (-1:Int)<p.tabs.length by omega);rw [qdd];omega
noncomputable def qhc (p:Pb) (q:List Int):GG:=(qfp (srv (jM p q)) (srv (jM p q)).length []).foldl (qew (tour (ZJ p.tabs))) ([],-1)
theorem PartOk.ql {p:Pb} {q:List Int} (hp:PO p) (h:PartOk p q):q.length≤64:=by
 have:=h.len;have:p.us.length≤64:=hp.rl.l64;omega
theorem PartOk.qm {p:Pb} {q:List Int} (hl:p.tabs.length≤1000) (h:PartOk p q):∀ x∈q,x≤9223372036854775807:=fun x hx=>by
 have h1:=h.rng x hx;have h2:=jg p.tabs p.tabs.length;omega
theorem qbD {p:Pb} {q:List Int}:∀ t∈srv (jM p q),0≤t∧t<p.tabs.length:=fun t ht=>by
 obtain ⟨k,h1,rfl,-⟩:=qdl.1 ht;rw [ZR] at h1;omega
structure Chg (h h':AH) (b:Nat) (o:jV):Prop where
 at_:h'.get b=some o
 old:∀ j,j≠b→j<h.next→h'.get j=h.get j
 next:h.next≤h'.next
 wf:WfH h'
theorem Chg.trans {h h' h'':AH} {b:Nat} {o o':jV} (c:Chg h h' b o) (d:Chg h' h'' b o'):Chg h h'' b o' :=
 ⟨d.at_,fun j hj hn=>(d.old j hj (zE4 hn c.next)).trans (c.old j hj hn),zD0 c.next d.next,d.wf⟩
theorem pK {c:List Value} {o:Nat} (h:o≤c.length):splice c o []=c:=by simp [splice]
section
variable {P:Program} {X:Extern} {sz:Nat} {L L':Ks} {h:AH} {ops:Array Oper} {os:List Oper} {o:Oper} {R:Ks→AH→Prop}
theorem rwa {x y:Operand} {ts tx e e2:TypeId} {zc new cc:List Value} {by_ b o' n cap m z:Nat} {slk:Option Nat} {u:Value} {d:Tmp} (hb:h.get b=some (.cells cc e2 slk false)) (wf:WfH h) (hr:Rd h u z m new)
 (w:∀ h',Chg h h' b (.cells (splice cc (o'+n*z) new) e2 slk false)→KO P X sz ops os (L.put d (.slice (some ⟨b,o',none⟩) (n+m) cap)) h' R)
 (ho:o.op = .call { callee:=.builtin .append,args:=#[x,y],argTypes:=#[ts,tx] }:=by exact rfl) (hg:qo ops L.tree o.guard=some true:=by exact rfl) (hx:kA L x=some (.slice (some ⟨b,o',none⟩) n cap):=by exact rfl) (hy:kA L y=some u:=by exact rfl)
 (hs:qK P ts=some e:=by exact rfl) (hz:qN P e=some zc:=by exact rfl) (hzl:zc.length=z:=by exact rfl) (hby:jK P e=some (by_+1):=by exact rfl) (hxs:P.underlying tx=some (.slice e):=by exact rfl)
 (hc:n+m≤cap:=by omega) (hcc:o'+cap*z≤cc.length:=by assumption) (h1:new.all one? = true:=by assumption) (hsz:(m+1)*(by_+1)≤140737488355328:=by omega) (hdst:o.dst=some d:=by exact rfl) (hds:Nat.blt d sz=true:=by exact rfl):KO P X sz ops (o :: os) L h R:=by
 subst hzl;have hlen:=hr.length;have hfit:o'+n*zc.length+new.length≤cc.length:=by
  rw [hlen,zF7,← zE1];exact zD0 (Nat.add_le_add_left (zD3 _ hc) _) hcc
 have k2:Nat.beq new.length (m*zc.length)=true:=by rw [hlen];simp
 have hsrc:QL zc.length u h=some (m,new):=hr.source;have go:∀ h',zC P [ts,tx] (.slice (some ⟨b,o',none⟩) n cap) u h=some (.slice (some ⟨b,o',none⟩) (n+m) cap,h')→Chg h h' b (.cells (splice cc (o'+n*zc.length) new) e2 slk false)→KO P X sz ops (o :: os) L h R:=fun h' q1 q2=>by
  refine qW (v:=.slice (some ⟨b,o',none⟩) (n+m) cap) (h':=h') hg ?_ (by simp only [qE,hdst,hds]) (w h' q2);rw [ho];simp [zD,qB hx,qB hy,zY,zO,q1,ji]
 cases m with
 | zero =>
  have hn:new=[]:=zE9.1 (by omega);subst hn;refine go h ?_ ⟨by rw [pK (by simp at hfit;omega)];exact hb,fun _ _ _=>rfl,zA3 _,wf⟩;simp only [zC,hs,hxs,hz,hby,hsrc,zB3 hsz,h1,k2,zF9,hb,zB3 (show n≤cap from hc),Nat.add_zero]
 | succ m =>
  refine go (h.put b (.cells (splice cc (o'+n*zc.length) new) e2 slk false)) ?_ ⟨by rw [AH.get_put,if_pos rfl],fun j hj _=>by rw [AH.get_put,if_neg hj],zA3 _,wf.put (wf.lt hb) _⟩;simp only [zC,hs,hxs,hz,hby,hsrc,zB3 hsz,h1,k2,zF9,hb,zB3 hc,putCells,zB3 hfit]
end
theorem G8 {c xs:List Value} {o n:Nat} (hl:xs.length=n) (hfit:o+n≤c.length) (hg:∀ j,j<n→c[o+j]? = xs[j]?):qX c o n=some xs:=by
 rw [Q8 hfit];congr 1
 apply List.ext_getElem?
 intro j;rw [zC7];split
 ·rw [zC3];exact hg j (by assumption)
 ·rw [zG5 (by omega)]
def Bst (d:Int→Int→Int) (L J:List Int) (i k best:Nat) (least:Int):Prop :=
 (i=0∧k=0∧best=0∧least = -1)∨(best<L.length∧0≤least∧(∃ u∈J,least=d (L.getD best default) u)∧(∀ j,j<i→∀ y∈J,least≤d (L.getD j default) y)∧∀ m,m<k→least≤d (L.getD i default) (J.getD m default))
theorem Bst.new {d:Int→Int→Int} (m:Met d) {L J:List Int} {i k best:Nat} {least:Int} (h:Bst d L J i k best least) (hi:i<L.length) (hk:k<J.length) (hx:least<0∨d (L.getD i default) (J.getD k default)<least) :
 Bst d L J i (k+1) i (d (L.getD i default) (J.getD k default)):=by
 refine .inr ⟨hi,m.nn _ _,⟨_,qJ hk,rfl⟩,?_,?_⟩
 ·rcases h with ⟨rfl,-,-,-⟩|⟨-,h2,-,h4,-⟩
  ·exact fun j hj=>absurd hj (zB7 _)
  ·exact fun j hj y hy=>by have:=h4 j hj y hy;omega
 ·rcases h with ⟨-,rfl,-,-⟩|⟨-,h2,-,-,h5⟩
  ·intro j hj;rw [show j=0 by omega];exact Int.le_refl _
  ·exact Zf (fun j hj=>by have:=h5 j hj;omega) (Int.le_refl _)
theorem Bst.old {d:Int→Int→Int} {L J:List Int} {i k best:Nat} {least:Int} (h:Bst d L J i k best least) (hx:¬ least<0) (hy:¬ d (L.getD i default) (J.getD k default)<least):Bst d L J i (k+1) best least:=by
 rcases h with ⟨-,-,-,rfl⟩|⟨h1,h2,h3,h4,h5⟩
 ·exact absurd (show (-1:Int)<0 by omega) hx
 ·exact .inr ⟨h1,h2,h3,h4,Zf h5 (by omega)⟩
theorem Bst.row {d:Int→Int→Int} {L J:List Int} {i best:Nat} {least:Int} (h:Bst d L J i J.length best least) (hJ:J≠[]):Bst d L J (i+1) 0 best least:=by
 rcases h with ⟨-,h,-,-⟩|⟨h1,h2,h3,h4,h5⟩
 ·exact absurd (zE9.1 h) hJ
 ·refine .inr ⟨h1,h2,h3,Zf h4 fun y hy=>?_,fun m hm=>absurd hm (zB7 _)⟩;obtain ⟨j,hj,rfl⟩:=qI.1 hy;exact h5 j hj
theorem Bst.fin {d:Int→Int→Int} {L J:List Int} {best:Nat} {least:Int} (h:Bst d L J L.length 0 best least) (hL:0<L.length):best<L.length∧0≤least∧∃ u∈J,least=d (L.getD best default) u∧∀ x∈L,∀ y∈J,d (L.getD best default) u≤d x y:=by
 rcases h with ⟨h,-,-,-⟩|⟨h1,h2,⟨u,h3,h4⟩,h5,-⟩
 ·omega
 ·refine ⟨h1,h2,u,h3,h4,fun x hx y hy=>?_⟩;obtain ⟨j,hj,rfl⟩:=qI.1 hx;rw [← h4];exact h5 j hj y hy
end Go.Proofs.Xx
namespace Go.Proofs.Xx
def exch (l:List Int) (a b:Nat):List Int:=(l.set a (l.getD b default)).set b (l.getD a default)
theorem qa1 {l:List Int} {a b:Nat} (ha:a<l.length) (hb:b<l.length):(exch l a b).Perm l:=by
 have h:=Array.swap_perm (xs:=l.toArray) (i:=a) (j:=b) (by simpa using ha) (by simpa using hb);have e:(l.toArray.swap a b (by simpa using ha) (by simpa using hb)).toList=exch l a b:=by
  unfold exch;rw [Array.toList_swap];simp [zA2,ha,hb]
 rw [← e];exact (Array.perm_iff_toList_perm.1 h)
theorem qbf {h0:AH} (w:WfH h0) (pv:PbV) (p:Pb) (H:PbOk h0 pv p) (vq:Value) (q:List Int) (rq:zo h0 vq 1 eI q) (hq:q.length≤9223372036854775807) :
 Fn Tryz.prog Xh 15 [pv.val,vq] h0 (fun u h'=>((¬ (PO p∧PartOk p q)∧u = .slice none 0 0∧Hs h0 h' [])∨(PO p∧PartOk p q∧Hs h0 h' [.sl u 3 1 eI (jM p q)]))):=by
 have S:=Hs.start w;have hl:=H.tab.len;unfold PbV.val;refine qM (by first|rfl) Tryz.func15 rfl rfl ?_;all_goals (repeat' (first|refine qg ?_|(refine qc 0 ?_;(refine bx S ?_;clear S;intro b h S);refine mv ?_;refine qf ?_)))
 obtain ⟨b2,hnm⟩:∃ x,x=b:=⟨_,rfl⟩;subst hnm;all_goals (repeat' (first|(refine qc 1 ?_;refine lB S rfl rfl ?_;refine mv ?_)))
 (refine qx rfl rfl rfl rfl rfl ((qav S.wf pv p (H.ext w S.ext) vq q (rq.ext w S.ext) hq).mono ?_);rintro _ h ⟨⟨rfl,hv⟩|⟨rfl,hv⟩,x⟩)<;>(replace S:=S.join0 x;clear x;refine vl ?_;refine qf ?_)
 ·obtain ⟨hp,hpq⟩:=hv;have hql:=hpq.ql hp;have hqm:=hpq.qm hl;all_goals (repeat' (first|refine qg ?_|refine qi rfl ?_|refine qj ?_|(refine qc 3 ?_;refine lB S rfl rfl ?_;refine mv ?_)))
  (refine qx rfl rfl rfl rfl rfl ((XJ S.wf pv p (H.ext w S.ext) vq q (rq.ext w S.ext) (by omega) hqm).mono ?_);rintro vn h x)<;>(replace S:=S.join1 x;clear x;refine mv ?_;refine qf ?_)
  all_goals (repeat' (fail))
  refine qw ⟨_,rfl,?_⟩;exact .inr ⟨hp,hpq,S.only .here⟩
 ·all_goals (repeat' (first|refine qg ?_|refine qi rfl ?_|(refine qc 2 ?_;refine mv ?_;refine qf ?_)))
  refine qw ⟨_,rfl,?_⟩;exact .inl ⟨hv,rfl,S.drop⟩
theorem Pj {h0:AH} (w:WfH h0) (vt:Value) (pl:List Int) (rp:zo h0 vt 1 eI pl) (hll:pl.length≤1000) :
 Fn Tryz.prog Xh 14 [vt] h0 (fun u h'=>Hs h0 h' [.sl u 3 1 eI (srv pl)]):=by
 have S:=Hs.start w;refine qM (by first|rfl) Tryz.func14 rfl rfl ?_;all_goals (repeat' (first|refine qg ?_|(refine qc 0 ?_;refine mv ?_;refine qf ?_)))
 have S:=S.nilS (e:=3) (z:=1) (enc:=eI);all_goals (repeat' (first|refine qg ?_|refine qp ?_|(refine qc 1 ?_;refine mv ?_;refine qf ?_)|(refine qc 2 ?_;refine mv ?_;refine jZ S ?_;refine mv ?_;refine qf ?_)))
 refine qL (σ:=Nat×Value) (fun (i,vo) h'=>Hs h0 h' [.sl vo 3 1 eI (Zb pl i)]∧i≤pl.length) (fun (i,vo)=>pl.length - i) (fun (i,vo)=>[(3,vo),(6,vt),(7,.int .i64 pl.length),(8,.int .i64 i)]) (0,.slice none 0 0) qy ?_ ?_
 ·exact ⟨S,zB0 _⟩
 clear S;rintro ⟨i,vo⟩ h ⟨S,g1⟩;have hsl:=(JR (pl:=pl) (n:=i)).2;all_goals (repeat' (first|refine qg ?_|refine qi rfl ?_|refine qj ?_|refine qA ?_|refine qp ?_|(refine qc 3 ?_;(first|(refine cS ?_ ?_<;>intro hc))<;>(refine qf ?_))|(refine qc 4 ?_;refine mv ?_;refine QE S ?_;refine Qk S ?_;refine mv ?_;refine mv ?_;refine qf ?_)))
 ·obtain ⟨x,hx⟩:∃ x,pl.getD (i:Int).toNat default=x:=⟨_,rfl⟩
  rw [hx];replace hx:pl.getD i default=x:=hx;all_goals (repeat' (first|refine qi rfl ?_|refine qj ?_|(refine qc 5 ?_;refine mv ?_;(first|(refine cS ?_ ?_<;>intro hc))<;>(refine qf ?_))))
  ·have key:Zb pl (i+1)=Zb pl i ++ [(i:Int)]:=by rw [Zb,if_pos (by omega)]
   all_goals (repeat' (first|(refine qc 6 ?_;refine mv ?_;refine mv ?_;(refine one 1 S ?_;clear S;intro u h S))))
   refine app (y0:=(i:Int)) S rfl rfl ?_;clear S;intro v h S;refine mv ?_;refine qf ?_;rw [← key] at S;all_goals (repeat' (first|(refine qc 7 ?_;refine ad ?_;refine mv ?_;refine qf ?_)))
   refine ⟨(i+1,v),?_,?_,qy⟩
   ·show pl.length - (i+1)<pl.length - i;omega
   ·exact ⟨S,by omega⟩
  ·have key:Zb pl (i+1)=Zb pl i:=by rw [Zb,if_neg (by omega)]
   all_goals (repeat' (first|(refine qc 7 ?_;refine ad ?_;refine mv ?_;refine qf ?_)))
   rw [← key] at S;refine ⟨(i+1,vo),?_,?_,qy⟩
   ·show pl.length - (i+1)<pl.length - i;omega
   ·exact ⟨S,by omega⟩
 ·all_goals (repeat' (first|(refine qc 8 ?_;refine mv ?_;refine mv ?_;refine qf ?_)))
  refine qw ⟨_,rfl,?_⟩;obtain rfl:i=pl.length:=by omega
  exact S
def e82 (x:Nat×Nat):List Value:=[.int .u8 x.1,.int .u8 x.2]
theorem wZ {h0:AH} (w:WfH h0) (vw:Value) (l:List Int) (rw_:zo h0 vw 1 eI l) (hl:l.length≤1000) (vsw:Value) (sw:List (Nat×Nat)) (rs:zo h0 vsw 2 e82 sw) (cs:zV vsw) (hs:sw.length≤9223372036854775807) (hb:∀ i,i<sw.length→(sw.getD i default).1<256∧(sw.getD i default).2<256) :
 Fn Tryz.prog Xh 13 [vw,vsw] h0 (fun u h'=>∃ l':List Int,l'.Perm l∧Hs h0 h' [.sl u 3 1 eI l']):=by
 have S:=Hs.start w;refine qM (by first|rfl) Tryz.func13 rfl rfl ?_;all_goals (repeat' (first|refine qg ?_|(refine qc 0 ?_;refine mv ?_;refine qf ?_)|(refine qc 1 ?_;refine mv ?_)))
 (refine qx rfl rfl rfl rfl rfl ((qa8 S.wf vw l (rw_.ext w S.ext) (by omega)).mono ?_);rintro vo h x)<;>(replace S:=S.join1 x;clear x;obtain ⟨so,rfl⟩:=S.sV vo;refine mv ?_;refine qf ?_)
 obtain ⟨n,hn,hn1,hn2⟩:∃ n:Nat,min (sw.length:Int) 12=n∧n≤sw.length∧n≤12:=⟨min sw.length 12,by omega,by omega,by omega⟩
 all_goals (repeat' (first|refine qg ?_|(refine qc 2 ?_;refine mv ?_;refine mv ?_;refine jZ S ?_;refine mn ?_)))
 rw [hn];refine su0 0 n S w rs cs ?_;intro vm hrm hcm;((refine jZ S ?_);refine mv ?_;refine qf ?_);have hml:((sw.drop 0).take (n - 0)).length=n:=by simp;omega
 have hmv:∀ i,i<n→(((sw.drop 0).take (n - 0)).getD i default).1<256∧(((sw.drop 0).take (n - 0)).getD i default).2<256:=fun i q=>by
  rw [List.drop_zero,Nat.sub_zero,getD_take (by omega)];exact hb i (by omega)
 generalize (sw.drop 0).take (n - 0)=mre at hrm hml hmv ⊢
 all_goals (repeat' (refine qp ?_))
 refine qL (σ:=Nat×List Int) (fun (i,m) h'=>Hs h0 h' [.sl so.val 3 1 eI m]∧i≤n∧m.Perm l) (fun (i,m)=>n - i) (fun (i,m)=>[(5,so.val),(17,vm),(18,.int .i64 n),(19,.int .i64 i)]) (0,l) qy ?_ ?_
 ·exact ⟨S,zB0 _,.refl _⟩
 clear S;rintro ⟨i,m⟩ h ⟨S,g1,g2⟩;have hll:=g2.length_eq;all_goals (repeat' (first|refine qg ?_|refine qi rfl ?_|refine qj ?_|refine qA ?_|refine qp ?_|(refine qc 3 ?_;(first|(refine cS ?_ ?_<;>intro hc))<;>(refine qf ?_))|(refine qc 4 ?_;refine QE S ?_;refine Qk S ?_;(refine al S ?_;clear S;intro b h S);(first|(refine sB S rfl rfl ?_;clear S;intro h S));refine qf ?_)))
 ·have hi:i<n:=by omega
  have hv:=hmv (i:Int).toNat (by omega);obtain ⟨x,hx⟩:∃ x,mre.getD (i:Int).toNat default=x:=⟨_,rfl⟩
  rw [hx] at hv S;obtain ⟨x1,x2⟩:=x;simp only at hv;obtain ⟨b7,hnm⟩:∃ x,x=b:=⟨_,rfl⟩;subst hnm;replace S:Hs h0 h [.blk b7 [.int .u8 x1,.int .u8 x2] 93,.sl so.val 3 1 eI m]:=S;all_goals (repeat' (first|refine qg ?_|(refine qc 5 ?_;refine mv ?_;refine yc S rfl rfl ?_;refine mv ?_;refine qf ?_)))
  all_goals (repeat' (first|refine qg ?_|refine qi rfl ?_|refine qj ?_|(refine qc 6 ?_;refine mv ?_;(first|(refine cS ?_ ?_<;>intro hc))<;>(refine qf ?_))))
  ·have e1:=Int.emod_nonneg (x1:Int) (show (m.length:Int)≠0 by omega);have e2:=Int.emod_lt_of_pos (x1:Int) (show (0:Int)<(m.length:Int) by omega);have e3:=Int.emod_nonneg (x2:Int) (show (m.length:Int)≠0 by omega);have e4:=Int.emod_lt_of_pos (x2:Int) (show (0:Int)<(m.length:Int) by omega);all_goals (repeat' (first|(refine zi 7 ?_;refine vl ?_;refine lB S rfl rfl ?_;refine cI ?_;refine mv ?_;refine rm ?_;refine vl ?_;refine lB S rfl rfl ?_;refine cI ?_;refine mv ?_;refine rm ?_;refine mv ?_;refine mv ?_;refine qf ?_)))
   obtain ⟨A,hA⟩:∃ A:Nat,(x1:Int) % (m.length:Int)=A:=⟨((x1:Int) % (m.length:Int)).toNat,by omega⟩
   obtain ⟨B,hB⟩:∃ B:Nat,(x2:Int) % (m.length:Int)=B:=⟨((x2:Int) % (m.length:Int)).toNat,by omega⟩
   rw [hA] at e1 e2 ⊢;rw [hB] at e3 e4 ⊢;have hAl:A<m.length:=by omega
   have hBl:B<m.length:=by omega
   all_goals (repeat' (first|(refine zi 8 ?_;(iterate 6 refine mv ?_);refine jI S rfl rfl ?_;refine jT S rfl rfl ?_;refine mv ?_;refine mv ?_;refine jI S rfl rfl ?_;refine jT S rfl rfl ?_;refine jI S rfl rfl ?_;(first|(refine sE2 S rfl rfl ?_;clear S;intro h S));refine jI S rfl rfl ?_;(first|(refine sE2 S rfl rfl ?_;clear S;intro h S));refine qf ?_)|(refine qc 9 ?_;refine ad ?_;refine mv ?_;refine qf ?_)))
   refine ⟨(i+1,exch m A B),?_,?_,qy⟩
   ·show n - (i+1)<n - i;omega
   ·exact ⟨S.tail,by omega,(qa1 hAl hBl).trans g2⟩
  ·all_goals (repeat' (first|(refine qc 9 ?_;refine ad ?_;refine mv ?_;refine qf ?_)))
   refine ⟨(i+1,m),?_,?_,qy⟩
   ·show n - (i+1)<n - i;omega
   ·exact ⟨S.tail,by omega,g2⟩
 ·all_goals (repeat' (first|(refine qc 10 ?_;refine mv ?_;refine mv ?_;refine qf ?_)))
  refine qw ⟨_,rfl,?_⟩;exact ⟨m,g2,S⟩
theorem PP {h0:AH} (w:WfH h0) (pv:PbV) (p:Pb) (H:PbOk h0 pv p) (hP:PO p) (vq:Value) (q:List Int) (rq:zo h0 vq 1 eI q) (hQ:PartOk p q) :
 Fn Tryz.prog Xh 15 [pv.val,vq] h0 (fun u h'=>Hs h0 h' [.sl u 3 1 eI (jM p q)]):=by
 have:=hQ.ql hP;refine (qbf w pv p H vq q rq (by omega)).mono ?_;rintro u h (⟨hn,-,-⟩|⟨-,-,x⟩)
 ·exact absurd ⟨hP,hQ⟩ hn
 ·exact x
end Go.Proofs.Xx
namespace Go.Proofs.Xx
open Go Go.RowKit
section
variable {H:Type} {enc:TypeId×Value→H} {P:Program} {W W':World}
theorem ZW {α β:Type} {f g:α→Option β}:∀ {l:List α} {r:List β},l.mapM f=some r→(∀ a b,a∈l→b∈r→f a=some b→g a=some b)→l.mapM g=some r:=by
 intro l;induction l with
 | nil=>intro r h _;simpa using h
 | cons a l ih =>
  intro r h hk;rw [List.mapM_cons] at h ⊢;cases hf:f a with
  | none=>rw [hf] at h;cases h
  | some b =>
   rw [hf] at h;cases hm:l.mapM f with
   | none=>rw [hm] at h;cases h
   | some r' =>
    rw [hm] at h;simp at h;subst h;rw [hk a b (by simp) (by simp) hf,ih hm fun x y hx hy=>hk x y (by simp [hx]) (by simp [hy])];rfl
theorem Px (hb:∀ k,k<W.heap.size→W'.heap[k]? = W.heap[k]?) {base n:Nat} {a:Addr} {cs:List Value} (h:W.cells? base a n=some cs):W'.cells? base a n=some cs:=by
 unfold World.cells? at h ⊢;split at h
 ·rename_i hba
  rw [if_pos hba];refine ZW h fun i v _ _ hv=>?_;have hlt:(a.add i).block<W.heap.size:=by
   rcases zA7 (a.add i).block W.heap.size with q|q
   ·exact q
   ·have:W.cell? (a.add i)=none:=by
     unfold World.cell?;rw [Array.getElem?_eq_none q]
    rw [this] at hv;cases hv
  rw [← hv];exact World.cell?_of_block (w:=W) (hb _ hlt)
 ·cases h
def yG (P:Program):List Field→Nat→Nat→Bool
 | [],at_,n=>Nat.beq at_ n
 | f :: r,at_,n=>Nat.beq f.offset at_ && yG P r (at_+P.cellsOf f.type) n
def QD (P:Program):Nat→TypeId→Bool
 | 0,_=>false
 | m+1,t=>match P.underlying t with
  | some .bool|some .string=>Nat.beq (P.cellsOf t) 1
  | some (.int _)=>Nat.beq (P.cellsOf t) 1
  | some (.slice e)=>Nat.beq (P.cellsOf t) 1 && (QD P m e && !Nat.beq (P.cellsOf e) 0)
  | some (.struct fs)=>fs.toList.all (fun f=>QD P m f.type) && yG P fs.toList 0 (P.cellsOf t)
  | some (.array n e)=>QD P m e && Nat.beq (P.cellsOf t) (n*P.cellsOf e)
  | _=>false
theorem qau (hb:∀ k,k<W.heap.size→W'.heap[k]? = W.heap[k]?) {base:Nat} {sp:Nat→Bool} {held:Bool}:∀ (fuel m:Nat) (t:TypeId) (cs:List Value) (x:DataW H×List MemPlace),QD P m t=true →
 DataW.trod enc P W base (fun _=>true) held fuel t cs=some x→(∀ p∈x.2,sp p.block=true)→DataW.trod enc P W' base sp held fuel t cs=some x:=by
 intro fuel;induction fuel with
 | zero=>intro m t cs x _ h _;cases h
 | succ fuel ih =>
  intro m t cs x hp h hsp;cases m with
  | zero=>cases hp
  | succ m =>
  unfold QD at hp;cases hu:P.underlying t with
  | none=>rw [hu] at hp;cases hp
  | some u =>
   rw [hu] at hp;cases u with
   | bool=>obtain ⟨b,rfl,rfl⟩:=DataW.trod_bool hu h;unfold DataW.trod;rw [hu]
   | int k =>
    obtain ⟨b,rfl,rfl,hwf⟩:=DataW.trod_int hu h;unfold DataW.trod;rw [hu];simp [hwf]
   | string =>
    obtain ⟨b,rfl,rfl,hs⟩:=DataW.trod_string hu h;unfold DataW.trod;rw [hu];simp [hs]
   | struct fs =>
    simp only [zA8,zC8] at hp;unfold DataW.trod at h ⊢;rw [hu] at h ⊢;simp only at h ⊢;split at h
    ·rename_i hc
     rw [if_pos hc];simp only [Option.map_eq_some_iff] at h ⊢;obtain ⟨xs,h1,rfl⟩:=h;refine ⟨xs,ZW h1 fun f y hf hy hq=>ih m _ _ _ (hp.1 f hf) hq fun p hp=>hsp p ?_,rfl⟩;simp only [zH0];exact ⟨y,hy,hp⟩
    ·cases h
   | array n e =>
    simp only [zA8] at hp;unfold DataW.trod at h ⊢;rw [hu] at h ⊢;simp only at h ⊢;split at h
    ·rename_i hc
     rw [if_pos hc];simp only [Option.map_eq_some_iff] at h ⊢;obtain ⟨xs,h1,rfl⟩:=h;refine ⟨xs,ZW h1 fun f y hf hy hq=>ih m _ _ _ hp.1 hq fun p hp=>hsp p ?_,rfl⟩;simp only [zH0];exact ⟨y,hy,hp⟩
    ·cases h
   | slice e =>
    simp only [zA8,zG3] at hp;have hz:P.cellsOf e≠0:=fun q=>by have:=hp.2.2;rw [q] at this;simp at this
    rcases DataW.trod_slice hu h with ⟨rfl,rfl⟩|⟨a,len,cap,-,-,-,-,rfl,-⟩
    ·unfold DataW.trod;rw [hu];rfl
    ·unfold DataW.trod at h ⊢;rw [hu] at h ⊢;simp only at h ⊢;split at h
     ·rename_i hc
      rw [if_pos hc];simp only [if_true,Option.map_eq_some_iff,Option.bind_eq_some_iff] at h ⊢;obtain ⟨elems,h1,rest,h2,rfl⟩:=h;have key:∀ i y,y∈elems ++ rest→(W.cells? base (a.add (i*P.cellsOf e)) (P.cellsOf e)).bind (DataW.trod enc P W base (fun _=>true) held fuel e)=some y →
       (W'.cells? base (a.add (i*P.cellsOf e)) (P.cellsOf e)).bind (DataW.trod enc P W' base sp held fuel e)=some y:=by
       intro i y hy hq;rw [Option.bind_eq_some_iff] at hq ⊢;obtain ⟨cs',q1,q2⟩:=hq;refine ⟨cs',Px hb q1,ih m _ _ _ hp.2.1 q2 fun p hp=>hsp p ?_⟩;simp only [zB8,zH0];exact .inr ⟨y,by simpa using hy,hp⟩
      refine ⟨elems,ZW h1 fun i y _ hy hq=>key i y (by simp [hy]) hq,rest,?_,rfl⟩;cases hs:sp a.block with
      | true =>
       simp only [if_true];exact ZW h2 fun i y _ hy hq=>key (len+i) y (by simp [hy]) hq
      | false =>
       simp only [zD9,if_false];cases rest with
       | nil=>rfl
       | cons y rest =>
        have hp':sp a.block=true:=by
         refine hsp (.cell a.block (a.off+0)) ?_;simp only [zB8];refine .inl ?_;unfold MemPlace.row;rw [zF1];exact ⟨0,zE3.2 (Nat.mul_pos (by simp only [zC4];omega) (by omega)),rfl⟩
        rw [hs] at hp';cases hp'
     ·cases h
   | _=>cases hp
theorem X7 (hb:∀ k,k<W.heap.size→W'.heap[k]? = W.heap[k]?) {base:Nat} {sp:Nat→Bool} {held:Bool}:∀ (ts:List TypeId) (vs:List Value) (ds:List (DataW H)) (ps:List MemPlace),ts.all (QD P 20)=true →
 DataW.TrodAll enc P W base (fun _=>true) held ts vs ds ps→(∀ p∈ps,sp p.block=true)→DataW.TrodAll enc P W' base sp held ts vs ds ps
 | [],[],[],ps,_,h,_=>h
 | t :: ts,v :: vs,d :: ds,ps,hp,h,hsp=>by
  simp only [List.all_cons,zA8] at hp;obtain ⟨p,q,⟨fuel,h1⟩,h2,rfl⟩:=h;exact ⟨p,q,⟨fuel,qau hb fuel 20 t _ _ hp.1 h1 fun x hx=>hsp x (by simp [hx])⟩,X7 hb ts vs ds q hp.2 h2 fun x hx=>hsp x (by simp [hx]),rfl⟩
 | [],[],_ :: _,_,_,h,_=>h.elim
 | [],_ :: _,_,_,_,h,_=>h.elim
 | _ :: _,[],_,_,_,h,_=>h.elim
 | _ :: _,_ :: _,[],_,_,h,_=>h.elim
end
end Go.Proofs.Xx
namespace Go.Proofs.Xx
open Go Go.RowKit
section
variable {P:Program}
theorem Rel.addRo [Glob] {B:Bs} {e:Emb} {h:AH} {w:World} (r:Rel B e h w) {k sh:Nat} {cc:Array Value} {el:TypeId} {fr:Nat×Nat} {c:List Value} (hkB:k<B.lo) (hk:w.heap[k]? = some (.cells cc el fr)) (hsz:sh+c.length≤cc.size)
 (hc:∀ i v,c[i]? = some v→∃ v',cc[sh+i]? = some v'∧VR (e.put h.next ⟨k,sh,0⟩) v v') :
 Rel B (e.put h.next ⟨k,sh,0⟩) (h.add (.cells c el none true)) w∧e.le (e.put h.next ⟨k,sh,0⟩):=by
 have hle:=r.le_put ⟨k,sh,0⟩;have hlt:k<w.heap.size:=(zB9.1 hk).1;refine ⟨⟨fun b M q=>?_,fun b hb=>?_,fun b M q=>?_,fun b M p q1 q2=>?_,fun b M p b' M' p' e1 e2 e3 e4 e5 e6 e7=>?_,fun b M p q1 q2 q3=>?_,r.base,r.keep,r.glob⟩,hle⟩
 ·by_cases hb:b=h.next
  ·subst hb;exact zG0 _
  ·rw [Emb.put_ne _ _ hb] at q;exact Nat.lt_succ_of_lt (r.dom b M q)
 ·have hb':h.next+1≤b:=hb
  rw [AH.get_add,if_neg (by omega)];exact r.wf b (by omega)
 ·by_cases hb:b=h.next
  ·subst hb;rw [Emb.put_same] at q;cases q;exact hlt
  ·rw [Emb.put_ne _ _ hb] at q;exact r.rng b M q
 ·rw [AH.get_add] at q2;by_cases hb:b=h.next
  ·subst hb;rw [Emb.put_same] at q1;cases q1;rw [if_pos rfl] at q2;cases q2
   exact ⟨cc,fr,hk,hsz,hc,(fun _=>⟨rfl,fun q=>by cases q⟩),(fun _ q=>by cases q),(fun q=>by cases q)⟩
  ·rw [Emb.put_ne _ _ hb] at q1;rw [if_neg hb] at q2;exact (r.obj b M p q1 q2).mono hle
 ·rw [AH.get_add] at e2 e4;by_cases hb':b'=h.next
  ·subst hb';rw [if_pos rfl] at e4;cases e4;cases e7
  ·rw [Emb.put_ne _ _ hb'] at e3;rw [if_neg hb'] at e4;by_cases hb:b=h.next
   ·subst hb;rw [Emb.put_same] at e1;cases e1
    rw [if_pos rfl] at e2;cases e2
    have:=r.own b' M' p' e3 e4 e7;simp only at e5;omega
   ·rw [Emb.put_ne _ _ hb] at e1;rw [if_neg hb] at e2;exact r.inj b M p b' M' p' e1 e2 e3 e4 e5 e6 e7
 ·rw [AH.get_add] at q2;by_cases hb:b=h.next
  ·subst hb;rw [if_pos rfl] at q2;cases q2;cases q3
  ·rw [Emb.put_ne _ _ hb] at q1;rw [if_neg hb] at q2;exact r.own b M p q1 q2 q3
def Bs.of (w:World):Bs:=⟨w.heap.size,w.heap⟩
def RoH (h:AH):Prop:=∀ b o,h.get b=some o→ZL o=false
structure WRel [Glob] (w:World) (e:Emb) (h:AH):Prop where
 rel:Rel (Bs.of w) e h w
 ro:RoH h
theorem WRel.empty [Glob] {w:World} (hg:Glob.ok w.heap.size w.heap):WRel w (fun _=>none) ⟨.e,0,0⟩ :=
 ⟨⟨fun b L q=>(by cases q),fun b _=>Tr.get_e b,fun b L q=>(by cases q),fun b L o q=>(by cases q),fun b L o b' L' o' q=>(by cases q),fun b L o q=>(by cases q),zA3 _,fun _ _=>rfl,hg⟩,
  fun b o q=>by rw [show (⟨.e,0,0⟩:AH).get b=none from Tr.get_e b] at q;cases q⟩
theorem WRel.wfH [Glob] {w:World} {e:Emb} {h:AH} (r:WRel w e h):WfH h:=r.rel.wf
theorem WRel.addRo [Glob] {e:Emb} {h:AH} {w:World} (r:WRel w e h) {k sh:Nat} {cc:Array Value} {el:TypeId} {fr:Nat×Nat} {c:List Value} (hk:w.heap[k]? = some (.cells cc el fr)) (hsz:sh+c.length≤cc.size)
 (hc:∀ i v,c[i]? = some v→∃ v',cc[sh+i]? = some v'∧VR e v v') :
 ∃ e',WRel w e' (h.add (.cells c el none true))∧e.le e'∧Ext h (h.add (.cells c el none true))∧e' h.next=some ⟨k,sh,0⟩:=by
 have hle:=r.rel.le_put ⟨k,sh,0⟩;obtain ⟨r1,r2⟩:=Rel.addRo (sh:=sh) (c:=c) r.rel (show k<w.heap.size from (zB9.1 hk).1) hk hsz (fun i v hi=>by obtain ⟨v',h1,h2⟩:=hc i v hi;exact ⟨v',h1,h2.mono hle⟩);refine ⟨_,⟨r1,fun b o q=>?_⟩,r2,(Ext.refl r.wfH).add _,Emb.put_same _ _ _⟩;rw [AH.get_add] at q;split at q
 ·cases q;rfl
 ·exact r.ro b o q
def AR (P:Program) (h:AH):Nat→TypeId→List Value→Prop
 | 0,_,_=>False
 | f+1,t,cs =>
  match P.underlying t,cs with
  | some .bool,[.bool _]=>True
  | some (.int k),[.int k' n]=>k'=k∧(Lit.int k n).wf=true
  | some .string,[.string s]=>s.size≤maxLen
  | some (.slice e),[v]=>∃ n c,Rd h v (P.cellsOf e) n c∧(n≤maxLen∧n*P.bytesOf e≤reachBytes)∧zV v∧∀ i,i<n→AR P h f e ((c.drop (i*P.cellsOf e)).take (P.cellsOf e))
  | some (.struct fs),cs=>cs.length=P.cellsOf t∧∀ fd∈fs.toList,AR P h f fd.type ((cs.drop fd.offset).take (P.cellsOf fd.type))
  | some (.array n e),cs=>cs.length=P.cellsOf t∧∀ i,i<n→AR P h f e ((cs.drop (i*P.cellsOf e)).take (P.cellsOf e))
  | _,_=>False
theorem AR.ext {h h':AH} (w:WfH h) (x:Ext h h'):∀ (f:Nat) (t:TypeId) (cs:List Value),AR P h f t cs→AR P h' f t cs
 | 0,_,_,q=>q
 | f+1,t,cs,q=>by
  unfold AR at q ⊢;split at q
  ·exact q
  ·exact q
  ·exact q
  ·obtain ⟨n,c,h1,h2,hc,h3⟩:=q;exact ⟨n,c,h1.ext w x,h2,hc,fun i hi=>AR.ext w x f _ _ (h3 i hi)⟩
  ·exact ⟨q.1,fun fd hf=>AR.ext w x f _ _ (q.2 fd hf)⟩
  ·exact ⟨q.1,fun i hi=>AR.ext w x f _ _ (q.2 i hi)⟩
  ·exact q
section
variable {H:Type} {enc:TypeId×Value→H}
def Light (P:Program) (t:TypeId) (d:DataW H):Prop:=∀ n∈DataW.weights P t d,n≤reachBytes
theorem Jv:∀ (ts:List TypeId) (ds:List (DataW H)) (j:Nat) (t:TypeId) (d:DataW H),ts[j]? = some t→ds[j]? = some d→∀ n∈DataW.weights P t d,n∈DataW.weightsEach P ts ds
 | [],_,_,_,_,q,_=>by simp at q
 | _ :: _,[],_,_,_,_,q=>by simp at q
 | t :: ts,d :: ds,0,_,_,q1,q2=>by
  simp only [List.getElem?_cons_zero,Option.some.injEq] at q1 q2;subst q1;subst q2;intro n hn;rw [DataW.weightsEach];exact List.mem_append_left _ hn
 | t :: ts,d :: ds,j+1,_,_,q1,q2=>by
  intro n hn;rw [DataW.weightsEach];exact List.mem_append_right _ (Jv ts ds j _ _ (by simpa using q1) (by simpa using q2) n hn)
theorem weightsAll_mem (e:TypeId):∀ (ds:List (DataW H)) (j:Nat) (d:DataW H),ds[j]? = some d→∀ n∈DataW.weights P e d,n∈DataW.weightsAll P e ds
 | [],_,_,q=>by simp at q
 | d :: ds,0,_,q=>by
  simp only [List.getElem?_cons_zero,Option.some.injEq] at q;subst q;intro n hn;rw [DataW.weightsAll];exact List.mem_append_left _ hn
 | d :: ds,j+1,_,q=>by
  intro n hn;rw [DataW.weightsAll];exact List.mem_append_right _ (weightsAll_mem e ds j _ (by simpa using q) n hn)
theorem Light.field {t:TypeId} {fs:Array Field} {ds:List (DataW H)} (hu:P.underlying t=some (.struct fs)) (hl:Light P t (.agg ds)) {i:Nat} {f:Field} {d:DataW H} (hf:fs[i]? = some f) (hd:ds[i]? = some d):Light P f.type d:=fun n hn=>by
 refine hl n ?_;rw [DataW.weights,hu];exact Jv _ _ i _ _ (by simp [hf]) hd n hn
theorem Light.item {t e:TypeId} {k:Nat} {ds:List (DataW H)} (hu:P.underlying t=some (.array k e)) (hl:Light P t (.agg ds)) {i:Nat} {d:DataW H} (hd:ds[i]? = some d):Light P e d:=fun n hn=>by
 refine hl n ?_;rw [DataW.weights,hu];exact weightsAll_mem e _ i _ hd n hn
theorem Light.elem {t e:TypeId} {ds rs:List (DataW H)} (hu:P.underlying t=some (.slice e)) (hl:Light P t (.slice ds rs)) {i:Nat} {d:DataW H} (hd:ds[i]? = some d):Light P e d:=fun n hn=>by
 refine hl n ?_;rw [DataW.weights,hu];exact List.mem_cons_of_mem _ (List.mem_append_left _ (weightsAll_mem e _ i _ hd n hn))
theorem Light.slice {t e:TypeId} {ds rs:List (DataW H)} (hu:P.underlying t=some (.slice e)) (hl:Light P t (.slice ds rs)):ds.length*P.bytesOf e≤reachBytes:=by
 have h1:=hl ((ds.length+rs.length)*P.bytesOf e) (by rw [DataW.weights,hu];exact List.mem_cons_self);exact zD0 (zD3 _ (Nat.le_add_right _ _)) h1
theorem gp:∀ (fs:List Field) (a n:Nat),yG P fs a n=true→a≤n
 | [],a,n,h=>by have:=zA6 h;omega
 | f :: r,a,n,h=>by
  simp only [yG,zA8] at h;have:=gp r _ n h.2;omega
def qcW [Glob] (enc:TypeId×Value→H) (P:Program) (w:World) (base:Nat) (sp:Nat→Bool) (held:Bool) (n:Nat) (t:TypeId) (cs:List Value):Prop:=∀ e h,WRel w e h→∃ e' h' r,WRel w e' h'∧e.le e'∧Ext h h'∧VRs e' r cs∧AR P h' n t r
theorem VO [Glob] {w:World} {base n:Nat} {sp:Nat→Bool} {held:Bool} {cs:List Value}:∀ (fs:List Field) (a:Nat),yG P fs a cs.length=true →
 (∀ fd∈fs,qcW enc P w base sp held n fd.type ((cs.drop fd.offset).take (P.cellsOf fd.type)))→∀ e h,WRel w e h →
 ∃ e' h' r,WRel w e' h'∧e.le e'∧Ext h h'∧VRs e' r (cs.drop a)∧∀ fd∈fs,a≤fd.offset∧AR P h' n fd.type ((r.drop (fd.offset - a)).take (P.cellsOf fd.type))
 | [],a,ht,_,e,h,r=>by
  have:=zA6 ht;exact ⟨e,h,[],r,e.le_refl,Ext.refl r.wfH,by rw [this,List.drop_length];exact .nil,fun fd q=>by cases q⟩
 | f :: fs,a,ht,hk,e,h,r=>by
  simp only [yG,zA8] at ht;have hoff:=zA6 ht.1;have hle:=gp fs _ _ ht.2;obtain ⟨e1,h1,c1,r1,l1,x1,v1,a1⟩:=hk f (by simp) e h r;obtain ⟨e2,h2,c2,r2,l2,x2,v2,a2⟩:=VO fs _ ht.2 (fun fd q=>hk fd (by simp [q])) e1 h1 r1;have hc1:c1.length=P.cellsOf f.type:=by
   have:=v1.length;rw [zA9,zB4,hoff] at this;omega
  refine ⟨e2,h2,c1 ++ c2,r2,Emb.le_trans l1 l2,x1.trans x2,?_,?_⟩
  ·have:=(v1.mono l2).append v2;rw [hoff,← List.drop_drop,zH1] at this;exact this
  ·intro fd q;rcases zE8.1 q with rfl|q
   ·refine ⟨by omega,?_⟩;rw [hoff,zG6,List.drop_zero,List.take_append_of_le_length (by omega),zF8 (by omega)];exact a1.ext r1.wfH x2 _ _ _
   ·obtain ⟨q1,q2⟩:=a2 fd q;refine ⟨by omega,?_⟩;rw [show fd.offset - a=c1.length+(fd.offset - (a+P.cellsOf f.type)) by omega,← List.drop_drop,List.drop_left];exact q2
theorem xA [Glob] {w:World} {base n:Nat} {sp:Nat→Bool} {held:Bool} {ty:TypeId} {z:Nat} {cs:List Value}:∀ (k:Nat),k*z≤cs.length →
 (∀ i,i<k→qcW enc P w base sp held n ty ((cs.drop (i*z)).take z))→∀ e h,WRel w e h →
 ∃ e' h' r,WRel w e' h'∧e.le e'∧Ext h h'∧VRs e' r (cs.take (k*z))∧∀ i,i<k→AR P h' n ty ((r.drop (i*z)).take z)
 | 0,_,_,e,h,r=>⟨e,h,[],r,e.le_refl,Ext.refl r.wfH,by simp;exact .nil,fun i q=>by omega⟩
 | k+1,hk,ht,e,h,r=>by
  rw [zE1,Nat.one_mul] at hk;obtain ⟨e1,h1,c1,r1,l1,x1,v1,a1⟩:=xA k (by omega) (fun i q=>ht i (by omega)) e h r;obtain ⟨e2,h2,c2,r2,l2,x2,v2,a2⟩:=ht k (by omega) e1 h1 r1;have hc1:c1.length=k*z:=by
   have:=v1.length;rw [zA9] at this;omega
  have hc2:c2.length=z:=by
   have:=v2.length;rw [zA9,zB4] at this;omega
  refine ⟨e2,h2,c1 ++ c2,r2,Emb.le_trans l1 l2,x1.trans x2,?_,fun i hi=>?_⟩
  ·have:=(v1.mono l2).append v2;rw [zE1,Nat.one_mul,List.take_add];exact this
  ·by_cases hik:i<k
   ·have:(i+1)*z≤k*z:=zD3 z hik;rw [zE1,Nat.one_mul] at this;rw [List.drop_append_of_le_length (by omega),List.take_append_of_le_length (by rw [zB4];omega)];exact (a1 i hik).ext r1.wfH x2 _ _ _
   ·obtain rfl:i=k:=by omega
    rw [← hc1,List.drop_left,zF8 (by omega)];exact a2
theorem embed [Glob] {w:World} {base:Nat} {sp:Nat→Bool} (hsp:∀ b,sp b=true) {held:Bool} (hw:∃ (k:Nat) (cc:Array Value) (el:TypeId) (fr:Nat×Nat),w.heap[k]? = some (.cells cc el fr)):∀ (n m:Nat) (t:TypeId) (cs:List Value) (x:DataW H×List MemPlace),QD P m t=true →
 DataW.trod enc P w base sp held n t cs=some x→Light P t x.1→qcW enc P w base sp held n t cs
 | 0,_,_,_,_,_,h,_=>by simp [DataW.trod] at h
 | _+1,0,_,_,_,h,_,_=>by cases h
 | n+1,m+1,t,cs,x,hp,h,hlt=>by
  intro e h0 r;unfold QD at hp;cases hu:P.underlying t with
  | none=>rw [hu] at hp;cases hp
  | some u =>
   rw [hu] at hp;cases u with
   | bool =>
    obtain ⟨b,rfl,-⟩:=DataW.trod_bool hu h;exact ⟨e,h0,[.bool b],r,e.le_refl,Ext.refl r.wfH,.one (.bool b),by unfold AR;rw [hu];trivial⟩
   | int k =>
    obtain ⟨b,rfl,-,hwf⟩:=DataW.trod_int hu h;exact ⟨e,h0,[.int k b],r,e.le_refl,Ext.refl r.wfH,.one (.int k b),by unfold AR;rw [hu];exact ⟨rfl,hwf⟩⟩
   | string =>
    obtain ⟨s,rfl,-,hs⟩:=DataW.trod_string hu h;exact ⟨e,h0,[.string s],r,e.le_refl,Ext.refl r.wfH,.one (.string s),by unfold AR;rw [hu];exact hs⟩
   | struct fs =>
    simp only [zA8,zC8] at hp;obtain ⟨xs,n',hn,hxe,hlen,hxl,hf⟩:=DataW.trod_struct hu h;rw [hxe] at hlt;obtain rfl:n'=n:=by omega
    obtain ⟨e1,h1,c1,r1,l1,x1,v1,a1⟩:=VO fs.toList 0 (by rw [hlen];exact hp.2) (fun fd hfd=>by
     obtain ⟨i,hi,rfl⟩:=List.getElem_of_mem hfd;have hg:fs[i]? = some fs.toList[i]:=by rw [← zC1];exact zA4 hi
     have h2:=hf i _ hg;have hix:i<xs.length:=by rw [hxl];simpa using hi
     rw [zA4 hix] at h2;exact embed hsp hw n' m _ _ _ (hp.1 _ (List.getElem_mem hi)) h2 (hlt.field hu hg (by rw [zH8,zA4 hix];rfl))) e h0 r
    refine ⟨e1,h1,c1,r1,l1,x1,by simpa using v1,?_⟩;unfold AR;rw [hu];have hl1:=v1.length;simp only [List.drop_zero] at hl1;exact ⟨by omega,fun fd hfd=>by have:=(a1 fd hfd).2;simpa using this⟩
   | array k el =>
    simp only [zA8] at hp;have hsz:=zA6 hp.2;obtain ⟨xs,n',hn,hxe,hlen,hxl,hf⟩:=DataW.trod_array hu h;rw [hxe] at hlt;obtain rfl:n'=n:=by omega
    obtain ⟨e1,h1,c1,r1,l1,x1,v1,a1⟩:=xA (z:=P.cellsOf el) (ty:=el) (cs:=cs) k (by omega) (fun i hi=>by
     have h2:=hf i hi;have hix:i<xs.length:=by omega
     rw [zA4 hix] at h2;exact embed hsp hw n' m _ _ _ hp.1 h2 (hlt.item hu (by rw [zH8,zA4 hix];rfl))) e h0 r
    rw [zF8 (by omega)] at v1;refine ⟨e1,h1,c1,r1,l1,x1,v1,?_⟩;unfold AR;rw [hu];exact ⟨by have:=v1.length;omega,a1⟩
   | slice el =>
    simp only [zA8,zG3] at hp;have hz:P.cellsOf el≠0:=fun q=>by have:=hp.2.2;rw [q] at this;simp at this
    rcases DataW.trod_slice hu h with ⟨rfl,-⟩|⟨a,len,cap,elems,rest,n',hn,rfl,hxe,hb,hl,hm,hlen,hel,hrest,-⟩
    ·refine ⟨e,h0,[.slice none 0 0],r,e.le_refl,Ext.refl r.wfH,.one .nilSlice,?_⟩;unfold AR;rw [hu];exact ⟨0,[],Rd.none_ _ _,⟨zB0 _,by rw [Nat.zero_mul];exact zB0 _⟩,zA3 _,fun i hi=>by omega⟩
    ·obtain rfl:n'=n:=by omega
     rw [hxe] at hlt;have hwt:len*P.bytesOf el≤reachBytes:=by have:=hlt.slice hu;rwa [zC5,hlen] at this
     obtain ⟨hr1,hr2⟩:=hrest (hsp _);rcases zF4 cap with hc0|hc0
     ·subst hc0;obtain rfl:len=0:=by omega
      obtain ⟨k,cc,el0,fr,hk⟩:=hw;obtain ⟨e1,r1,l1,x1,q1⟩:=r.addRo (sh:=0) (c:=[]) hk (by simp) (fun i v hi=>by simp at hi);refine ⟨e1,_,[.slice (some ⟨h0.next,0,none⟩) 0 0],r1,l1,x1,.one (.slice h0.next 0 a 0 0 ⟨k,0,0⟩ q1 (zA3 _) (.inr ⟨rfl,rfl⟩)),?_⟩;unfold AR;rw [hu];exact ⟨0,[],.inr ⟨h0.next,0,0,[],el0,none,true,rfl,by rw [AH.get_add,if_pos rfl],by simp [qX]⟩,⟨zB0 _,by rw [Nat.zero_mul];exact zB0 _⟩,zA3 _,fun i hi=>by omega⟩
     ·
      have hfirst:∃ cs0 y,w.cells? base a (P.cellsOf el)=some cs0∧DataW.trod enc P w base sp held n' el cs0=some y:=by
       rcases zF4 len with h0'|h0'
       ·have h2:=hr2 0 (by omega);have hix:0<rest.length:=by omega
        rw [zA4 hix,h0',Option.bind_eq_some_iff] at h2;obtain ⟨cs0,q1,q2⟩:=h2;exact ⟨cs0,_,by simpa [Addr.add] using q1,q2⟩
       ·have h2:=hel 0 h0';have hix:0<elems.length:=by omega
        rw [zA4 hix,Option.bind_eq_some_iff] at h2;obtain ⟨cs0,q1,q2⟩:=h2;exact ⟨cs0,_,by simpa [Addr.add] using q1,q2⟩
      obtain ⟨cs0,y0,g1,-⟩:=hfirst;obtain ⟨-,g2,g3⟩:=World.cells?_some g1;have g4:=g3 0 (by omega);rw [zA4 (by omega)] at g4;obtain ⟨ab,ao,asp⟩:=a;simp only [Addr.add,if_true] at g4;unfold World.cell? at g4;simp only at g4;cases hblk:w.heap[ab]? with
      | none=>rw [hblk] at g4;cases g4
      | some ob =>
       rw [hblk] at g4;cases ob with
       | cells cc el0 fr =>
        simp only at g4;cases asp with
        | some s=>simp at g4
        | none =>
         simp only [Option.isSome_none,zD9,if_false] at g4;have hao:ao<cc.size:=(zB9.1 g4).1;have hcell:∀ (i:Nat) (v:Value),w.cell? ⟨ab,ao+i,none⟩=some v↔cc[ao+i]? = some v:=fun i v=>by
          unfold World.cell?;simp [hblk]
         have helem:∀ i,i<len→∃ y,DataW.trod enc P w base sp held n' el (((cc.toList.drop ao).drop (i*P.cellsOf el)).take (P.cellsOf el))=some y∧Light P el y.1∧ao+i*P.cellsOf el+P.cellsOf el≤cc.size:=by
          intro i hi;have h2:=hel i hi;have hix:i<elems.length:=by omega
          rw [zA4 hix,Option.bind_eq_some_iff] at h2;obtain ⟨ci,q1,q2⟩:=h2;obtain ⟨-,q3,q4⟩:=World.cells?_some q1;have hadd:∀ j,((⟨ab,ao,none⟩:Addr).add (i*P.cellsOf el)).add j=⟨ab,ao+(i*P.cellsOf el+j),none⟩:=fun j=>by rw [je,je,zF7]
          have hlast:ao+i*P.cellsOf el+P.cellsOf el≤cc.size:=by
           have q5:=q4 (P.cellsOf el - 1) (by omega);rw [zA4 (by omega),hadd,hcell] at q5;have:=(zB9.1 q5).1;omega
          refine ⟨elems[i],?_,hlt.elem hu (i:=i) (by rw [zH8,zA4 hix];rfl),hlast⟩;rw [← q2];congr 1
          refine List.ext_getElem? fun j=>?_;by_cases hj:j<P.cellsOf el
          ·rw [zC7,if_pos hj,zC3,zC3];have q5:=q4 j hj;have e2:ci[j]? = some (ci[j]'(by omega)):=zA4 (by omega);rw [e2,hadd,hcell] at q5;rw [e2,zC1];exact q5
          ·rw [zG5 (by rw [zA9];omega),zG5 (by omega)]
         have hfit:ao+len*P.cellsOf el≤cc.size:=by
          rcases zF4 len with h0'|h0'
          ·rw [h0',Nat.zero_mul];omega
          ·obtain ⟨-,-,-,q⟩:=helem (len - 1) (by omega);have:(len - 1)*P.cellsOf el+P.cellsOf el=len*P.cellsOf el:=by
            rw [← Nat.succ_mul];congr 1;omega
           omega
         obtain ⟨e1,h1,c1,r1,l1,x1,v1,a1⟩:=xA (z:=P.cellsOf el) (ty:=el) (cs:=cc.toList.drop ao) len (by simp;omega) (fun i hi=>by
          obtain ⟨y,q1,q2,-⟩:=helem i hi;exact embed hsp hw n' m _ _ _ hp.2.1 q1 q2) e h0 r
         have hc1:c1.length=len*P.cellsOf el:=by
          have:=v1.length;rw [zA9,zB4,zC2] at this;omega
         obtain ⟨e2,r2,l2,x2,q2⟩:=r1.addRo (sh:=ao) (c:=c1) hblk (by omega) (fun i v hi=>by
          obtain ⟨v',q1,q2⟩:=v1.get i v hi;refine ⟨v',?_,q2⟩;rw [zC7,zC3,zC1] at q1;split at q1
          ·exact q1
          ·cases q1)
         refine ⟨e2,_,[.slice (some ⟨h1.next,0,none⟩) len cap],r2,Emb.le_trans l1 l2,x1.trans x2,.one (.slice h1.next 0 ⟨ab,ao,none⟩ len cap ⟨ab,ao,0⟩ q2 hl (.inl rfl)),?_⟩;unfold AR;rw [hu];refine ⟨len,c1,.inr ⟨h1.next,0,cap,c1,el0,none,true,rfl,by rw [AH.get_add,if_pos rfl],by rw [← hc1];exact zT c1⟩,⟨by omega,hwt⟩,hl,fun i hi=>(a1 i hi).ext r1.wfH x2 _ _ _⟩
       | _=>cases g4
   | _=>cases hp
end
end
end Go.Proofs.Xx
namespace Go.Proofs.Xx
open Go Go.RowKit Go.WideShapes Go.ChangeShapes
theorem VRs.one_inv {e:Emb} {r:List Value} {v:Value} (h:VRs e r [v]):∃ u,r=[u]∧VR e u v:=by
 cases h with
 | cons u v' s s' h1 h2=>cases h2;exact ⟨u,rfl,h1⟩
section
variable {P:Program}
def qcS (P:Program) (t:TypeId) (r:List Value):Value :=
 match P.underlying t with
 | some (.struct _)|some (.array _ _)=>.agg r.toArray
 | _=>r.headD .nilFunc
theorem qd3 {w:World} {rc:Reach} {b0 m:Nat} {t:TypeId} {v:Value} {e:Emb} {r:List Value} (hp:QD P m t=true) (hval:Value.okWide P w rc b0 t v) (hv:VRs e r v.cells.toList):VR e (qcS P t r) v:=by
 cases m with
 | zero=>cases hp
 | succ m =>
  unfold QD at hp;unfold qcS;unfold Value.okWide at hval;cases hu:P.underlying t with
  | none=>rw [hu] at hp;cases hp
  | some u =>
   rw [hu] at hp hval;cases u with
   | struct fs =>
    obtain ⟨cs,rfl,-⟩:=hval;exact VR.agg (f:=e) r cs.toList (by simpa [Value.cells] using hv)
   | array n el =>
    obtain ⟨cs,rfl,-⟩:=hval;exact VR.agg (f:=e) r cs.toList (by simpa [Value.cells] using hv)
   | bool =>
    have:∃ b,v = .bool b:=by cases v<;>simp_all [Cell.okWide,Cell.ok]
    obtain ⟨b,rfl⟩:=this;obtain ⟨x,rfl,h1⟩:=VRs.one_inv (show VRs e r [.bool b] from hv);exact h1
   | int k =>
    have:∃ k' b,v = .int k' b:=by cases v<;>simp_all [Cell.okWide,Cell.ok]
    obtain ⟨k',b,rfl⟩:=this;obtain ⟨x,rfl,h1⟩:=VRs.one_inv (show VRs e r [.int k' b] from hv);exact h1
   | string =>
    have:∃ b,v = .string b:=by cases v<;>simp_all [Cell.okWide,Cell.ok]
    obtain ⟨b,rfl⟩:=this;obtain ⟨x,rfl,h1⟩:=VRs.one_inv (show VRs e r [.string b] from hv);exact h1
   | slice el =>
    have:∃ a l c,v = .slice a l c:=by cases v<;>simp_all [Cell.okWide,Cell.ok]
    obtain ⟨a,l,c,rfl⟩:=this;obtain ⟨x,rfl,h1⟩:=VRs.one_inv (show VRs e r [.slice a l c] from hv);exact h1
   | _=>cases hp
def ArgsR (P:Program) (h:AH):List TypeId→List Value→Prop
 | [],[]=>True
 | t :: ts,u :: us=>(∃ n r,AR P h n t r∧u=qcS P t r)∧ArgsR P h ts us
 | _,_=>False
theorem ArgsR.ext {h h':AH} (w:WfH h) (x:Ext h h'):∀ (ts:List TypeId) (us:List Value),ArgsR P h ts us→ArgsR P h' ts us
 | [],[],q=>q
 | t :: ts,u :: us,q=>⟨let ⟨n,r,h1,h2⟩:=q.1;⟨n,r,h1.ext w x _ _ _,h2⟩,ArgsR.ext w x ts us q.2⟩
 | [],_ :: _,q=>q.elim
 | _ :: _,[],q=>q.elim
theorem ArgsR.cons_inv {h:AH} {t:TypeId} {ts:List TypeId} {us:List Value} (a:ArgsR P h (t :: ts) us):∃ n r us',us=qcS P t r :: us'∧AR P h n t r∧ArgsR P h ts us':=by
 cases us with
 | nil=>exact a.elim
 | cons u us =>
  obtain ⟨⟨n,r,h1,rfl⟩,h2⟩:=a;exact ⟨n,r,us,rfl,h1,h2⟩
theorem ArgsR.nil_inv {h:AH} {us:List Value} (a:ArgsR P h [] us):us=[]:=by
 cases us with
 | nil=>rfl
 | cons u us=>exact a.elim
section
variable {H:Type} {enc:TypeId×Value→H}
theorem vC [Glob] {w:World} {rc:Reach} {b0 base:Nat} {held:Bool} (hw:∃ (k:Nat) (cc:Array Value) (el:TypeId) (fr:Nat×Nat),w.heap[k]? = some (.cells cc el fr)):∀ (ts:List TypeId) (vs:List Value) (ds:List (DataW H)) (ps:List MemPlace),
 ts.all (QD P 20)=true→(∀ (j:Nat) t v,ts[j]? = some t→vs[j]? = some v→Value.okWide P w rc b0 t v)→DataW.TrodAll enc P w base (fun _=>true) held ts vs ds ps→(∀ n∈DataW.weightsEach P ts ds,n≤reachBytes)→∀ e h,WRel w e h →
 ∃ e' h' us,WRel w e' h'∧e.le e'∧Ext h h'∧VRs e' us vs∧ArgsR P h' ts us
 | [],[],[],_,_,_,_,_,e,h,r=>⟨e,h,[],r,e.le_refl,Ext.refl r.wfH,.nil,trivial⟩
 | t :: ts,v :: vs,d :: ds,ps,hp,hval,hA,hz,e,h,r=>by
  rw [DataW.weightsEach] at hz;simp only [List.all_cons,zA8] at hp;obtain ⟨p,q,⟨fuel,h1⟩,h2,rfl⟩:=hA;obtain ⟨e1,g1,r1,w1,l1,x1,v1,a1⟩:=embed (fun _=>rfl) hw fuel 20 t _ _ hp.1 h1 (fun n hn=>hz n (List.mem_append_left _ hn)) e h r;obtain ⟨e2,g2,us,w2,l2,x2,v2,a2⟩:=vC hw ts vs ds q hp.2 (fun j t v q1 q2=>hval (j+1) t v (by simpa using q1) (by simpa using q2)) h2 (fun n hn=>hz n (List.mem_append_right _ hn)) e1 g1 w1;exact ⟨e2,g2,qcS P t r1 :: us,w2,Emb.le_trans l1 l2,x1.trans x2,.cons _ _ _ _ (qd3 hp.1 (hval 0 t v rfl rfl) (v1.mono l2)) v2,⟨fuel,r1,a1.ext w1.wfH x2 _ _ _,rfl⟩,a2⟩
 | [],[],_ :: _,_,_,_,h,_,_,_,_=>h.elim
 | [],_ :: _,_,_,_,_,h,_,_,_,_=>h.elim
 | _ :: _,[],_,_,_,_,h,_,_,_,_=>h.elim
 | _ :: _,_ :: _,[],_,_,_,h,_,_,_,_=>h.elim
theorem yX:∀ {ts us:List TypeId} {ds gs:List (DataW H)},(DataW.weightsEach P (ts ++ us) (ds ++ gs)).all (·≤reachBytes)=true→∀ n∈DataW.weightsEach P ts ds,n≤reachBytes
 | [],_,_,_,_=>fun n hn=>by simp [DataW.weightsEach] at hn
 | _ :: _,_,[],_,_=>fun n hn=>by simp [DataW.weightsEach] at hn
 | t :: ts,us,d :: ds,gs,hz=>fun n hn=>by
  rw [zC6,zC6,DataW.weightsEach,List.all_append,zA8] at hz;rw [DataW.weightsEach] at hn;rcases zB8.1 hn with q|q
  ·exact of_decide_eq_true (zC8.1 hz.1 n q)
  ·exact yX hz.2 n q
theorem qaT [Glob] {X:Extern} (hm:P.follows .mixedOrders=true) (hX:XE P X) (hN:∀ (f:FuncId) (fn:Func),P.funcs[f]? = some fn→fn.body.isSome=true→(fn.name == "runtime.NumGoroutine")=false)
 {f:FuncId} {fn:Func} {body:Code} (hfn:P.funcs[f]? = some fn) (hb:fn.body=some body) (hXn:∀ us h,X f us h=none) (hpl:fn.params.toList.all (QD P 20)=true)
 (core:∀ h us,WfH h→ArgsR P h fn.params.toList us→Fn P X f us h (fun x _=>x = .bool true))
 {w:World} {rc:Reach} {b0:Nat} {args:Array Value} {ds:List (DataW H)} {ps:List MemPlace} (hg:Glob.ok w.heap.size w.heap) (hw:∃ (k:Nat) (cc:Array Value) (el:TypeId) (fr:Nat×Nat),w.heap[k]? = some (.cells cc el fr))
 (hval:∀ (j:Nat) t v,fn.params[j]? = some t→args[j]? = some v→Value.okWide P w rc b0 t v) (hA:DataW.TrodAll enc P w 0 (fun _=>true) true fn.params.toList args.toList ds ps) (hz:∀ n∈DataW.weightsEach P fn.params.toList ds,n≤reachBytes) :
 Calls P f args w fun e w'=>e = .returned (.bool true)∧Below w.heap.size w w':=by
 obtain ⟨e,h,us,r,-,-,v1,a1⟩:=vC (P:=P) hw fn.params.toList args.toList ds ps hpl (fun j t v q1 q2=>hval j t v (by simpa using q1) (by simpa using q2)) hA hz _ _ (WRel.empty hg);obtain ⟨n,v,h',hc,rfl⟩:=core h us r.wfH a1;obtain ⟨e',v',w',r1,t1,hv,hcalls⟩:=Gp (Jo hm hX hN n) hc (hXn us h) hfn hb r.rel v1;cases hv
 rw [Array.toArray_toList] at hcalls;refine hcalls.mono fun en w'' ⟨q1,q2⟩=>?_;subst q2;exact ⟨q1,t1.os,t1.tape,t1.output,t1.size,fun k hk=>r1.keep k hk⟩
end
end
end Go.Proofs.Xx
namespace Go.Proofs.Xx
open Go Go.RowKit Go.WideShapes Go.ChangeShapes
section
variable {H:Type} {enc:TypeId×Value→H} {P:Program}
theorem trodAll_length {W:World} {base:Nat} {sp:Nat→Bool} {held:Bool}:∀ {ts:List TypeId} {vs:List Value} {ds:List (DataW H)} {ps:List MemPlace},DataW.TrodAll enc P W base sp held ts vs ds ps→ds.length=ts.length
 | [],[],[],_,_=>rfl
 | t :: ts,v :: vs,d :: ds,ps,h=>by
  obtain ⟨p,q,_,h2,_⟩:=h;simp [trodAll_length h2]
 | [],[],_ :: _,_,h=>h.elim
 | [],_ :: _,_,_,h=>h.elim
 | _ :: _,[],_,_,h=>h.elim
 | _ :: _,_ :: _,[],_,h=>h.elim
theorem yw {f:Func} {s:ChangeSpec} {apart fresh handsOn again:Bool} {W W':World} {args:Array Value} {v:Value} {ds gs:List (DataW H)} {before pa pv:List MemPlace}
 (hW:DataW.Whole enc P f.params.toList s.vars apart W args.toList ds gs before)
 (hres:∀ (b:Nat) (sp:Nat→Bool) (hd:Bool),DataW.TrodAll enc P W' b sp hd f.resultTypes.toList (v.resultList f.resultTypes.size) (s.fn H (ds ++ gs)).results [])
 (hargs:∀ sp:Nat→Bool,(∀ p∈before,sp p.block=true)→DataW.TrodAll enc P W' 0 sp true f.params.toList args.toList (s.fn H (ds ++ gs)).args pa)
 (hvars:∀ sp:Nat→Bool,(∀ p∈before,sp p.block=true)→DataW.TrodVars enc P W' sp s.vars (s.fn H (ds ++ gs)).vars pv)
 (hps:before=pa ++ pv) (hb:Below W.heap.size W W')
 (hok:∀ (j:Nat) (t:TypeId) (r:Value),f.resultTypes[j]? = some t→(v.resultList f.resultTypes.size)[j]? = some r→Value.okWide P W' .any 0 t r) :
 s.post enc P f apart fresh handsOn again W args v W':=by
 have hlt:∀ p∈before,p.block<W.heap.size:=fun p hp=>hW.lt p hp;have hold:∀ p∈before,(fun b=>decide (b<W.heap.size)) p.block=true:=fun p hp=>by simpa using hlt p hp
 refine ⟨ds,gs,before,[],pa,pv,hW,hres _ _ _,hargs _ hold,hvars _ hold,World.keptBut_mono (fun p hp=>⟨hp,?_⟩) (hb.frame (·∈before)),fun _=>?_⟩
 ·rw [hps,zB8] at hp;exact Or.inr hp
 ·obtain ⟨_,_,_,_,_,hz,hn⟩:=hW;refine ⟨hok,_,_,([] ++ pa) ++ pv,⟨[] ++ pa,pv,trodAll_append (hargs _ (fun _ _=>rfl)) (hres _ _ _),hvars _ (fun _ _=>rfl),rfl,?_,?_⟩,?_⟩
  ·intro b off hp;have hin:MemPlace.cell b off∈before:=by rw [hps];simpa using hp
   rw [hb.frozen (hlt _ hin)];exact hz b off hin
  ·intro ha;have:=hn ha;rw [hps] at this;simpa using this
  ·intro p hp _;rw [hps];simpa using hp
end
end Go.Proofs.Xx
namespace Go.Proofs.Xx
open Go
section
variable {P:Program} {h:AH}
theorem AR.str1 {n:Nat} {t:TypeId} {r:List Value} (a:AR P h n t r) (hu:P.underlying t=some .string):∃ s:List UInt8,r=[str s]∧s.length≤maxLen:=by
 cases n with
 | zero=>exact a.elim
 | succ n =>
  unfold AR at a;rw [hu] at a;split at a
  all_goals (first|exact a.elim|(rename_i q _;cases q;done)|(rename_i q;cases q;done)|skip)
  rename_i s q
  exact ⟨s.data.toList,by rw [qbz],by simpa using a⟩
theorem AR.int1 {n:Nat} {t:TypeId} {r:List Value} {k:IntKind} (a:AR P h n t r) (hu:P.underlying t=some (.int k)):∃ x:Int,r=[.int k x]∧(Lit.int k x).wf=true:=by
 cases n with
 | zero=>exact a.elim
 | succ n =>
  unfold AR at a;rw [hu] at a;split at a
  all_goals (first|exact a.elim|(rename_i q _;cases q;done)|(rename_i q;cases q;done)|skip)
  rename_i k0 k' x q
  cases q
  obtain ⟨rfl,h2⟩:=a;exact ⟨x,rfl,h2⟩
theorem AR.struct1 {n:Nat} {t:TypeId} {r:List Value} {fs:Array Field} {m:List (Nat×TypeId)} {z:Nat} (a:AR P h n t r) (hu:P.underlying t=some (.struct fs)) (hm:fs.toList.map (fun f=>(f.offset,f.type))=m) (hz:P.cellsOf t=z) :
 ∃ n',r.length=z∧∀ p∈m,AR P h n' p.2 ((r.drop p.1).take (P.cellsOf p.2)):=by
 cases n with
 | zero=>exact a.elim
 | succ n =>
  unfold AR at a;rw [hu] at a;replace a:r.length=P.cellsOf t∧∀ fd∈fs.toList,AR P h n fd.type ((r.drop fd.offset).take (P.cellsOf fd.type)):=a;refine ⟨n,by rw [a.1,hz],fun p hp=>?_⟩;rw [← hm,zF1] at hp;obtain ⟨fd,hf,rfl⟩:=hp;exact a.2 fd hf
theorem AR.array1 {n:Nat} {t e:TypeId} {k z:Nat} {r:List Value} (a:AR P h n t r) (hu:P.underlying t=some (.array k e)) (hz:P.cellsOf t=z):∃ n',r.length=z∧∀ i,i<k→AR P h n' e ((r.drop (i*P.cellsOf e)).take (P.cellsOf e)):=by
 cases n with
 | zero=>exact a.elim
 | succ n =>
  unfold AR at a;rw [hu] at a;replace a:r.length=P.cellsOf t∧∀ i,i<k→AR P h n e ((r.drop (i*P.cellsOf e)).take (P.cellsOf e)):=a;exact ⟨n,by rw [a.1,hz],a.2⟩
theorem pieces {α:Type} {z:Nat} {enc:α→List Value} {good:α→Prop}:∀ (n:Nat) (c:List Value),c.length=n*z→(∀ i,i<n→∃ y,(c.drop (i*z)).take z=enc y∧good y)→∃ l:List α,l.length=n∧c=l.flatMap enc∧∀ y∈l,good y
 | 0,c,hc,_=>⟨[],rfl,by rw [Nat.zero_mul] at hc;rw [zE9.1 hc];rfl,fun y q=>by cases q⟩
 | n+1,c,hc,hk=>by
  rw [zE1,Nat.one_mul] at hc;obtain ⟨y,h1,h2⟩:=hk 0 (by omega);obtain ⟨l,l1,l2,l3⟩:=pieces (z:=z) (enc:=enc) (good:=good) n (c.drop z) (by rw [zB4,hc];omega) (fun i hi=>by
   obtain ⟨y,q1,q2⟩:=hk (i+1) (by omega);refine ⟨y,?_,q2⟩;rw [List.drop_drop,← q1,zE1,Nat.one_mul,Nat.add_comm z])
  rw [Nat.zero_mul,List.drop_zero] at h1;refine ⟨y :: l,by simp [l1],?_,fun x q=>?_⟩
  ·rw [zG2,← h1,← l2,zH1]
  ·rcases zE8.1 q with rfl|q
   ·exact h2
   ·exact l3 x q
theorem AR.slice1w {α:Type} [Inhabited α] {n:Nat} {t e:TypeId} {r:List Value} {z:Nat} (enc:α→List Value) (good:α→Prop) (a:AR P h n t r) (hu:P.underlying t=some (.slice e)) (hz:P.cellsOf e=z) (hk:∀ n cs,AR P h n e cs→∃ y,cs=enc y∧good y) :
 ∃ v l,r=[v]∧zo h v z enc l∧(l.length≤maxLen∧l.length*P.bytesOf e≤reachBytes)∧zV v∧∀ i,i<l.length→good (l.getD i default):=by
 cases n with
 | zero=>exact a.elim
 | succ n =>
  unfold AR at a;rw [hu] at a;split at a
  all_goals (first|exact a.elim|(rename_i q _;cases q;done)|(rename_i q;cases q;done)|skip)
  rename_i e' v q
  cases q
  obtain ⟨k,c,h1,h2,hc,h3⟩:=a;rw [hz] at h1 h3;obtain ⟨l,l1,l2,l3⟩:=pieces (enc:=enc) (good:=good) k c h1.length (fun i hi=>hk n _ (h3 i hi));subst l1 l2;refine ⟨v,l,rfl,h1,h2,hc,fun i hi=>?_⟩;rw [zA2,zA4 hi];exact l3 _ (List.getElem_mem hi)
theorem AR.slice1 {α:Type} [Inhabited α] {n:Nat} {t e:TypeId} {r:List Value} {z:Nat} (enc:α→List Value) (good:α→Prop) (a:AR P h n t r) (hu:P.underlying t=some (.slice e)) (hz:P.cellsOf e=z) (hk:∀ n cs,AR P h n e cs→∃ y,cs=enc y∧good y) :
 ∃ v l,r=[v]∧zo h v z enc l∧l.length≤maxLen∧zV v∧∀ i,i<l.length→good (l.getD i default):=by
 obtain ⟨v,l,h1,h2,h3,h4,h5⟩:=AR.slice1w enc good a hu hz hk;exact ⟨v,l,h1,h2,h3.1,h4,h5⟩
theorem AR.ints1 {n:Nat} {t e:TypeId} {r:List Value} (a:AR P h n t r) (hu:P.underlying t=some (.slice e)) (he:P.underlying e=some (.int .i64)) (hc:P.cellsOf e=1) :
 ∃ v l,r=[v]∧zo h v 1 eI l∧l.length≤maxLen∧zV v:=by
 obtain ⟨v,l,h1,h2,h3,h4,-⟩:=AR.slice1 eI (fun _=>True) a hu hc (fun n cs q=>by
  obtain ⟨x,hx,-⟩:=q.int1 he;exact ⟨x,hx,trivial⟩)
 exact ⟨v,l,h1,h2,h3,h4⟩
theorem AR.bytes1 {n:Nat} {t e:TypeId} {r:List Value} (a:AR P h n t r) (hu:P.underlying t=some (.slice e)) (he:P.underlying e=some (.int .u8)) (hc:P.cellsOf e=1) :
 ∃ v l,r=[v]∧zo h v 1 eU l∧l.length≤maxLen∧zV v∧∀ i,i<l.length→l.getD i default<256 :=
 AR.slice1 eU (fun x=>x<256) a hu hc (fun n cs q=>by
  obtain ⟨x,hx,hw⟩:=q.int1 he;have:0≤x∧x<256:=by
   simp [Lit.wf,IntKind.min,IntKind.max,IntKind.signed,IntKind.bits] at hw
   omega
  refine ⟨x.toNat,?_,by omega⟩;rw [hx];unfold eU;rw [Int.toNat_of_nonneg this.1])
end
end Go.Proofs.Xx
namespace Go.Proofs.Xx
open Go Go.RowKit Go.Proofs
theorem AR.e16s {h:AH} {n:Nat} {r:List Value} (a:AR Tryz.prog h n 36 r):∃ v l,r=[v]∧zo h v 1 e16 l∧l.length≤maxLen∧zV v∧∀ i,i<l.length→l.getD i default<65536 :=
 AR.slice1 (e:=81) (z:=1) e16 (fun x=>x<65536) a (by kernel_rfl) (by kernel_rfl) (fun n cs q=>by
  obtain ⟨x,hx,hw⟩:=q.int1 (k:=.u16) (by kernel_rfl);have:0≤x∧x<65536:=by
   simp [Lit.wf,IntKind.min,IntKind.max,IntKind.signed,IntKind.bits] at hw
   omega
  refine ⟨x.toNat,?_,by omega⟩;rw [hx];unfold e16;rw [Int.toNat_of_nonneg this.1])
theorem AR.e32s {h:AH} {n:Nat} {r:List Value} (a:AR Tryz.prog h n 37 r):∃ v l,r=[v]∧zo h v 1 e32 l∧l.length≤maxLen∧zV v∧∀ i,i<l.length→l.getD i default<4294967296 :=
 AR.slice1 (e:=158) (z:=1) e32 (fun x=>x<4294967296) a (by kernel_rfl) (by kernel_rfl) (fun n cs q=>by
  obtain ⟨x,hx,hw⟩:=q.int1 (k:=.u32) (by kernel_rfl);have:0≤x∧x<4294967296:=by
   simp [Lit.wf,IntKind.min,IntKind.max,IntKind.signed,IntKind.bits] at hw
   omega
  refine ⟨x.toNat,?_,by omega⟩;rw [hx];unfold e32;rw [Int.toNat_of_nonneg this.1])
theorem AR.e8s {h:AH} {n:Nat} {r:List Value} (a:AR Tryz.prog h n 35 r):∃ v l,r=[v]∧zo h v 1 eU l∧l.length≤maxLen∧zV v∧∀ i,i<l.length→l.getD i default<256 :=
 AR.bytes1 (e:=5) a (by kernel_rfl) (by kernel_rfl) (by kernel_rfl)
theorem AR.u8n {h:AH} {n:Nat} {r:List Value} (a:AR Tryz.prog h n 5 r):∃ x:Nat,r=[.int .u8 x]∧x<256:=by
 obtain ⟨x,hx,hw⟩:=a.int1 (k:=.u8) (by kernel_rfl);have:0≤x∧x<256:=by
  simp [Lit.wf,IntKind.min,IntKind.max,IntKind.signed,IntKind.bits] at hw
  omega
 exact ⟨x.toNat,by rw [hx,Int.toNat_of_nonneg this.1],by omega⟩
theorem AR.nums1 {h:AH} {n:Nat} {r:List Value} (a:AR Tryz.prog h n 39 r):∃ (v:NuV) (na nb nc nd:List Nat),r=v.cs∧NuR h v na nb nc nd:=by
 obtain ⟨n',hl,hk⟩:=a.struct1 (m:=[(0,35),(1,36),(2,35),(3,37)]) (z:=4) rfl (by kernel_rfl) (by kernel_rfl);match r,hl with
 | [x0,x1,x2,x3],_ =>
  obtain ⟨v0,l0,e0,r0,m0,c0,b0⟩:=AR.e8s (show AR Tryz.prog h n' 35 [x0] from hk (0,35) (by simp));obtain ⟨v1,l1,e1,r1,m1,c1,b1⟩:=AR.e16s (show AR Tryz.prog h n' 36 [x1] from hk (1,36) (by simp));obtain ⟨v2,l2,e2,r2,m2,c2,b2⟩:=AR.e8s (show AR Tryz.prog h n' 35 [x2] from hk (2,35) (by simp));obtain ⟨v3,l3,e3,r3,m3,c3,b3⟩:=AR.e32s (show AR Tryz.prog h n' 37 [x3] from hk (3,37) (by simp));obtain ⟨s0,rfl⟩:=r0.isSl;obtain ⟨s1,rfl⟩:=r1.isSl;obtain ⟨s2,rfl⟩:=r2.isSl;obtain ⟨s3,rfl⟩:=r3.isSl;cases e0;cases e1;cases e2;cases e3
  unfold maxLen at m0 m1 m2 m3;exact ⟨⟨s0,s1,s2,s3⟩,l0,l1,l2,l3,rfl,⟨r0,r1,c1,r2,r3,by omega,by omega,by omega,by omega,b0,b1,b2,b3⟩⟩
end Go.Proofs.Xx
namespace Go.Proofs.Xx
open Go Go.RowKit Go.Proofs
theorem AR.pairs1 {h:AH} {n:Nat} {r:List Value} (a:AR Tryz.prog h n 40 r):∃ v l,r=[v]∧zo h v 2 e82 l∧l.length≤maxLen∧zV v∧∀ i,i<l.length→(l.getD i default).1<256∧(l.getD i default).2<256 :=
 AR.slice1 (e:=93) (z:=2) e82 (fun x=>x.1<256∧x.2<256) a (by kernel_rfl) (by kernel_rfl) (fun n cs q=>by
  obtain ⟨n',hl,hk⟩:=q.array1 (k:=2) (e:=5) (z:=2) (by kernel_rfl) (by kernel_rfl);match cs,hl with
  | [x0,x1],_ =>
   obtain ⟨a0,e0,b0⟩:=AR.u8n (show AR Tryz.prog h n' 5 [x0] from hk 0 (by omega));obtain ⟨a1,e1,b1⟩:=AR.u8n (show AR Tryz.prog h n' 5 [x1] from hk 1 (by omega));cases e0;cases e1
   exact ⟨(a0,a1),rfl,b0,b1⟩)
theorem AR.intsN {h:AH} {n:Nat} {r:List Value} (a:AR Tryz.prog h n 25 r):∃ v l,r=[v]∧zo h v 1 eI l∧l.length≤maxLen∧zV v :=
 by
  obtain ⟨v,l,h1,h2,h3,h4⟩:=a.ints1 (e:=3) (by kernel_rfl) (by kernel_rfl) (by kernel_rfl);exact ⟨v,l,h1,h2,h3,h4⟩
def Yn (a:List UInt8):List (List UInt8)→List (List UInt8)
 | []=>[a]
 | w :: r=>(a ++ w) :: r
def zQ (c:UInt8):List UInt8→List (List UInt8)
 | []=>[[]]
 | x :: s=>if x=c then [] :: zQ c s else Yn [x] (zQ c s)
theorem Kv:∀ {l:List (List UInt8)},l≠[]→Yn [] l=l
 | [],h=>absurd rfl h
 | w :: r,_=>rfl
theorem qdr {a:List UInt8}:∀ {l:List (List UInt8)},Yn a l≠[]
 | []=>by simp [Yn]
 | _ :: _=>by simp [Yn]
theorem qaG {a b:List UInt8}:∀ {l:List (List UInt8)},l≠[]→Yn a (Yn b l)=Yn (a ++ b) l
 | [],h=>absurd rfl h
 | w :: r,_=>by simp [Yn]
theorem qbT {a:List UInt8}:∀ {l:List (List UInt8)},l≠[]→(Yn a l).length=l.length
 | [],h=>absurd rfl h
 | w :: r,_=>rfl
theorem jR (c:UInt8):∀ s,zQ c s≠[]
 | []=>by simp [zQ]
 | x :: s=>by
  unfold zQ;split
  ·simp
  ·exact qdr
theorem Qp (c:UInt8):∀ s,(zQ c s).length=s.countP (· == c)+1
 | []=>rfl
 | x :: s=>by
  unfold zQ;split
  ·rename_i h;subst h;simp [Qp x s]
  ·rename_i h;rw [qbT (jR c s),Qp c s,List.countP_cons_of_neg (by simpa using h)]
theorem JS {c:UInt8}:∀ {s:List UInt8},c ∉ s→zQ c s=[s]
 | [],_=>rfl
 | x :: s,h=>by
  have h1:x≠c:=fun e=>h (by simp [e]);have h2:c ∉ s:=fun q=>h (List.mem_cons_of_mem _ q);rw [zQ,if_neg h1,JS h2];rfl
theorem V7 {c:UInt8}:∀ {a b:List UInt8},c ∉ a→zQ c (a ++ c :: b)=a :: zQ c b
 | [],b,_=>by simp [zQ]
 | x :: a,b,h=>by
  have h1:x≠c:=fun e=>h (by simp [e]);have h2:c ∉ a:=fun q=>h (List.mem_cons_of_mem _ q);rw [zC6,zQ,if_neg h1,V7 h2];rfl
theorem qdm {c:UInt8} {s w:List UInt8} (h:zQ c s=[w]):s=w∧c ∉ s:=by
 have hl:=Qp c s;rw [h] at hl;have h0:s.countP (· == c)=0:=by simpa using hl.symm
 have hn:c ∉ s:=fun q=>by
  have:=List.countP_eq_zero.1 h0 c q;simp at this
 rw [JS hn] at h;exact ⟨by simpa using h,hn⟩
theorem XP {c:UInt8}:∀ {s:List UInt8},Ql c s=none↔c ∉ s
 | []=>by simp [Ql]
 | x :: s=>by
  unfold Ql;by_cases h:x=c
  ·simp [h]
  ·simp only [if_neg h,Option.map_eq_none_iff,XP,zE8,not_or];exact ⟨fun q=>⟨fun e=>h e.symm,q⟩,fun q=>q.2⟩
theorem Zk {c:UInt8}:∀ {s:List UInt8} {m:Nat},Ql c s=some m→m<s.length∧c ∉ s.take m∧s=s.take m ++ c :: s.drop (m+1)
 | [],m,h=>by cases h
 | x :: s,m,h=>by
  unfold Ql at h;by_cases e:x=c
  ·rw [if_pos e] at h;cases h
   subst e;simp
  ·rw [if_neg e] at h;obtain ⟨k,hk,rfl⟩:=Option.map_eq_some_iff.1 h;obtain ⟨h1,h2,h3⟩:=Zk hk;refine ⟨by simpa using h1,?_,?_⟩
   ·simp only [List.take_succ_cons,zE8,not_or];exact ⟨fun q=>e q.symm,h2⟩
   ·simp only [List.take_succ_cons,List.drop_succ_cons,zC6];rw [← h3]
theorem gK {c:UInt8} {s:List UInt8} {m:Nat} (h:Ql c s=some m):zQ c s=s.take m :: zQ c (s.drop (m+1)):=by
 obtain ⟨h1,h2,h3⟩:=Zk h;conv=>lhs;rw [h3]
 exact V7 h2
def ZI (x:UInt8):Prop:=48≤x.toNat∧x.toNat≤57
instance (x:UInt8):Decidable (ZI x):=inferInstanceAs (Decidable (_∧_))
def zJ (s:List UInt8):Nat:=s.foldl (fun n x=>10*n+(x.toNat - 48)) 0
theorem YP (s:List UInt8) (x:UInt8):zJ (s ++ [x])=10*zJ s+(x.toNat - 48):=by simp [zJ]
theorem YO {s:List UInt8} {i:Nat} (h:i<s.length):zJ (s.take (i+1))=10*zJ (s.take i)+((s.getD i default).toNat - 48):=by
 rw [← YP];congr 1
 rw [List.take_add_one,zA4 h];simp [List.getD,h]
def JH (s:List UInt8):Prop:=1≤s.length∧s.length≤9∧(1<s.length→s.getD 0 default≠48)∧∀ i,i<s.length→ZI (s.getD i default)
theorem qc8:∀ {s:List UInt8},(∀ i,i<s.length→ZI (s.getD i default))→∀ i,i≤s.length→zJ (s.take i)<10 ^ i:=fun {s} h i hi=>by
 induction i with
 | zero=>simp [zJ]
 | succ i ih =>
  have:=ih (by omega);have d:=h i (by omega);unfold ZI at d;rw [YO (by omega),Nat.pow_succ];omega
section
variable {P:Program} {X:Extern} {inR:Bool} {sz:Nat} {L:Ks} {h h0:AH} {rs:List Rs} {ops:Array Oper} {os:List Oper} {o:Oper} {R:Ks→AH→Prop} {Q:KQ}
end
end Go.Proofs.Xx
