/-
  A guest with another name: plain laws.
-/
import Derived.Test.YtidmdnenlgjpeaaGreatDoorM10
import Derived.Test.YtidmdnenlgjpeaaGreatDoorM9
set_option linter.unusedSimpArgs false
set_option linter.unusedVariables false
set_option linter.unusedSectionVars false
set_option maxRecDepth 100000
set_option maxHeartbeats 4000000
namespace Go.Proofs.Xx
open Go Go.Proofs
def Qd (f t n:List UInt8):List UInt8:=if n=f then t else n
def vW (f t:List UInt8) (x:Ti):Ti:=Qc (Qd f t x.a) (Qd f t x.b) x.k
def gQ (us:List Gu) (i:Nat) (t:List UInt8):List Gu:=us.set i { us.getD i default with name:=t }
structure Ren (r r':Rl) (i:Nat) (t:List UInt8):Prop where
 us:r'.us=gQ r.us i t
 pm:r'.ts.Perm (r.ts.map (vW (r.us.getD i default).name t))
 ts:TS r'.ts
theorem G6 (f t:List UInt8):Qd f t f=t:=if_pos rfl
theorem G5 {f t n:List UInt8} (h:n≠f):Qd f t n=n:=if_neg h
theorem Zt {f t n:List UInt8} (h:n≠t):Qd t f (Qd f t n)=n:=by
 by_cases e:n=f
 ·rw [e,G6,G6]
 ·rw [G5 e,G5 h]
theorem Qz {f t n m:List UInt8} (h1:n≠t) (h2:m≠t) (h:Qd f t n=Qd f t m):n=m:=by
 rw [← Zt (f:=f) h1,h,Zt h2]
theorem Yw (a b:List UInt8) (k:Int):((Qc a b k).a=a∧(Qc a b k).b=b)∨((Qc a b k).a=b∧(Qc a b k).b=a):=by
 unfold Qc Q3 Q4;simp only;by_cases h:jk b a
 ·rw [if_pos h,if_neg (jF h)];exact .inr ⟨rfl,rfl⟩
 ·rw [if_neg h];rcases Xg h with e|e
  ·subst e;rw [if_neg (zA _)];exact .inl ⟨rfl,rfl⟩
  ·rw [if_pos e];exact .inl ⟨rfl,rfl⟩
theorem qcu {a b:List UInt8} (k:Int) (h:a≠b):jk (Qc a b k).a (Qc a b k).b:=by
 unfold Qc Q3 Q4;simp only;by_cases q:jk b a
 ·rw [if_pos q,if_neg (jF q)];exact q
 ·rw [if_neg q];rcases Xg q with e|e
  ·exact absurd e h
  ·rw [if_pos e];exact e
theorem PH {t:Ti} (h:jk t.a t.b) {a b:List UInt8} (e:(a=t.a∧b=t.b)∨(a=t.b∧b=t.a)):Qc a b t.k=t:=by
 unfold Qc;rcases e with ⟨rfl,rfl⟩|⟨rfl,rfl⟩
 ·rw [Zl h,Zm h]
 ·rw [yH,yI,Zl h,Zm h]
theorem TS.eq:∀ {l m:List Ti},TS l→TS m→l.Perm m→l=m
 | [],m,_,_,p=>(List.nil_perm.1 p).symm
 | x :: l,[],_,_,p=>absurd p.length_eq (by simp)
 | x :: l,y :: m,h1,h2,p=>by
  have a1:=zH6.1 h1;have a2:=zH6.1 h2;have e:x=y:=by
   rcases zE8.1 (p.mem_iff.1 (List.mem_cons_self (a:=x) (l:=l))) with q|q
   ·exact q
   ·rcases zE8.1 (p.mem_iff.2 (List.mem_cons_self (a:=y) (l:=m))) with g|g
    ·exact g.symm
    ·exact absurd (Qv (a1.1 y g) (a2.1 x q)) (wW x)
  subst e;rw [TS.eq a1.2 a2.2 (List.Perm.cons_inv p)]
theorem jP {us:List Gu} {i:Nat} {t:List UInt8} (hi:i<us.length) (k:Nat):(gQ us i t).getD k default=if k=i then { us.getD i default with name:=t } else us.getD k default:=QG _ _ hi k
theorem Jp (us:List Gu) (i:Nat) (t:List UInt8):(gQ us i t).length=us.length:=by simp [gQ]
theorem qbO {us:List Gu} (nd:∀ i j,i<j→j<us.length→(us.getD i default).name≠(us.getD j default).name) {i:Nat} (hi:i<us.length) {n:List UInt8} (hn:(us.getD i default).name=n):gat us n=some i:=by
 cases hq:gat us n with
 | none=>exact absurd hn (Q5.1 hq _ (qJ hi))
 | some j =>
  obtain ⟨h1,h2,h3⟩:=xh hq;rcases zE7 i j with q|q|q
  ·exact absurd hn (h3 i q)
  ·rw [q]
  ·exact absurd (h2.trans hn.symm) (nd j i q hi)
section
variable {r r':Rl} {i:Nat} {f t:List UInt8}
theorem PL (H:RO r) (hi:i<r.us.length) (ht:gat r.us t=none):∀ j k,j<k→k<(gQ r.us i t).length→((gQ r.us i t).getD j default).name≠((gQ r.us i t).getD k default).name:=fun j k hjk hk=>by
 rw [Jp] at hk;rw [jP hi,jP hi];have hz:=Q5.1 ht;by_cases e1:j=i
 ·rw [if_pos e1,if_neg (by omega)];exact fun q=>hz _ (qJ hk) q.symm
 ·rw [if_neg e1];by_cases e2:k=i
  ·rw [if_pos e2];exact hz _ (qJ (by omega))
  ·rw [if_neg e2];exact H.nd j k hjk hk
theorem Wn (H:RO r) (hi:i<r.us.length) (hf:(r.us.getD i default).name=f) (ht:gat r.us t=none) {n:List UInt8} (hn:n≠t):gat (gQ r.us i t) (Qd f t n)=gat r.us n:=by
 have nd:=PL H hi ht;have hl:=Jp r.us i t;by_cases e:n=f
 ·rw [e,G6,← hf,H.gat hi];exact qbO nd (by omega) (by rw [jP hi,if_pos rfl])
 ·rw [G5 e];cases hq:gat r.us n with
  | none =>
   rw [Q5] at hq ⊢;intro g hg;obtain ⟨k,hk,rfl⟩:=qM.1 hg;rw [jP hi];split
   ·exact hn.symm
   ·exact hq _ (qJ (by omega))
  | some j =>
   obtain ⟨h1,h2,h3⟩:=xh hq;refine qbO nd (by omega) ?_;rw [jP hi,if_neg]
   ·exact h2
   ·intro q;rw [q,hf] at h2;exact e h2.symm
theorem qda {g:Gu} (h:Qg g=0) (ht:nameP t):Qg { g with name:=t }=0:=by
 obtain ⟨h1,h2,h3,h4,h5⟩:=ZZ h;have hn:Y0 { g with name:=t }:=⟨ht,h1.2⟩
 unfold Qg;rw [if_neg (zF3.2 hn),if_neg (zF3.2 h2),if_neg (zF3.2 h3),if_neg (zF3.2 ⟨h4,h5⟩)]
theorem Ren.mem (R:Ren r r' i t) (hf:(r.us.getD i default).name=f) {x:Ti}:x∈r'.ts↔∃ y∈r.ts,vW f t y=x:=by
 rw [R.pm.mem_iff,zF1,hf]
theorem Ren.ro (R:Ren r r' i t) (H:RO r) (hi:i<r.us.length) (hn:nameP t) (ht:gat r.us t=none):RO r':=by
 have hl:=Jp r.us i t;refine ⟨fun g hg=>?_,?_,?_,R.ts,fun x hx=>?_,?_⟩
 ·rw [R.us] at hg;obtain ⟨k,hk,rfl⟩:=qM.1 hg;rw [jP hi];split
  ·exact qda (H.chk _ (qJ hi)) hn
  ·exact H.chk _ (qJ (by omega))
 ·rw [R.us];exact PL H hi ht
 ·rw [R.us,hl];exact H.l64
 ·obtain ⟨y,hy,rfl⟩:=(R.mem rfl).1 hx;obtain ⟨y1,y2,y3,y4⟩:=H.tt y hy;have ya:y.a≠t:=fun q=>y3 (q ▸ ht);have yb:y.b≠t:=fun q=>y4 (q ▸ ht);have g1:gat r'.us (Qd (r.us.getD i default).name t y.a)≠none:=by rw [R.us,Wn H hi rfl ht ya];exact y3
  have g2:gat r'.us (Qd (r.us.getD i default).name t y.b)≠none:=by rw [R.us,Wn H hi rfl ht yb];exact y4
  refine ⟨qcu _ fun q=>WE y1 (Qz ya yb q),y2,?_⟩;unfold vW;rcases Yw (Qd (r.us.getD i default).name t y.a) (Qd (r.us.getD i default).name t y.b) y.k with ⟨e1,e2⟩|⟨e1,e2⟩
  ·rw [e1,e2];exact ⟨g1,g2⟩
  ·rw [e1,e2];exact ⟨g2,g1⟩
 ·rw [R.pm.length_eq,zC5];exact H.l256
theorem Ren.adj (R:Ren r r' i t) (H:RO r) (hf:(r.us.getD i default).name=f) (ht:gat r.us t=none) {k:Int} {a b:List UInt8} (ha:a≠t) (hb:b≠t):Xx.adj r k a b↔Xx.adj r' k (Qd f t a) (Qd f t b):=by
 constructor
 ·rintro ⟨x,h1,h2,h3⟩;refine ⟨vW f t x,(R.mem hf).2 ⟨x,h1,rfl⟩,h2,?_⟩;unfold vW;rcases Yw (Qd f t x.a) (Qd f t x.b) x.k with ⟨e1,e2⟩|⟨e1,e2⟩
  ·rw [e1,e2];rcases h3 with ⟨rfl,rfl⟩|⟨rfl,rfl⟩
   ·exact .inl ⟨rfl,rfl⟩
   ·exact .inr ⟨rfl,rfl⟩
  ·rw [e1,e2];rcases h3 with ⟨rfl,rfl⟩|⟨rfl,rfl⟩
   ·exact .inr ⟨rfl,rfl⟩
   ·exact .inl ⟨rfl,rfl⟩
 ·rintro ⟨x,h1,h2,h3⟩;obtain ⟨y,hy,rfl⟩:=(R.mem hf).1 h1;obtain ⟨y1,y2,y3,y4⟩:=H.tt y hy;have ya:y.a≠t:=fun q=>y3 (q ▸ ht);have yb:y.b≠t:=fun q=>y4 (q ▸ ht);refine ⟨y,hy,h2,?_⟩;unfold vW at h3;rcases Yw (Qd f t y.a) (Qd f t y.b) y.k with ⟨e1,e2⟩|⟨e1,e2⟩
  ·rw [e1,e2] at h3;rcases h3 with ⟨g1,g2⟩|⟨g1,g2⟩
   ·exact .inl ⟨Qz ya ha g1,Qz yb hb g2⟩
   ·exact .inr ⟨Qz yb ha g1,Qz ya hb g2⟩
  ·rw [e1,e2] at h3;rcases h3 with ⟨g1,g2⟩|⟨g1,g2⟩
   ·exact .inr ⟨Qz yb ha g1,Qz ya hb g2⟩
   ·exact .inl ⟨Qz ya ha g1,Qz yb hb g2⟩
theorem Ren.spk (R:Ren r r' i t) (H:RO r) (hi:i<r.us.length) (hf:(r.us.getD i default).name=f) (ht:gat r.us t=none) {a b:List UInt8} (ha:a≠t) (hb:b≠t):Xx.spk r a b↔Xx.spk r' (Qd f t a) (Qd f t b):=by
 have tg:∀ k,(r'.us.getD k default).tg=(r.us.getD k default).tg:=fun k=>by
  rw [R.us,jP hi];split
  ·rename_i e;rw [e]
  ·rfl
 unfold Xx.spk;rw [R.us,Wn H hi hf ht ha,Wn H hi hf ht hb];rw [← R.us];simp only [tg]
theorem Ren.pth (R:Ren r r' i t) (H:RO r) (hi:i<r.us.length) (hf:(r.us.getD i default).name=f) (ht:gat r.us t=none) {a b:List UInt8} {Q:List (List UInt8)} (h:Pth r a Q b):Pth r' (Qd f t a) (Q.map (Qd f t)) (Qd f t b):=by
 induction h with
 | one=>exact .one
 | snoc h s ih =>
  rw [zC9];have hw:∀ {n},gat r.us n≠none→n≠t:=fun q e=>q (e ▸ ht);exact ih.snoc ((R.spk H hi hf ht (hw s.kn.1) (hw s.kn.2)).1 s)
theorem Ren.back {r'':Rl} (R:Ren r r' i t) (H:RO r) (hi:i<r.us.length) (hf:(r.us.getD i default).name=f) (ht:gat r.us t=none) (R2:Ren r' r'' i f):r''=r:=by
 have hl:=Jp r.us i t;have e1:r''.us=r.us:=by
  rw [R2.us,R.us];apply JQ (by rw [Jp,Jp])
  intro k hk;rw [jP (by omega)];split
  ·rename_i e
   rw [jP hi,if_pos rfl,e,← hf]
  ·rename_i e
   rw [jP hi,if_neg e]
 have hn:(r'.us.getD i default).name=t:=by rw [R.us,jP hi,if_pos rfl]
 have e2:r''.ts=r.ts:=by
  refine TS.eq R2.ts H.ts (R2.pm.trans ?_);rw [hn];refine (R.pm.map _).trans ?_;rw [hf,List.map_map];have:r.ts.map (vW t f ∘ vW f t)=r.ts:=by
   conv=>rhs;rw [← List.map_id r.ts]
   refine List.map_congr_left fun x hx=>?_;obtain ⟨y1,y2,y3,y4⟩:=H.tt x hx;have ya:x.a≠t:=fun q=>y3 (q ▸ ht);have yb:x.b≠t:=fun q=>y4 (q ▸ ht);show Qc (Qd t f (Qc (Qd f t x.a) (Qd f t x.b) x.k).a) (Qd t f (Qc (Qd f t x.a) (Qd f t x.b) x.k).b) x.k=x
   rcases Yw (Qd f t x.a) (Qd f t x.b) x.k with ⟨e1,e2⟩|⟨e1,e2⟩
   ·rw [e1,e2,Zt ya,Zt yb];exact PH y1 (.inl ⟨rfl,rfl⟩)
   ·rw [e1,e2,Zt ya,Zt yb];exact PH y1 (.inr ⟨rfl,rfl⟩)
  rw [this]
 cases r;cases r'';simp only at e1 e2;rw [e1,e2]
end
def qf7 (n:Nat):Nat:=if n<256 then (lenTab.getD n 0).toNat else 8+(lenTab.getD (n / 256) 0).toNat
abbrev cvT:Value:=.func (.func 82) #[] #[]
variable [Flag]
end Go.Proofs.Xx
namespace Go.Proofs.Xx
open Go Go.Proofs
variable [Flag]
end Go.Proofs.Xx
namespace Go.Proofs.Xx
open Go Go.Proofs
variable [Flag]
end Go.Proofs.Xx
namespace Go.Proofs.Xx
structure RingOk (r:Rl) (R:List (List UInt8)):Prop where
 odd:R.length % 2=1
 three:3≤R.length
 nd:∀ i j,i<j→j<R.length→R.getD i default≠R.getD j default
 adj:∀ i,i<R.length→adj r 2 (R.getD i default) (R.getD ((i+1) % R.length) default)
structure Tree (r:Rl) (fr:List UInt8→List UInt8) (dep:List UInt8→Nat) (met:List UInt8→Prop):Prop where
 up:∀ x,met x→0<dep x→met (fr x)∧dep (fr x)+1=dep x∧Xx.adj r 2 (fr x) x
def anc (fr:List UInt8→List UInt8) (x:List UInt8):Nat→List UInt8
 | 0=>x
 | k+1=>fr (anc fr x k)
theorem qb8 {r:Rl} {fr:List UInt8→List UInt8} {dep:List UInt8→Nat} {met:List UInt8→Prop} (T:Tree r fr dep met) {x:List UInt8} (hx:met x):∀ {k:Nat},k≤dep x→met (anc fr x k)∧dep (anc fr x k)+k=dep x
 | 0,_=>⟨hx,rfl⟩
 | k+1,h=>by
  obtain ⟨h1,h2⟩:=qb8 T hx (k:=k) (by omega);obtain ⟨g1,g2,-⟩:=T.up _ h1 (by omega);exact ⟨g1,by show dep (fr (anc fr x k))+(k+1)=dep x;omega⟩
def qfX (fr:List UInt8→List UInt8) (x y:List UInt8) (n:Nat):List (List UInt8):=(List.range n).map (anc fr x) ++ [anc fr x n] ++ ((List.range n).map (anc fr y)).reverse
def eSp (x:Int×List UInt8):Value:=.agg #[.int .i64 x.1,str x.2]
abbrev JV:=List (List UInt8×(Int×List UInt8))
def frM (mp:JV) (x:List UInt8):List UInt8:=match zW mp x with|some p=>p.2|none=>[]
def wS (mp:JV) (x:List UInt8):Int:=match zW mp x with|some p=>p.1|none=>0
variable [Flag]
end Go.Proofs.Xx
namespace Go.Proofs.Xx
open Go Go.Proofs
theorem wL {mp:JV} {f:List UInt8} {p:Int×List UInt8} (x:List UInt8):frM (Jd mp f p) x=if x=f then p.2 else frM mp x:=by
 unfold frM;rw [Jt];by_cases e:x=f
 ·rw [if_pos e,if_pos e]
 ·rw [if_neg e,if_neg e]
theorem Zq {mp:JV} {f:List UInt8} {p:Int×List UInt8} (x:List UInt8):wS (Jd mp f p) x=if x=f then p.1 else wS mp x:=by
 unfold wS;rw [Jt];by_cases e:x=f
 ·rw [if_pos e,if_pos e]
 ·rw [if_neg e,if_neg e]
theorem jo {mp:JV} {f:List UInt8} {p:Int×List UInt8} (x:List UInt8):zW (Jd mp f p) x≠none↔(x=f∨zW mp x≠none):=by
 rw [Jt];by_cases e:x=f<;>simp [e]
theorem Wh {mp:JV} {f:List UInt8} {p:Int×List UInt8} (h:zW mp f=none):Jd mp f p=mp ++ [(f,p)]:=by
 unfold Jd;rw [yP h]
theorem KD {α:Type} {k:List UInt8}:∀ {l:List (List UInt8×α)} {i:Nat},Zc k l i≠none↔k∈l.map (·.1)
 | [],i=>by simp [Zc]
 | p :: r,i=>by
  unfold Zc;by_cases e:p.1=k
  ·simp [e]
  ·rw [if_neg e,KD (l:=r)];rw [List.map_cons,zE8];exact ⟨.inr,fun q=>q.resolve_left fun z=>e z.symm⟩
theorem PQ {mp:JV} {x:List UInt8}:zW mp x≠none↔x∈mp.map (·.1):=by
 rw [← KD (l:=mp) (i:=0)];unfold zW;cases Zc x mp 0<;>simp
structure CI (r:Rl) (mp:JV) (dep:List UInt8→Nat):Prop where
 tree:Tree r (frM mp) dep (fun x=>zW mp x≠none)
 camp:∀ x,zW mp x≠none→wS mp x=((dep x % 2:Nat):Int)
 kn:∀ x,zW mp x≠none→gat r.us x≠none
 nd:(mp.map (·.1)).Nodup
 dl:∀ x,zW mp x≠none→dep x<mp.length
def yf (dep:List UInt8→Nat) (f:List UInt8) (d:Nat):List UInt8→Nat:=fun x=>if x=f then d else dep x
theorem CI.len {r:Rl} (H:RO r) {mp:JV} {dep:List UInt8→Nat} (I:CI r mp dep):mp.length≤64:=by
 have:=Qr I.nd (m:=r.us.map (·.name)) fun x hx=>YK (I.kn x (PQ.2 hx));have:=H.l64;simp at *;omega
theorem CI.put {r:Rl} {mp:JV} {dep:List UInt8→Nat} (I:CI r mp dep) {f n:List UInt8} {c:Int} {d:Nat} (hf:zW mp f=none) (hk:gat r.us f≠none) (h:(d=0∧c=0)∨(zW mp n≠none∧d=dep n+1∧adj r 2 n f∧c=1 - wS mp n)):CI r (Jd mp f (c,n)) (yf dep f d):=by
 refine ⟨⟨fun x hx h0=>?_⟩,fun x hx=>?_,fun x hx=>?_,?_,fun x hx=>?_⟩
 ·rw [jo] at hx;rw [jo,wL];unfold yf at h0 ⊢;by_cases e:x=f
  ·subst e;rw [if_pos rfl] at h0;rw [if_pos rfl,if_pos rfl];rcases h with ⟨h1,h2⟩|⟨h1,h2,h3,h4⟩
   ·omega
   ·have hn:n≠x:=fun q=>h1 (q ▸ hf);exact ⟨.inr h1,by rw [if_neg hn];exact h2.symm,h3⟩
  ·rw [if_neg e] at h0;rw [if_neg e,if_neg e];obtain ⟨g1,g2,g3⟩:=I.tree.up x (hx.resolve_left e) h0;have hn:frM mp x≠f:=fun q=>g1 (q ▸ hf);exact ⟨.inr g1,by rw [if_neg hn];exact g2,g3⟩
 ·rw [jo] at hx;rw [Zq];unfold yf;by_cases e:x=f
  ·rw [if_pos e,if_pos e];rcases h with ⟨h1,h2⟩|⟨h1,h2,h3,h4⟩
   ·rw [h1];exact h2
   ·show c=_
    rw [h4,I.camp n h1,h2];omega
  ·rw [if_neg e,if_neg e];exact I.camp x (hx.resolve_left e)
 ·rw [jo] at hx;rcases hx with e|e
  ·rw [e];exact hk
  ·exact I.kn x e
 ·rw [Wh hf,zC9,zG4];refine ⟨I.nd,by simp,fun a ha b hb e=>?_⟩;simp only [List.map_cons,List.map_nil,zB5] at hb;exact PQ.2 ha (e ▸ hb ▸ hf)
 ·rw [jo] at hx;unfold yf;rw [Wh hf,zB2,zD5];by_cases e:x=f
  ·rw [if_pos e];rcases h with ⟨h1,h2⟩|⟨h1,h2,h3,h4⟩
   ·omega
   ·have:=I.dl n h1;omega
  ·rw [if_neg e];have:=I.dl x (hx.resolve_left e);omega
theorem Gj (fr:List UInt8→List UInt8) (x:List UInt8):∀ k,anc fr x (k+1)=anc fr (fr x) k
 | 0=>rfl
 | k+1=>congrArg fr (Gj fr x k)
theorem CI.anc {r:Rl} {mp:JV} {dep:List UInt8→Nat} (I:CI r mp dep) {f:List UInt8} {p:Int×List UInt8} (hf:zW mp f=none) {x:List UInt8} (hx:zW mp x≠none):∀ {k:Nat},k≤dep x→Xx.anc (frM (Jd mp f p)) x k=Xx.anc (frM mp) x k
 | 0,_=>rfl
 | k+1,h=>by
  show frM _ (Xx.anc _ x k)=frM _ (Xx.anc _ x k)
  rw [I.anc hf hx (by omega),wL,if_neg];intro q;have:=(qb8 I.tree hx (k:=k) (by omega)).1;exact this (q ▸ hf)
def Zb (r:Rl) (j:Nat):List UInt8:=(r.us.getD j default).name
structure OI (r:Rl) (i:Nat) (mp:JV) (dep:List UInt8→Nat):Prop where
 ci:CI r mp dep
 cl:∀ x,zW mp x≠none→∀ y,adj r 2 x y→zW mp y≠none∧wS mp y≠wS mp x
 gm:∀ j,j<i→zW mp (Zb r j)≠none
 z:∀ j,j<i→wS mp (Zb r j)=0∨∃ k,k<j∧Rch r 2 (Zb r k) (Zb r j)
 rc:∀ x,zW mp x≠none→∃ k,k<i∧Rch r 2 (Zb r k) x
structure SI (r:Rl) (i:Nat) (O:List UInt8→Prop) (mp:JV) (dep:List UInt8→Nat) (q:List (List UInt8)):Prop where
 ci:CI r mp dep
 om:∀ x,O x→zW mp x≠none
 oc:∀ x,O x→∀ y,adj r 2 x y→O y∧wS mp y≠wS mp x
 gm:∀ j,j≤i→zW mp (Zb r j)≠none
 z:∀ j,j≤i→wS mp (Zb r j)=0∨∃ k,k<j∧Rch r 2 (Zb r k) (Zb r j)
 orc:∀ x,O x→∃ k,k<i∧Rch r 2 (Zb r k) x
 rt:∀ x,zW mp x≠none→¬ O x→Xx.anc (frM mp) x (dep x)=Zb r i∧Rch r 2 (Zb r i) x
 qm:∀ x∈q,zW mp x≠none∧¬ O x
 qs:∀ a b,a<b→b<q.length→dep (q.getD a default)≤dep (q.getD b default)
 qd:∀ x∈q,dep x≤dep (q.getD 0 default)+1
 dn:∀ x,zW mp x≠none→¬ O x→x ∉ q→(q≠[]→dep x≤dep (q.getD 0 default))∧∀ y,adj r 2 x y→zW mp y≠none∧wS mp y≠wS mp x
 ql:q.length≤mp.length
theorem OI.root {r:Rl} {i:Nat} {mp:JV} {dep:List UInt8→Nat} (I:OI r i mp dep) (hs:zW mp (Zb r i)=none) (hk:gat r.us (Zb r i)≠none):SI r i (fun x=>zW mp x≠none) (Jd mp (Zb r i) (0,[])) (yf dep (Zb r i) 0) [Zb r i]:=by
 have nm:∀ {x},zW mp x≠none→x≠Zb r i:=fun hx q=>hx (q ▸ hs);refine ⟨I.ci.put hs hk (.inl ⟨rfl,rfl⟩),fun x hx=>(jo x).2 (.inr hx),fun x hx y a=>?_,fun j hj=>?_,fun j hj=>?_,I.rc,fun x hx hn=>?_,fun x hx=>?_,fun a b h1 h2=>?_,fun x hx=>?_,fun x hx h1 h2=>?_,?_⟩
 ·obtain ⟨h1,h2⟩:=I.cl x hx y a;rw [Zq,Zq,if_neg (nm h1),if_neg (nm hx)];exact ⟨h1,h2⟩
 ·rw [jo];rcases zA7 j i with q|q
  ·exact .inr (I.gm j q)
  ·obtain rfl:j=i:=by omega
   exact .inl rfl
 ·rw [Zq];rcases zA7 j i with q|q
  ·rw [if_neg (nm (I.gm j q))];exact I.z j q
  ·obtain rfl:j=i:=by omega
   exact .inl (if_pos rfl)
 ·have e:=((jo x).1 hx).resolve_right hn;subst e;have:yf dep (Zb r i) 0 (Zb r i)=0:=if_pos rfl;rw [this];exact ⟨rfl,.refl⟩
 ·rw [zB5] at hx;subst hx;exact ⟨(jo _).2 (.inl rfl),fun q=>q hs⟩
 ·rw [zD5] at h2;omega
 ·rw [zB5] at hx;subst hx;exact Nat.le_succ _
 ·exact absurd (zB5.2 (((jo x).1 hx).resolve_right h1)) h2
 ·rw [Wh hs];simp
theorem yX {l:List (List UInt8)} {x:List UInt8} (h:l≠[]):(l ++ [x]).getD 0 default=l.getD 0 default:=by
 cases l with
 | nil=>exact absurd rfl h
 | cons y l=>rfl
theorem SI.add {r:Rl} {i:Nat} {O:List UInt8→Prop} {mp:JV} {dep:List UInt8→Nat} {q:List (List UInt8)} (I:SI r i O mp dep q) (hq:q≠[]) {n f:List UInt8} (hn:q.getD 0 default=n) (hf:zW mp f=none) (hk:gat r.us f≠none) (ha:adj r 2 n f):SI r i O (Jd mp f (1 - wS mp n,n)) (yf dep f (dep n+1)) (q ++ [f]):=by
 have hn2:n∈q:=by
  rw [← hn];exact qJ (List.length_pos_iff.2 hq)
 obtain ⟨nm,no⟩:=I.qm n hn2;have ne:∀ {x},zW mp x≠none→x≠f:=fun hx e=>hx (e ▸ hf);have du:∀ {x},zW mp x≠none→yf dep f (dep n+1) x=dep x:=fun hx=>if_neg (ne hx);have duf:yf dep f (dep n+1) f=dep n+1:=if_pos rfl;have fO:¬ O f:=fun h=>I.om f h hf;refine ⟨I.ci.put hf hk (.inr ⟨nm,rfl,ha,rfl⟩),fun x hx=>(jo x).2 (.inr (I.om x hx)),fun x hx y a=>?_,fun j hj=>(jo _).2 (.inr (I.gm j hj)),fun j hj=>?_,I.orc,fun x hx hn=>?_,fun x hx=>?_,fun a b h1 h2=>?_,fun x hx=>?_,fun x hx h1 h2=>?_,?_⟩
 ·obtain ⟨h1,h2⟩:=I.oc x hx y a;rw [Zq,Zq,if_neg (ne (I.om _ h1)),if_neg (ne (I.om _ hx))];exact ⟨h1,h2⟩
 ·rw [Zq,if_neg (ne (I.gm j hj))];exact I.z j hj
 ·rw [jo] at hx;by_cases e:x=f
  ·subst e;rw [duf,Gj,wL,if_pos rfl];show Xx.anc _ n (dep n)=_∧_
   rw [I.ci.anc hf nm (zA3 _)];obtain ⟨h1,h2⟩:=I.rt n nm no;exact ⟨h1,h2.step ha⟩
  ·have hx:=hx.resolve_left e;rw [du hx,I.ci.anc hf hx (zA3 _)];exact I.rt x hx hn
 ·rw [jo];rcases zB8.1 hx with h|h
  ·exact ⟨.inr (I.qm x h).1,(I.qm x h).2⟩
  ·rw [zB5] at h;exact ⟨.inl h,h ▸ fO⟩
 ·rw [zB2,zD5] at h2;rw [YL (show a<q.length by omega),du (I.qm _ (qJ (show a<q.length by omega))).1];rcases zA7 b q.length with h|h
  ·rw [YL h,du (I.qm _ (qJ h)).1];exact I.qs a b h1 h
  ·rw [Gt h,show b - q.length=0 by omega];show _≤yf _ _ _ f
   rw [duf];have:=I.qd _ (qJ (show a<q.length by omega));rw [hn] at this;exact this
 ·rw [yX hq,hn,du nm];rcases zB8.1 hx with h|h
  ·rw [du (I.qm x h).1,← hn];exact I.qd x h
  ·rw [zB5.1 h,duf];exact zA3 _
 ·rw [zB8,zB5,not_or] at h2;have hx:=((jo x).1 hx).resolve_left h2.2;obtain ⟨g1,g2⟩:=I.dn x hx h1 h2.1;rw [yX hq,hn,du nm,du hx,← hn];refine ⟨fun _=>g1 hq,fun y a=>?_⟩;obtain ⟨k1,k2⟩:=g2 y a;rw [Zq,Zq,if_neg (ne k1),if_neg (ne hx)];exact ⟨(jo y).2 (.inr k1),k2⟩
 ·have:=I.ql;rw [Wh hf];simp;exact this
theorem SI.fin {r:Rl} {i:Nat} {O:List UInt8→Prop} {mp:JV} {dep:List UInt8→Nat} (I:SI r i O mp dep []):OI r (i+1) mp dep:=by
 refine ⟨I.ci,fun x hx y a=>?_,fun j hj=>I.gm j (by omega),fun j hj=>I.z j (by omega),fun x hx=>?_⟩
 ·by_cases h:O x
  ·obtain ⟨h1,h2⟩:=I.oc x h y a;exact ⟨I.om y h1,h2⟩
  ·exact (I.dn x hx h (by simp)).2 y a
 ·by_cases h:O x
  ·obtain ⟨k,h1,h2⟩:=I.orc x h;exact ⟨k,by omega,h2⟩
  ·exact ⟨i,by omega,(I.rt x hx h).2⟩
theorem OI.skip {r:Rl} {i:Nat} {mp:JV} {dep:List UInt8→Nat} (I:OI r i mp dep) (h:zW mp (Zb r i)≠none):OI r (i+1) mp dep:=by
 refine ⟨I.ci,I.cl,fun j hj=>?_,fun j hj=>?_,fun x hx=>?_⟩
 ·rcases zA7 j i with q|q
  ·exact I.gm j q
  ·obtain rfl:j=i:=by omega
   exact h
 ·rcases zA7 j i with q|q
  ·exact I.z j q
  ·obtain rfl:j=i:=by omega
   exact .inr (I.rc _ h)
 ·obtain ⟨k,h1,h2⟩:=I.rc x hx;exact ⟨k,by omega,h2⟩
theorem SI.clash {r:Rl} (H:RO r) {i:Nat} {O:List UInt8→Prop} {mp:JV} {dep:List UInt8→Nat} {q:List (List UInt8)} (I:SI r i O mp dep q) (hq:q≠[]) {n f:List UInt8} (hn:q.getD 0 default=n) (hf:zW mp f≠none) (ha:adj r 2 n f) (hc:wS mp f=wS mp n):zW mp n≠none∧dep n=dep f∧n≠f∧Xx.anc (frM mp) n (dep n)=Xx.anc (frM mp) f (dep n)∧dep n≤64:=by
 have hn2:n∈q:=by
  rw [← hn];exact qJ (List.length_pos_iff.2 hq)
 obtain ⟨nm,no⟩:=I.qm n hn2;have fO:¬ O f:=fun h=>no (I.oc f h n ha.symm).1;have fq:f∈q:=by
  apply zG8
  intro h;exact ((I.dn f hf fO h).2 n ha.symm).2 hc.symm
 have h1:=I.qd f fq;have h2:dep (q.getD 0 default)≤dep f:=by
  obtain ⟨j,j1,j2⟩:=qM.1 fq;rcases zF4 j with e|e
  ·subst e;rw [j2];exact zA3 _
  ·have:=I.qs 0 j e j1;rw [j2] at this;exact this
 rw [hn] at h1 h2;have h3:=I.ci.camp f hf;have h4:=I.ci.camp n nm;rw [hc,h4] at h3;have hd:dep n=dep f:=by omega
 have hl:=I.ci.len H;have:=I.ci.dl n nm;refine ⟨nm,hd,(XK H ha).2.2,?_,by omega⟩;rw [(I.rt n nm no).1,hd,(I.rt f hf fO).1]
structure VC (r:Rl) (cs:List Int):Prop where
 len:cs.length=r.us.length
 b:∀ i,i<cs.length→cs.getD i default=0∨cs.getD i default=1
 ne:∀ i j,i<cs.length→j<cs.length→adj r 2 (Zb r i) (Zb r j)→cs.getD i default≠cs.getD j default
 z:∀ j,j<cs.length→cs.getD j default=0∨∃ k,k<j∧Rch r 2 (Zb r k) (Zb r j)
theorem OI.qf1 {r:Rl} {mp:JV} {dep:List UInt8→Nat} (I:OI r r.us.length mp dep):VC r ((List.range r.us.length).map fun i=>wS mp (Zb r i)):=by
 have g:∀ i,i<r.us.length→((List.range r.us.length).map fun i=>wS mp (Zb r i)).getD i default=wS mp (Zb r i):=fun i hi=>by
  rw [zA2];simp [hi]
 refine ⟨by simp,fun i hi=>?_,fun i j hi hj a=>?_,fun j hj=>?_⟩
 ·simp at hi;rw [g i hi,I.ci.camp _ (I.gm i hi)];omega
 ·simp at hi hj;rw [g i hi,g j hj];exact fun q=>(I.cl _ (I.gm i hi) _ a).2 q.symm
 ·simp at hj;rw [g j hj];exact I.z j hj
variable [Flag]
end Go.Proofs.Xx
namespace Go.Proofs.Xx
open Go Go.Proofs
variable [Flag]
end Go.Proofs.Xx
namespace Go.Proofs.Xx
open Go Go.Proofs
def mmT (f t:List UInt8) (ts:List Ti) (j:Nat):List Ti:=(ts.take j).map (vW f t) ++ ts.drop j
variable [Flag]
end Go.Proofs.Xx
namespace Go.Proofs.Xx
open Go Go.Proofs
def e16 (x:Nat):List Value:=[.int .u16 x]
def MdG (g:Gu) (i:Nat):Prop:=g.name=num (25*i)∧VJ g.rank∧VJ g.court∧VJ g.diet∧(0≤g.since∧g.since≤9999)∧(0≤g.side∧g.side≤2)
def MdT (l:List (List UInt8)) (k:Nat):Prop:=l.length≤k∧(∀ j,j<l.length→∃ m,m<k∧l.getD j default=num m)∧∀ j,j+1<l.length→jk (l.getD j default) (l.getD (j+1) default)
theorem MdT.next {l:List (List UInt8)} {k:Nat} (h:MdT l k):MdT l (k+1):=⟨by have:=h.1;omega,fun j hj=>by obtain ⟨m,h1,h2⟩:=h.2.1 j hj;exact ⟨m,by omega,h2⟩,h.2.2⟩
theorem MdT.app {l:List (List UInt8)} {k:Nat} (h:MdT l k) (hk:k<4):MdT (l ++ [num k]) (k+1):=by
 refine ⟨by simp;exact h.1,fun j hj=>?_,fun j hj=>?_⟩
 ·simp at hj;rcases zA7 j l.length with q|q
  ·rw [YL q];exact h.next.2.1 j q
  ·obtain rfl:j=l.length:=by omega
   rw [Gt (zA3 _),zG6];exact ⟨k,by omega,rfl⟩
 ·simp at hj;rw [YL (show j<l.length by omega)];rcases zA7 (j+1) l.length with q|q
  ·rw [YL q];exact h.2.2 j q
  ·rw [Gt q,show j+1 - l.length=0 by omega];obtain ⟨m,h1,h2⟩:=h.2.1 j (by omega);rw [h2];exact (Yf (by omega) (by omega)).2 h1
theorem qev {g:Gu} {i:Nat} (h:MdG g i) (h2:MdT g.tg 4):Qg g=0:=by
 obtain ⟨a1,a2,a3,a4,a5,a6⟩:=h;refine qbY ⟨by rw [a1];exact Xl _,a2,a3,a4⟩ a5 a6 ⟨h2.1,fun j hj=>⟨?_,fun q=>?_⟩⟩
 ·obtain ⟨m,-,e⟩:=h2.2.1 j hj;rw [e];exact Xl _
 ·have:=h2.2.2 (j - 1) (by omega);rwa [show j - 1+1=j by omega] at this
abbrev MdR (q q4:Nat) (gs:List ZL) (vg:SlV):List Rs:=[vJ gs,.sl vg.val 24 9 eG gs,.blk q [vg.val,.slice none 0 0] 32,.blk q4 [.slice none 0 0,.slice none 0 0] 32]
abbrev MdI (h0:AH) (q q4:Nat) (la:List Nat) (gs:List ZL) (vg:SlV) (h:AH):Prop:=Hs h0 h (MdR q q4 gs vg)∧gs.length≤12∧gs.length≤la.length∧∀ i,i<gs.length→MdG (gs.getD i default).toGu i∧MdT (gs.getD i default).tg 4
abbrev MdJ (h0:AH) (q q4:Nat) (gs:List ZL) (vg:SlV) (k:Nat) (b:Nat) (g:ZL) (h:AH):Prop:=Hs h0 h (.blk b (eG g) 24 :: .sl g.tv.val 9 1 eS g.tg :: MdR q q4 gs vg)∧MdG g.toGu gs.length∧MdT g.tg k
def TI (us:List Gu) (ts:List Ti) (i k:Nat):Prop:=TS ts∧(∀ t∈ts,jk t.a t.b∧(t.k=1∨t.k=2)∧gat us t.a≠none∧gat us t.b≠none)∧(∀ t∈ts,jk t.a (num i)∨(t.a=num i∧jk t.b (num k)))∧ts.length≤13*((i+24) / 25)+(if i % 25=0 then (k+24) / 25 else 0)
def TIo (us:List Gu) (ts:List Ti) (i:Nat):Prop:=TS ts∧(∀ t∈ts,jk t.a t.b∧(t.k=1∨t.k=2)∧gat us t.a≠none∧gat us t.b≠none)∧(∀ t∈ts,jk t.a (num i))∧ts.length≤13*((i+24) / 25)
theorem TIo.inn {us:List Gu} {ts:List Ti} {i:Nat} (h:TIo us ts i) (k:Nat):TI us ts i k:=⟨h.1,h.2.1,fun t ht=>.inl (h.2.2.1 t ht),zD0 h.2.2.2 (Nat.le_add_right _ _)⟩
theorem TI.out {us:List Gu} {ts:List Ti} {i k:Nat} (h:TI us ts i k) (hi:i<312) (hk:k≤312):TIo us ts (i+1):=by
 refine ⟨h.1,h.2.1,fun t ht=>?_,?_⟩
 ·have:=(Yf (i:=i) (j:=i+1) (by omega) (by omega)).2 (by omega);rcases h.2.2.1 t ht with q|q
  ·exact jY q this
  ·rw [q.1];exact this
 ·have:=h.2.2.2;split at this<;>omega
theorem TI.next {us:List Gu} {ts:List Ti} {i k:Nat} (h:TI us ts i k) (hk:k<312):TI us ts i (k+1):=by
 refine ⟨h.1,h.2.1,fun t ht=>?_,?_⟩
 ·rcases h.2.2.1 t ht with q|q
  ·exact .inl q
  ·exact .inr ⟨q.1,jY q.2 ((Yf (by omega) (by omega)).2 (by omega))⟩
 ·have:=h.2.2.2;split at this<;>split<;>omega
theorem TI.app {us:List Gu} {ts:List Ti} {i k:Nat} {z:Int} (h:TI us ts i k) (hik:i<k) (hk:k<312) (hz:z=1∨z=2) (hi2:i % 25=0) (hk2:k % 25=0) (g1:gat us (num i)≠none) (g2:gat us (num k)≠none):TI us (ts ++ [⟨num i,num k,z⟩]) i (k+1):=by
 refine ⟨h.1.app fun j hj=>?_,fun t ht=>?_,fun t ht=>?_,?_⟩
 ·exact h.2.2.1 _ (qJ hj)
 ·rcases zB8.1 ht with q|q
  ·exact h.2.1 t q
  ·obtain rfl:=zB5.1 q;exact ⟨(Yf (by omega) (by omega)).2 hik,hz,g1,g2⟩
 ·rcases zB8.1 ht with q|q
  ·exact (h.next hk).2.2.1 t q
  ·obtain rfl:=zB5.1 q;exact .inr ⟨rfl,(Yf (by omega) (by omega)).2 (by omega)⟩
 ·have:=h.2.2.2;rw [if_pos hi2] at this ⊢;simp;omega
abbrev MdQ (q q4:Nat) (gs:List ZL) (vg:SlV) (ts:List Ti) (vt:SlV):List Rs:=[.sl vg.val 24 9 eG gs,.blk q4 [.slice none 0 0,.slice none 0 0] 32,vJ gs,.blk q [vg.val,vt.val] 32,.sl vt.val 111 3 Qm ts]
variable [Flag]
theorem qcK {h0:AH} (w:WfH h0) (va vb:Value) (la lb:List Nat) (ra:Qk h0 va 1 e16 la) (rb:Qk h0 vb 1 eU lb) (hla:la.length≤9223372036854775807) (hlb:lb.length≤9223372036854775807) (h16:∀ i,i<la.length→la.getD i default<65536) (h8:∀ i,i<lb.length→lb.getD i default<256) :
 Fn Tryz.prog Xh 23 [va,vb] h0 (fun v h'=>∃ rv r,v=rv.val∧RlOk h' rv r∧RO r∧(r.us.length≤12∧∀ i,i<r.us.length→(r.us.getD i default).name=num (25*i))∧Hs h0 h' []):=by
 have S:=Hs.start w;refine zF rfl Tryz.func23 rfl rfl ?_;all_goals (repeat' (first|refine qx ?_|(refine qf 0 ?_;(refine al S ?_;clear S;intro b h S);refine qg ?_)|(refine qf 1 ?_;(refine al S ?_;clear S;intro b h S);refine qg ?_)|(refine qf 2 ?_;refine mv ?_;refine qg ?_)))
 have S:=(S.x8 (e:=24) (z:=9) (enc:=eG)).anyS (p:=TgsOk []) fun h' g hg=>by cases hg
 obtain ⟨q,hnm⟩:∃ x,x=b:=⟨_,rfl⟩;subst hnm;obtain ⟨q4,hnm⟩:∃ x,x=b:=⟨_,rfl⟩;subst hnm;replace S:Hs h0 h [vJ [],.sl (SlV.val ⟨none,0,0⟩) 24 9 eG [],.blk q [SlV.val ⟨none,0,0⟩,.slice none 0 0] 32,.blk q4 [.slice none 0 0,.slice none 0 0] 32]:=S;(repeat (refine qx ?_));first|refine Zr (σ:=List ZL×SlV) (fun (gs,vg) h'=>MdI h0 q q4 la gs vg h') (fun (gs,vg)=>[(0,va),(1,vb),(4,.pointer (some ⟨q4,0,none⟩)),(5,.pointer (some ⟨q,0,none⟩))]) ?_ ?_
 ·all_goals (repeat' (refine qh ?_))
  refine zK (σ:=List ZL×SlV) (fun (gs,vg) h'=>MdI h0 q q4 la gs vg h') (fun (gs,vg)=>12 - gs.length) (fun (gs,vg)=>[(0,va),(1,vb),(4,.pointer (some ⟨q4,0,none⟩)),(5,.pointer (some ⟨q,0,none⟩)),(6,.int .i64 gs.length)]) ([],⟨none,0,0⟩) zf ?_ ?_
  ·exact ⟨S,zB0 _,zB0 _,fun j hj=>absurd hj (zB7 _)⟩
  clear S;rintro ⟨gs,vg⟩ h ⟨S,g1,g2,g3⟩;all_goals (repeat' (first|refine qx ?_|refine qi rfl ?_|refine qw ?_|refine qA ?_|refine qh ?_|(refine qf 3 ?_;refine mv ?_;refine mv ?_;refine Zg S ?_;(first|(refine cS ?_ ?_<;>intro hc))<;>(refine mv ?_;(first|refine off ?_|refine mv ?_);(first|refine off ?_|(first|(refine cS ?_ ?_<;>intro hc)))<;>(refine vl ?_;refine qg ?_)))|(refine qf 5 ?_;refine mv ?_;refine mv ?_;refine Za S ?_;refine zU S ?_;refine cI ?_;refine mv ?_;refine qg ?_)))
  ·obtain ⟨x,hx,hx2⟩:∃ x,la.getD gs.length default=x∧x<65536:=⟨_,rfl,h16 _ (by omega)⟩
   simp only [zA0,hx];have r1:0≤(x:Int) % 4*500∧(x:Int) % 4*500≤9999:=by omega
   have r2:0≤(x:Int) % 3∧(x:Int) % 3≤2:=by omega
   have r3:25*(gs.length:Int) % 312+(gs.length:Int) / 12=((25*gs.length:Nat):Int):=by
    rw [Int.emod_eq_of_lt (by omega) (by omega),Int.ediv_eq_zero_of_lt (by omega) (by omega)];omega
   (repeat (refine qx ?_));first|refine Zr (σ:=Nat×ZL) (fun (b,g) h'=>MdJ h0 q q4 gs vg 0 b g h') (fun (b,g)=>[(0,va),(1,vb),(4,.pointer (some ⟨q4,0,none⟩)),(5,.pointer (some ⟨q,0,none⟩)),(6,.int .i64 gs.length),(7,.int .i64 x),(8,.pointer (some ⟨b,0,none⟩))]) ?_ ?_
   ·all_goals (repeat' (first|(refine qf 6 ?_;refine mv ?_;refine ml ?_;refine rm ?_;refine mv ?_;refine qu ?_;refine ad ?_)))
    (refine qH rfl rfl rfl rfl rfl ((JI S.wf (25*gs.length) r3 (by omega)).mono ?_);rintro _ h ⟨rfl,y⟩)<;>(replace S:=S.zn y;clear y;refine mv ?_;refine rm ?_;refine ml ?_;refine mv ?_;refine rm ?_;refine mv ?_;refine rm ?_;(first|(refine cS ?_ ?_<;>intro hc))<;>(refine mv ?_;refine rm ?_;(first|(refine cS ?_ ?_<;>intro hc))<;>(refine vl ?_;(refine al S ?_;clear S;intro b h S);(first|(refine sB S rfl rfl ?_;clear S;intro h S));refine qg ?_)))
    all_goals
     have mk:∀ hb ha:Bool,Hs h0 h (.blk b (eG ⟨⟨num (25*gs.length),[],[],(x:Int) % 4*500,(x:Int) % 3,[],hb,ha,[]⟩,⟨none,0,0⟩⟩) 24 :: MdR q q4 gs vg)→MdJ h0 q q4 gs vg 0 b ⟨⟨num (25*gs.length),[],[],(x:Int) % 4*500,(x:Int) % 3,[],hb,ha,[]⟩,⟨none,0,0⟩⟩ h:=fun hb ha S=>⟨(S.x8 (e:=9) (z:=1) (enc:=eS)).pick,⟨rfl,.inl rfl,.inl rfl,.inl rfl,r1,r2⟩,zB0 _,fun j hj=>absurd hj (zB7 _),fun j hj=>absurd hj (zB7 _)⟩
    all_goals first
     | exact ⟨(b,_),mk true true S,(zf)⟩
     | exact ⟨(b,_),mk true false S,(zf)⟩
     | exact ⟨(b,_),mk false true S,(zf)⟩
     | exact ⟨(b,_),mk false false S,(zf)⟩
   ·clear S;rintro ⟨b,g⟩ h ⟨S,gd,gt⟩;(repeat (refine qx ?_));first|refine Yo (σ:=Nat×ZL) (fun (b,g) h'=>MdJ h0 q q4 gs vg 0 b g h') (fun (b,g)=>[(0,va),(1,vb),(4,.pointer (some ⟨q4,0,none⟩)),(5,.pointer (some ⟨q,0,none⟩)),(6,.int .i64 gs.length),(7,.int .i64 x),(8,.pointer (some ⟨b,0,none⟩))]) ?_ ?_
    ·all_goals (repeat' (first|refine qi rfl ?_|refine qw ?_|(refine qf 7 ?_;refine mv ?_;refine rm ?_;(first|(refine cS ?_ ?_<;>intro hc))<;>(refine qg ?_))|(refine qf 8 ?_;refine mv ?_;refine rm ?_)))
     ·(refine qH rfl rfl rfl rfl rfl ((JI S.wf (x % 3) (by omega) (by omega)).mono ?_);rintro _ h ⟨rfl,y⟩)<;>(replace S:=S.zn y;clear y;refine vl ?_;(first|(refine sB S rfl rfl ?_;clear S;intro h S));refine qg ?_)
      exact ⟨(b,{ g with rank:=num (x % 3) }),⟨S,⟨gd.1,.inr (Xl _),gd.2.2.1,gd.2.2.2.1,gd.2.2.2.2⟩,gt⟩,(zf)⟩
     ·exact ⟨(b,g),⟨S,gd,gt⟩,(zf)⟩
    clear S;rintro ⟨b,g⟩ h ⟨S,gd,gt⟩;(repeat (refine qx ?_));first|refine Yo (σ:=Nat×ZL) (fun (b,g) h'=>MdJ h0 q q4 gs vg 0 b g h') (fun (b,g)=>[(0,va),(1,vb),(4,.pointer (some ⟨q4,0,none⟩)),(5,.pointer (some ⟨q,0,none⟩)),(6,.int .i64 gs.length),(7,.int .i64 x),(8,.pointer (some ⟨b,0,none⟩))]) ?_ ?_
    ·all_goals (repeat' (first|refine qi rfl ?_|refine qw ?_|(refine qf 9 ?_;refine mv ?_;refine rm ?_;(first|(refine cS ?_ ?_<;>intro hc))<;>(refine qg ?_))|(refine qf 10 ?_;refine mv ?_;refine rm ?_)))
     ·(refine qH rfl rfl rfl rfl rfl ((JI S.wf (x % 8) (by omega) (by omega)).mono ?_);rintro _ h ⟨rfl,y⟩)<;>(replace S:=S.zn y;clear y;refine vl ?_;(first|(refine sB S rfl rfl ?_;clear S;intro h S));refine qg ?_)
      exact ⟨(b,{ g with court:=num (x % 8) }),⟨S,⟨gd.1,gd.2.1,.inr (Xl _),gd.2.2.2.1,gd.2.2.2.2⟩,gt⟩,(zf)⟩
     ·exact ⟨(b,g),⟨S,gd,gt⟩,(zf)⟩
    clear S;rintro ⟨b,g⟩ h ⟨S,gd,gt⟩;(repeat (refine qx ?_));first|refine Yo (σ:=Nat×ZL) (fun (b,g) h'=>MdJ h0 q q4 gs vg 0 b g h') (fun (b,g)=>[(0,va),(1,vb),(4,.pointer (some ⟨q4,0,none⟩)),(5,.pointer (some ⟨q,0,none⟩)),(6,.int .i64 gs.length),(7,.int .i64 x),(8,.pointer (some ⟨b,0,none⟩))]) ?_ ?_
    ·all_goals (repeat' (first|refine qi rfl ?_|refine qw ?_|(refine qf 11 ?_;refine mv ?_;refine rm ?_;(first|(refine cS ?_ ?_<;>intro hc))<;>(refine qg ?_))|(refine qf 12 ?_;refine mv ?_;refine rm ?_)))
     ·(refine qH rfl rfl rfl rfl rfl ((JI S.wf (x % 5) (by omega) (by omega)).mono ?_);rintro _ h ⟨rfl,y⟩)<;>(replace S:=S.zn y;clear y;refine vl ?_;(first|(refine sB S rfl rfl ?_;clear S;intro h S));refine qg ?_)
      exact ⟨(b,{ g with diet:=num (x % 5) }),⟨S,⟨gd.1,gd.2.1,gd.2.2.1,.inr (Xl _),gd.2.2.2.2⟩,gt⟩,(zf)⟩
     ·exact ⟨(b,g),⟨S,gd,gt⟩,(zf)⟩
    clear S;rintro ⟨b,g⟩ h ⟨S,gd,gt⟩;all_goals (repeat' (first|refine qx ?_|(refine qf 13 ?_;refine mv ?_;refine qg ?_)))
    (repeat (refine qx ?_));first|refine Zr (σ:=Nat×ZL) (fun (b,g) h'=>MdJ h0 q q4 gs vg 4 b g h') (fun (b,g)=>[(0,va),(1,vb),(4,.pointer (some ⟨q4,0,none⟩)),(5,.pointer (some ⟨q,0,none⟩)),(6,.int .i64 gs.length),(7,.int .i64 x),(8,.pointer (some ⟨b,0,none⟩))]) ?_ ?_
    ·all_goals (repeat' (refine qh ?_))
     refine zK (σ:=Nat×Nat×ZL) (fun (k,b,g) h'=>MdJ h0 q q4 gs vg k b g h'∧k≤4) (fun (k,b,g)=>4 - k) (fun (k,b,g)=>[(0,va),(1,vb),(4,.pointer (some ⟨q4,0,none⟩)),(5,.pointer (some ⟨q,0,none⟩)),(6,.int .i64 gs.length),(7,.int .i64 x),(8,.pointer (some ⟨b,0,none⟩)),(9,.int .i64 k)]) (0,b,g) zf ?_ ?_
     ·exact ⟨⟨S,gd,gt⟩,by omega⟩
     clear S gd gt;rintro ⟨k,b,g⟩ h ⟨⟨S,gd,gt⟩,hk⟩;all_goals (repeat' (first|refine qx ?_|refine qi rfl ?_|refine qw ?_|refine qA ?_|(refine qf 14 ?_;refine mv ?_;(first|(refine cS ?_ ?_<;>intro hc))<;>(refine qg ?_))))
     ·(repeat (refine qx ?_));first|refine Zr (σ:=Nat×ZL) (fun (b,g) h'=>MdJ h0 q q4 gs vg (k+1) b g h') (fun (b,g)=>[(0,va),(1,vb),(4,.pointer (some ⟨q4,0,none⟩)),(5,.pointer (some ⟨q,0,none⟩)),(6,.int .i64 gs.length),(7,.int .i64 x),(8,.pointer (some ⟨b,0,none⟩)),(9,.int .i64 k)]) ?_ ?_
      ·all_goals (repeat' (first|refine qx ?_|refine qh ?_))
       refine qf 16 ?_;refine mv ?_;refine mv ?_;refine ml ?_;refine ad ?_;refine sR ?_ (hb:=by simp;omega);obtain ⟨y,hy,hy2⟩:∃ y:Int,(x:Int) / ((2 ^ (min (6+2*(k:Int)).toNat IntKind.i64.bits):Nat):Int)=y∧0≤y∧y≤65536:=⟨_,rfl,Int.ediv_nonneg (by omega) (by exact_mod_cast zB0 _),Int.le_trans (Int.ediv_le_self _ (by omega)) (by omega)⟩
       simp only [hy];((refine rm ?_);(first|(refine cS ?_ ?_<;>intro hc))<;>(refine qg ?_))
       ·all_goals (repeat' (first|refine qx ?_|refine qi rfl ?_|(refine qf 17 ?_;refine vl ?_;refine lB S rfl rfl ?_;refine mv ?_;refine qg ?_)|(refine qf 18 ?_;refine mv ?_;refine mv ?_)))
        (refine qH rfl rfl rfl rfl rfl ((Jr S.wf k (by omega)).mono ?_);rintro _ h ⟨rfl,y⟩)<;>(replace S:=S.zn y;clear y;(refine one 1 S ?_;clear S;intro u h S))
        have hgt:=gt.1;refine app (y0:=num k) S rfl rfl ?_;clear S;intro v h S;obtain ⟨tv,rfl⟩:=S.sV v;((refine vl ?_);(first|(refine sB S rfl rfl ?_;clear S;intro h S));refine qg ?_);all_goals (repeat' (fail))
        exact ⟨(b,⟨{ g.toGu with tg:=g.tg ++ [num k] },tv⟩),⟨S.front (.there .here),gd,gt.app (by omega)⟩,(zf)⟩
       ·all_goals (repeat' (first|refine qi rfl ?_|refine qw ?_))
        exact ⟨(b,g),⟨S,gd,gt.next⟩,(zf)⟩
      ·clear S gd gt;rintro ⟨b,g⟩ h ⟨S,gd,gt⟩;all_goals (repeat' (first|(refine qf 15 ?_;refine mv ?_;refine ad ?_;refine mv ?_;refine qg ?_)))
       refine ⟨(k+1,b,g),?_,?_,zf⟩
       ·show 4 - (k+1)<4 - k;omega
       ·exact ⟨⟨S,gd,gt⟩,by omega⟩
     ·obtain rfl:k=4:=by omega
      exact ⟨(b,g),⟨S,gd,gt⟩,(zf)⟩
    ·clear S gd gt;rintro ⟨b,g⟩ h ⟨S,gd,gt⟩;all_goals (repeat' (first|refine qx ?_|(refine qf 19 ?_;refine vl ?_;refine lB S rfl rfl ?_;refine mv ?_;refine qg ?_)|(refine qf 20 ?_;refine mv ?_;refine lB S rfl rfl ?_;(refine one 9 S ?_;clear S;intro u h S))))
     refine app (y0:=g) S rfl rfl ?_;clear S;intro v h S;obtain ⟨vg',rfl⟩:=S.sV v;((refine vl ?_);(first|(refine sB S rfl rfl ?_;clear S;intro h S));refine qg ?_);all_goals (repeat' (first|(refine qf 4 ?_;refine mv ?_;refine ad ?_;refine mv ?_;refine qg ?_)))
     refine ⟨(gs ++ [g],vg'),?_,?_,zf⟩
     ·show 12 - (gs ++ [g]).length<12 - gs.length;simp;omega
     ·replace S:Hs h0 h [.sl vg'.val 24 9 eG (gs ++ [g]),.blk b (eG g) 24,.sl g.tv.val 9 1 eS g.tg,vJ gs,.blk q [vg'.val,.slice none 0 0] 32,.blk q4 [.slice none 0 0,.slice none 0 0] 32]:=S;have S:=(show Hs h0 h (.sl g.tv.val 9 1 eS g.tg :: vJ gs :: .sl vg'.val 24 9 eG (gs ++ [g]) :: .blk q [vg'.val,.slice none 0 0] 32 :: .blk q4 [.slice none 0 0,.slice none 0 0] 32 :: []) from S.pick)
      refine ⟨Hs.qdx S,by simp;omega,by simp;omega,fun i hi=>?_⟩;simp at hi;rcases zA7 i gs.length with z|z
      ·rw [YL z];exact g3 i z
      ·obtain rfl:i=gs.length:=by omega
       rw [Gt (zA3 _),zG6];exact ⟨gd,gt⟩
  all_goals exact ⟨(gs,vg),⟨S,g1,g2,g3⟩,(zf)⟩
 ·clear S;rintro ⟨gs,vg⟩ h ⟨S,g1,g2,g3⟩;obtain ⟨us,hus⟩:∃ us,us=gs.map (·.toGu):=⟨_,rfl⟩
  have hul:us.length=gs.length:=by rw [hus];simp
  have hun:∀ i,i<us.length→(us.getD i default).name=num (25*i):=fun i hi=>by
   rw [hus,zB (by omega)];exact (g3 i (by omega)).1.1
  have hth:∀ i,i<312→((∃ m,m<gs.length∧(gs.getD m default).name=num i)↔i % 25=0∧i / 25<gs.length):=fun i hi=>by
   constructor
   ·rintro ⟨m,h1,h2⟩;rw [(g3 m h1).1.1] at h2;have:=PP (by omega) (by omega) h2;omega
   ·rintro ⟨h1,h2⟩;exact ⟨i / 25,h2,by rw [(g3 _ h2).1.1];congr 1;omega⟩
  have hgat:∀ i,i<312→i % 25=0→i / 25<gs.length→gat us (num i)≠none:=fun i hi h1 h2=>by
   rw [JM];exact ⟨_,qJ (show i / 25<us.length by omega),by rw [hun _ (by omega)];congr 1;omega⟩
  have S:=S.x8 (e:=111) (z:=3) (enc:=Qm);replace S:Hs h0 h [.sl (SlV.val ⟨none,0,0⟩) 111 3 Qm [],vJ gs,.sl vg.val 24 9 eG gs,.blk q [vg.val,SlV.val ⟨none,0,0⟩] 32,.blk q4 [.slice none 0 0,.slice none 0 0] 32]:=S;have S:=(show Hs h0 h (MdQ q q4 gs vg [] ⟨none,0,0⟩) from S.pick)
  all_goals (repeat' (first|refine qx ?_|(refine qf 21 ?_;refine mv ?_;refine qg ?_)|(refine qf 22 ?_;refine mv ?_;refine qg ?_)))
  (repeat (refine qx ?_));first|refine Zr (σ:=List Ti×SlV) (fun (ts,vt) h'=>Hs h0 h' (MdQ q q4 gs vg ts vt)∧TIo us ts 312) (fun (ts,vt)=>[(4,.pointer (some ⟨q4,0,none⟩)),(5,.pointer (some ⟨q,0,none⟩))]) ?_ ?_
  ·all_goals (repeat' (refine qh ?_))
   refine zK (σ:=List Ti×SlV×Nat×Nat) (fun (ts,vt,c,i) h'=>Hs h0 h' (MdQ q q4 gs vg ts vt)∧i≤312∧c≤400*i∧TIo us ts i) (fun (ts,vt,c,i)=>312 - i) (fun (ts,vt,c,i)=>[(1,vb),(4,.pointer (some ⟨q4,0,none⟩)),(5,.pointer (some ⟨q,0,none⟩)),(12,.int .i64 c),(13,.int .i64 i)]) ([],⟨none,0,0⟩,0,0) zf ?_ ?_
   ·exact ⟨S,by omega,by omega,by simp [TS],fun t ht=>(by cases ht),fun t ht=>(by cases ht),by simp⟩
   clear S;rintro ⟨ts,vt,c,i⟩ h ⟨S,k1,k2,k3⟩;all_goals (repeat' (first|refine qx ?_|refine qi rfl ?_|refine qw ?_|refine qA ?_|(refine qf 23 ?_;refine mv ?_;(first|(refine cS ?_ ?_<;>intro hc))<;>(refine qg ?_))))
   ·(repeat (refine qx ?_));first|refine Zr (σ:=List Ti×SlV×Nat) (fun (ts,vt,c) h'=>Hs h0 h' (MdQ q q4 gs vg ts vt)∧c≤400*(i+1)∧TIo us ts (i+1)) (fun (ts,vt,c)=>[(1,vb),(4,.pointer (some ⟨q4,0,none⟩)),(5,.pointer (some ⟨q,0,none⟩)),(12,.int .i64 c),(13,.int .i64 i)]) ?_ ?_
    ·all_goals (repeat' (first|refine qx ?_|refine qh ?_|(refine qf 25 ?_;refine mv ?_;refine ad ?_;refine mv ?_;refine qg ?_)))
     refine zK (σ:=List Ti×SlV×Nat×Nat) (fun (ts,vt,c,k) h'=>Hs h0 h' (MdQ q q4 gs vg ts vt)∧(i<k∧k≤312)∧c≤400*i+k∧TI us ts i k) (fun (ts,vt,c,k)=>312 - k) (fun (ts,vt,c,k)=>[(1,vb),(4,.pointer (some ⟨q4,0,none⟩)),(5,.pointer (some ⟨q,0,none⟩)),(12,.int .i64 c),(13,.int .i64 i),(14,.int .i64 k)]) (ts,vt,c,i+1) zf ?_ ?_
     ·exact ⟨S,by omega,by omega,k3.inn _⟩
     clear S k2 k3;rintro ⟨ts,vt,c,k⟩ h ⟨S,k4,k5,k6⟩;all_goals (repeat' (first|refine qx ?_|refine qi rfl ?_|refine qw ?_|refine qA ?_|(refine qf 26 ?_;refine mv ?_;(first|(refine cS ?_ ?_<;>intro hc))<;>(refine qg ?_))))
     ·(repeat (refine qx ?_));first|refine Zr (σ:=List Ti×SlV×Nat) (fun (ts,vt,c) h'=>Hs h0 h' (MdQ q q4 gs vg ts vt)∧c≤400*i+(k+1)∧TI us ts i (k+1)) (fun (ts,vt,c)=>[(1,vb),(4,.pointer (some ⟨q4,0,none⟩)),(5,.pointer (some ⟨q,0,none⟩)),(12,.int .i64 c),(13,.int .i64 i),(14,.int .i64 k)]) ?_ ?_
      ·all_goals (repeat' (first|refine qx ?_|refine qh ?_))
       all_goals (repeat' (first|(refine qf 28 ?_;refine lB S rfl rfl ?_;refine mv ?_)))
       (refine qH rfl rfl rfl rfl rfl ((kW S.wf vg vt gs (Rd.Zf S .here) (by omega) i (by omega)).mono ?_);rintro _ h ⟨⟨rfl,z1⟩|⟨rfl,z1⟩,x⟩)<;>(replace S:=S.zn x;clear x;refine vl ?_;refine qg ?_)
       ·rw [hth i (by omega)] at z1;all_goals (repeat' (first|refine qx ?_|refine qi rfl ?_|refine qw ?_))
        all_goals (repeat' (first|(refine qf 29 ?_;refine lB S rfl rfl ?_;refine mv ?_)))
        (refine qH rfl rfl rfl rfl rfl ((kW S.wf vg vt gs (Rd.Zf S .here) (by omega) k (by omega)).mono ?_);rintro _ h ⟨⟨rfl,z2⟩|⟨rfl,z2⟩,x⟩)<;>(replace S:=S.zn x;clear x;refine vl ?_;refine qg ?_)
        ·rw [hth k (by omega)] at z2;all_goals (repeat' (first|refine qx ?_|refine qi rfl ?_|refine qw ?_))
         (repeat (refine qx ?_));first|refine Yo (σ:=List Ti×SlV) (fun (ts,vt) h'=>Hs h0 h' (MdQ q q4 gs vg ts vt)∧TI us ts i (k+1)) (fun (ts,vt)=>[(1,vb),(4,.pointer (some ⟨q4,0,none⟩)),(5,.pointer (some ⟨q,0,none⟩)),(12,.int .i64 c),(13,.int .i64 i),(14,.int .i64 k)]) ?_ ?_
         ·all_goals (repeat' (first|refine qx ?_|refine qi rfl ?_|refine qw ?_|(refine qf 30 ?_;refine mv ?_;refine mv ?_;refine Zg S ?_;(first|(refine cS ?_ ?_<;>intro hc))<;>(refine mv ?_;(first|refine off ?_|refine mv ?_);(first|refine off ?_|refine mv ?_);(first|refine off ?_|(refine Za S ?_));(first|refine off ?_|(refine zU S ?_));(first|refine off ?_|refine rmU ?_);(first|refine off ?_|(first|(refine cS ?_ ?_<;>intro hc)))<;>(refine vl ?_;refine qg ?_)))|(refine qf 31 ?_;refine vl ?_;refine lB S rfl rfl ?_;refine mv ?_;refine qg ?_)))
          ·have h8c:=h8 c (by omega);simp only [zA0] at *;(repeat (refine qx ?_));refine Z9 (id:=32) [(8,(0,2))] [some (ZK vb)] ?_;refine qB ?_;(first|(refine mv ?_<;>refine qg ⟨⟨by (first|exact True.intro),rfl⟩,?_⟩));refine qB ?_;(first|(refine mv ?_<;>refine qg ⟨⟨by (first|exact True.intro),rfl⟩,?_⟩));((refine qB ?_;first|refine qH rfl rfl rfl rfl rfl ((Jr S.wf i (by omega)).mono ?_));rintro _ h ⟨rfl,x⟩)<;>((refine qg ⟨⟨True.intro,?_⟩,?_⟩;(focus ((show keepsX _ _ _ _ _;simp only [keepsX];(repeat' (first|exact True.intro|refine And.intro ?_ ?_));all_goals (intro hw;first|exact x.ext.old _ (S.bX (by assumption) (by assumption) (by first|omega)))))));replace S:=S.zn x;clear x;refine qB ?_;(first|(refine mv ?_<;>refine qg ⟨⟨by (first|exact True.intro),rfl⟩,?_⟩)))
           ((refine qB ?_;first|refine qH rfl rfl rfl rfl rfl ((Jr S.wf k (by omega)).mono ?_));rintro _ h ⟨rfl,x⟩)<;>((refine qg ⟨⟨True.intro,?_⟩,?_⟩;(focus ((show keepsX _ _ _ _ _;simp only [keepsX];(repeat' (first|exact True.intro|refine And.intro ?_ ?_));all_goals (intro hw;first|exact x.ext.old _ (S.bX (by assumption) (by assumption) (by first|omega)))))));replace S:=S.zn x;clear x;refine qB ?_;(first|(refine mv ?_<;>refine qg ⟨⟨by (first|exact True.intro),rfl⟩,?_⟩));refine qB ?_;(first|(refine mv ?_<;>refine qg ⟨⟨by (first|exact True.intro),rfl⟩,?_⟩));refine qB ?_;(first|(refine Za S ?_<;>refine qg ⟨⟨by (first|exact True.intro),rfl⟩,?_⟩));refine qB ?_;(first|(refine zU S ?_<;>refine qg ⟨⟨by (first|exact Or.inr (congrArg some (qy _ _ _ _))),rfl⟩,?_⟩));refine qB ?_;(first|(refine rmU ?_<;>refine qg ⟨⟨by (first|exact True.intro),rfl⟩,?_⟩));refine qB ?_;(first|(refine aU ?_<;>refine qg ⟨⟨by (first|exact True.intro),rfl⟩,?_⟩));refine qB ?_;(first|(refine vl ?_<;>refine qg ⟨⟨by (first|exact True.intro),rfl⟩,?_⟩));refine qB ?_;(first|((refine one 3 S ?_;have S0:=S;clear S;intro u h S);refine qg ⟨⟨True.intro,?_⟩,?_⟩;(focus ((show keepsX _ _ _ _ _;simp only [keepsX];(repeat' (first|exact True.intro|refine And.intro ?_ ?_));all_goals (intro hw;first|exact absurd hw (by decide +kernel)))));clear S0)))
           have htl:=k6.2.2.2;have htl2:ts.length≤1000:=by split at htl<;>omega
           refine qB ?_;refine app (y0:=⟨num i,num k,1+((lb.getD c default:Nat):Int) % 4⟩) S rfl rfl ?_;have S0:=S;clear S;intro v h S;obtain ⟨vt',rfl⟩:=S.sV v;refine qg ⟨⟨True.intro,?_⟩,?_⟩;(focus ((show keepsX _ _ _ _ _;simp only [keepsX];(repeat' (first|exact True.intro|refine And.intro ?_ ?_));all_goals (intro hw;first|exact absurd hw (by decide +kernel)))));clear S0;(refine qB ?_;(first|(refine vl ?_<;>refine qg ⟨⟨by (first|exact True.intro),rfl⟩,?_⟩));refine qB ?_;(first|((refine sB S rfl rfl ?_;have S0:=S;clear S;intro h S);refine qg ⟨⟨True.intro,?_⟩,?_⟩;(focus ((show keepsX _ _ _ _ _;simp only [keepsX];(repeat' (first|exact True.intro|refine And.intro ?_ ?_));all_goals (intro hw;first|exact absurd hw (by decide +kernel)))));clear S0));refine Xz ?_);all_goals (repeat' (fail))
           replace S:Hs h0 h [.sl vt'.val 111 3 Qm (ts ++ [⟨num i,num k,1+((lb.getD c default:Nat):Int) % 4⟩]),.sl vg.val 24 9 eG gs,.blk q4 [.slice none 0 0,.slice none 0 0] 32,vJ gs,.blk q [vg.val,vt'.val] 32]:=S;exact ⟨(_,vt'),⟨S.pick,k6.app (z:=1+((lb.getD c default:Nat):Int) % 4) k4.1 (by omega) (by omega) z1.1 z2.1 (hgat i (by omega) z1.1 z1.2) (hgat k (by omega) z2.1 z2.2)⟩,(zf)⟩
          all_goals
           all_goals (repeat' (fail))
           exact ⟨(ts,vt),⟨S,k6.next (by omega)⟩,(zf)⟩
         ·clear S;rintro ⟨ts,vt⟩ h ⟨S,k6⟩;all_goals (repeat' (first|(refine qf 33 ?_;refine mv ?_;refine ad ?_;refine mv ?_;refine qg ?_)))
          exact ⟨(ts,vt,c+1),⟨S,by omega,k6⟩,(zf)⟩
        ·all_goals (repeat' (first|refine qi rfl ?_|refine qA ?_))
         exact ⟨(ts,vt,c),⟨S,by omega,k6.next (by omega)⟩,(zf)⟩
       ·all_goals (repeat' (first|refine qi rfl ?_|refine qA ?_))
        exact ⟨(ts,vt,c),⟨S,by omega,k6.out (by omega) (by omega)⟩,(zf)⟩
      ·clear S k5 k6;rintro ⟨ts,vt,c⟩ h ⟨S,k5,k6⟩;all_goals (repeat' (first|(refine qf 27 ?_;refine mv ?_;refine ad ?_;refine mv ?_;refine qg ?_)))
       refine ⟨(ts,vt,c,k+1),?_,?_,zf⟩
       ·show 312 - (k+1)<312 - k;omega
       ·exact ⟨S,by omega,by omega,k6⟩
     ·exact ⟨(ts,vt,c),⟨S,by omega,k6.out (by omega) (by omega)⟩,(zf)⟩
    ·clear S k2 k3;rintro ⟨ts,vt,c⟩ h ⟨S,k2,k3⟩;all_goals (repeat' (first|(refine qf 24 ?_;refine mv ?_;refine ad ?_;refine mv ?_;refine qg ?_)))
     refine ⟨(ts,vt,c,i+1),?_,?_,zf⟩
     ·show 312 - (i+1)<312 - i;omega
     ·exact ⟨S,by omega,by omega,k3⟩
   ·obtain rfl:i=312:=by omega
    exact ⟨(ts,vt),⟨S,k3⟩,(zf)⟩
  ·clear S;rintro ⟨ts,vt⟩ h ⟨S,k3⟩;all_goals (repeat' (first|refine qx ?_|(refine qf 34 ?_;refine lB S rfl rfl ?_;(first|(refine sB S rfl rfl ?_;clear S;intro h S));refine qg ?_)))
   refine qF ⟨_,zJ S rfl (by first|exact .there .here) (by exact rfl) (by exact rfl),?_⟩;obtain ⟨fp,ht⟩:=S.qej (.there (.there .here));refine ⟨⟨vg,vt,gs⟩,⟨us,ts⟩,rfl,⟨Rd.Zf S .here,Rd.Zf S (.there (.there (.there (.there .here)))),fun i hi=>⟨TgsOk.rd ht hi,?_⟩,hus.symm,?_,?_⟩,⟨fun g hg=>?_,fun i j hij hj=>?_,?_,k3.1,k3.2.1,?_⟩,⟨?_,hun⟩,S.drop⟩
   ·have:=(g3 i hi).2.1;show (gs.getD i default).tg.length≤_;omega
   ·show us.length≤_;omega
   ·have:=k3.2.2.2;show ts.length≤_;omega
   ·obtain ⟨i,hi,rfl⟩:=qM.1 hg;rw [hus,zB (show i<gs.length by rw [← hul];exact hi)];exact qev (g3 i (by rw [← hul];exact hi)).1 (g3 i (by rw [← hul];exact hi)).2
   ·replace hj:j<us.length:=hj;rw [hun i (by omega),hun j hj];intro q;have:=PP (by omega) (by omega) q;omega
   ·show us.length≤_;omega
   ·have:=k3.2.2.2;show ts.length≤_;omega
   ·show us.length≤_;omega
end Go.Proofs.Xx
namespace Go.Proofs.Xx
open Go Go.Proofs
theorem CirOk.same {r:Rl} (H:RO r) {cs:List Wd} (C:CirOk r cs) {i j:Nat} (hi:i<cs.length) (hj:j<cs.length) {x:List UInt8} (h1:x∈(cs.getD i default).ws) (h2:x∈(cs.getD j default).ws):i=j:=by
 have key:∀ i j,i<cs.length→j<cs.length→x∈(cs.getD i default).ws→x∈(cs.getD j default).ws→¬ jk ((cs.getD j default).ws.getD 0 default) ((cs.getD i default).ws.getD 0 default):=fun i j hi hj h1 h2=>by
  obtain ⟨a1,a2,a3⟩:=C.ss _ (qJ hi);obtain ⟨b1,b2,b3⟩:=C.ss _ (qJ hj);obtain ⟨k1,r1⟩:=(a3 x).1 h1;obtain ⟨k2,r2⟩:=(b3 x).1 h2;have hm:(cs.getD j default).ws.getD 0 default∈(cs.getD i default).ws:=(a3 _).2 ⟨k1,r1.trans r2.symm⟩;obtain ⟨z,z1,z2⟩:=qM.1 hm;have:=a1.le (zB0 z) z1;rwa [z2] at this
 rcases zE7 i j with q|q|q
 ·exact absurd (C.hd i j q hj) (key j i hj hi h2 h1)
 ·exact q
 ·exact absurd (C.hd j i q hi) (key i j hi hj h1 h2)
theorem Rch.alone {r:Rl} {k:Int} {n x:List UInt8} (h:Rch r k n x) (hno:∀ y,¬ adj r k n y):x=n:=by
 induction h with
 | refl=>rfl
 | step h a ih=>rw [ih] at a;exact absurd a (hno _)
def tot (cs:List Wd) (i:Nat):Nat:=((cs.take i).flatMap (·.ws)).length
theorem CirOk.nodup {r:Rl} (H:RO r) {cs:List Wd} (C:CirOk r cs) (i:Nat):((cs.take i).flatMap (·.ws)).Nodup:=by
 rw [List.Nodup,List.pairwise_flatMap];refine ⟨fun w hw=>(C.ss w (List.mem_of_mem_take hw)).1.nodup,?_⟩;rw [zD2];intro a b ha hb hab x hx y hy e;subst e;simp only [zA9] at ha hb;have ea:(cs.take i)[a]=cs.getD a default:=by rw [List.getElem_take,zA2,zA4 (show a<cs.length by omega)];rfl
 have eb:(cs.take i)[b]=cs.getD b default:=by rw [List.getElem_take,zA2,zA4 (show b<cs.length by omega)];rfl
 rw [ea] at hx;rw [eb] at hy;have:=C.same H (show a<cs.length by omega) (show b<cs.length by omega) hx hy;omega
theorem CirOk.qdJ {r:Rl} (H:RO r) {cs:List Wd} (C:CirOk r cs) (i:Nat):tot cs i≤r.us.length:=by
 have:=Qr (C.nodup H i) (m:=r.us.map (·.name)) fun x hx=>by
  obtain ⟨w,w1,w2⟩:=zH0.1 hx;obtain ⟨-,-,w3⟩:=C.ss w (List.mem_of_mem_take w1);obtain ⟨k,rc⟩:=(w3 x).1 w2;exact YK (rc.known H k)
 rwa [zC5] at this
theorem CirOk.tot {r:Rl} (H:RO r) {cs:List Wd} (C:CirOk r cs) (hall:∀ x,gat r.us x≠none→∃ w∈cs,x∈w.ws):Xx.tot cs cs.length=r.us.length:=by
 have h1:=C.qdJ H cs.length;have hn:(r.us.map (·.name)).Nodup:=by
  rw [List.Nodup,zD2];intro i j hi hj hij;simp only [zC5] at hi hj;have:=H.nd i j hij hj;rw [zA2,zA2,zA4 hj,zA4 hi] at this;simpa using this
 have h2:=Qr hn (m:=(cs.take cs.length).flatMap (·.ws)) fun x hx=>by
  obtain ⟨g,g1,g2⟩:=zF1.1 hx;obtain ⟨w,w1,w2⟩:=hall x (JM.2 ⟨g,g1,g2⟩);rw [zD4];exact zH0.2 ⟨w,w1,w2⟩
 rw [zC5] at h2;unfold Xx.tot at *;omega
variable [Flag]
end Go.Proofs.Xx
namespace Go.Proofs.Xx
open Go Go.Proofs
variable [Flag]
end Go.Proofs.Xx
namespace Go.Proofs.Xx
open Go Go.Proofs
variable [Flag]
end Go.Proofs.Xx
namespace Go.Proofs.Xx
open Go Go.Proofs
def qfK:List Ti→Ti→List Ti
 | [],t=>[t]
 | x :: r,t=>if Z4 t x then t :: x :: r else x :: qfK r t
variable [Flag]
def qgb (h0:AH) (v:RlV) (q:Rl×Int) (u:Value) (h':AH):Prop:=(q.2≠0∧u = .tuple #[v.val,.int .i64 q.2]∧Hs h0 h' [])∨(q.2=0∧∃ v':RlV,u = .tuple #[v'.val,.int .i64 0]∧v'.gs.map (·.toGu)=q.1.us∧Hs h0 h' (xU v' q.1.ts))
theorem RO.t4 {r:Rl} (H:RO r):∀ g∈r.us,g.tg.length≤4:=fun g hg=>(ZZ (H.chk g hg)).2.2.2.1
theorem RlOk.t4 {h:AH} {v:RlV} {r:Rl} (HR:RlOk h v r) (H:RO r) {i:Nat} (hi:i<v.gs.length):(v.gs.getD i default).tg.length≤4:=by
 have:=H.t4 _ (qJ (show i<r.us.length by rw [← HR.len];exact hi));rwa [← HR.at_ hi] at this
theorem RlOk.fit {h:AH} {v:RlV} {r:Rl} (HR:RlOk h v r) (H:RO r):RlFit h v r:=by
 have h64:=H.l64;have h256:=H.l256;exact ⟨HR,fun i hi=>by have:=HR.t4 H hi;omega,by omega,by omega⟩
theorem Hs.qeQ {h0 h:AH} {rs:List Rs} {v:RlV} {r:Rl} (S:Hs h0 h rs) (hu:v.gs.map (·.toGu)=r.us) (H:RO r) [i:SelR rs (xU v r.ts)]:RlOk h v r:=by
 have h64:=H.l64;have h256:=H.l256;exact Hs.qfF (rs:=[]) (show Hs h0 h (xU v r.ts) from S.pick) hu (by omega) (by omega) fun g hg=>by have:=H.t4 g hg;omega
end Go.Proofs.Xx
namespace Go.Proofs.Xx
open Go Go.Proofs
def Yc (a:List UInt8):List (List UInt8)→List (List UInt8)
 | []=>[a]
 | w :: r=>(a ++ w) :: r
def jm (c:UInt8):List UInt8→List (List UInt8)
 | []=>[[]]
 | x :: s=>if x=c then [] :: jm c s else Yc [x] (jm c s)
theorem gY:∀ {l:List (List UInt8)},l≠[]→Yc [] l=l
 | [],h=>absurd rfl h
 | w :: r,_=>rfl
theorem qcG {a:List UInt8}:∀ {l:List (List UInt8)},Yc a l≠[]
 | []=>by simp [Yc]
 | _ :: _=>by simp [Yc]
theorem qav {a b:List UInt8}:∀ {l:List (List UInt8)},l≠[]→Yc a (Yc b l)=Yc (a ++ b) l
 | [],h=>absurd rfl h
 | w :: r,_=>by simp [Yc]
theorem qbm {a:List UInt8}:∀ {l:List (List UInt8)},l≠[]→(Yc a l).length=l.length
 | [],h=>absurd rfl h
 | w :: r,_=>rfl
theorem Jc (c:UInt8):∀ s,jm c s≠[]
 | []=>by simp [jm]
 | x :: s=>by
  unfold jm;split
  ·simp
  ·exact qcG
theorem Zy (c:UInt8):∀ s,(jm c s).length=s.countP (· == c)+1
 | []=>rfl
 | x :: s=>by
  unfold jm;split
  ·rename_i h;subst h;simp [Zy x s]
  ·rename_i h;rw [qbm (Jc c s),Zy c s,List.countP_cons_of_neg (by simpa using h)]
theorem Jl {c:UInt8}:∀ {s:List UInt8},c ∉ s→jm c s=[s]
 | [],_=>rfl
 | x :: s,h=>by
  have h1:x≠c:=fun e=>h (by simp [e]);have h2:c ∉ s:=fun q=>h (List.mem_cons_of_mem _ q);rw [jm,if_neg h1,Jl h2];rfl
theorem YA {c:UInt8}:∀ {a b:List UInt8},c ∉ a→jm c (a ++ c :: b)=a :: jm c b
 | [],b,_=>by simp [jm]
 | x :: a,b,h=>by
  have h1:x≠c:=fun e=>h (by simp [e]);have h2:c ∉ a:=fun q=>h (List.mem_cons_of_mem _ q);rw [zC6,jm,if_neg h1,YA h2];rfl
theorem qcB {c:UInt8} {s w:List UInt8} (h:jm c s=[w]):s=w∧c ∉ s:=by
 have hl:=Zy c s;rw [h] at hl;have h0:s.countP (· == c)=0:=by simpa using hl.symm
 have hn:c ∉ s:=fun q=>by
  have:=List.countP_eq_zero.1 h0 c q;simp at this
 rw [Jl hn] at h;exact ⟨by simpa using h,hn⟩
theorem Yh {c:UInt8}:∀ {s:List UInt8},QH c s=none↔c ∉ s
 | []=>by simp [QH]
 | x :: s=>by
  unfold QH;by_cases h:x=c
  ·simp [h]
  ·simp only [if_neg h,Option.map_eq_none_iff,Yh,zE8,not_or];exact ⟨fun q=>⟨fun e=>h e.symm,q⟩,fun q=>q.2⟩
theorem ZH {c:UInt8}:∀ {s:List UInt8} {m:Nat},QH c s=some m→m<s.length∧c ∉ s.take m∧s=s.take m ++ c :: s.drop (m+1)
 | [],m,h=>by cases h
 | x :: s,m,h=>by
  unfold QH at h;by_cases e:x=c
  ·rw [if_pos e] at h;cases h
   subst e;simp
  ·rw [if_neg e] at h;obtain ⟨k,hk,rfl⟩:=Option.map_eq_some_iff.1 h;obtain ⟨h1,h2,h3⟩:=ZH hk;refine ⟨by simpa using h1,?_,?_⟩
   ·simp only [List.take_succ_cons,zE8,not_or];exact ⟨fun q=>e q.symm,h2⟩
   ·simp only [List.take_succ_cons,List.drop_succ_cons,zC6];rw [← h3]
theorem gu {c:UInt8} {s:List UInt8} {m:Nat} (h:QH c s=some m):jm c s=s.take m :: jm c (s.drop (m+1)):=by
 obtain ⟨h1,h2,h3⟩:=ZH h;conv=>lhs;rw [h3]
 exact YA h2
def YT (x:UInt8):Prop:=48≤x.toNat∧x.toNat≤57
instance (x:UInt8):Decidable (YT x):=inferInstanceAs (Decidable (_∧_))
def Ja (s:List UInt8):Nat:=s.foldl (fun n x=>10*n+(x.toNat - 48)) 0
theorem yz (s:List UInt8) (x:UInt8):Ja (s ++ [x])=10*Ja s+(x.toNat - 48):=by simp [Ja]
theorem yx {s:List UInt8} {i:Nat} (h:i<s.length):Ja (s.take (i+1))=10*Ja (s.take i)+((s.getD i default).toNat - 48):=by
 rw [← yz];congr 1
 rw [List.take_add_one,zA4 h];simp [List.getD,h]
def qbt (s:List UInt8):Prop:=1≤s.length∧s.length≤9∧(1<s.length→s.getD 0 default≠48)∧∀ i,i<s.length→YT (s.getD i default)
section
variable {P:Program} {X:Extern} {sz:Nat} {L:Ks} {h h0:AH} {rs:List Rs} {ops:Array Oper} {os:List Oper} {o:Oper} {R:Ks→AH→Prop}
theorem kS {L':Ks} {x:Operand} {lo hi:Option Operand} {vlo vhi:Option Value} {ty:TypeId} {l:List UInt8} {a b:Nat} (w:KO P X sz ops os L' h R) (ho:o.op = .slice ty x lo hi none:=by exact rfl) (hg:qC ops L.tree o.guard=some true:=by exact rfl) (hx:kA L x=some (str l):=by exact rfl)
 (hlo:zO L.tree lo=some vlo:=by exact rfl) (hhi:zO L.tree hi=some vhi:=by exact rfl) (hu:P.underlying ty=some .string:=by exact rfl) (h1:qR vlo 0=some a:=by exact rfl) (h2:qR vhi l.length=some b:=by exact rfl) (hab:a≤b∧b≤l.length:=by first|omega|grind)
 (hp:qL sz L o.dst (str ((l.drop a).take (b - a)))=some L':=by exact rfl):KO P X sz ops (o :: os) L h R:=by
 refine zi hg ?_ hp w;have t1:Nat.ble a b=true:=zB3 hab.1;have t2:Nat.ble b l.length=true:=zB3 hab.2;rw [ho];have e:(⟨l.toArray⟩:ByteArray).data.toList=l:=rfl;simp only [zZ,qG hx,hlo,hhi,show zO L.tree none=some none from rfl,zH,zt,str,hu,h1,h2,e,t1,t2,zF9,qO]
end
section
variable {P:Program} {X:Extern} {sz:Nat} {L:Ks} {h h0:AH} {rs:List Rs} {ops:Array Oper} {os:List Oper} {o:Oper} {R:Ks→AH→Prop}
theorem thA {α:Type} {x hi:Operand} {ty e:TypeId} {v vh:Value} {z:Nat} {enc:α→List Value} {l:List α} {f:Rs→List Rs} {dd:List Rs} {d:Tmp} (b:Nat) (S:Hs h0 h rs) (ho:o.op = .slice ty x none (some hi) none) (hx:kA L x=some v) [i:HasS rs v α e z enc l f dd]
 (w:KO P X sz ops os (L.put d v) h R) (hg:qC ops L.tree o.guard=some true:=by exact rfl) (hhi:kA L hi=some vh:=by exact rfl) (hbo:qR (some vh) l.length=some b:=by exact rfl) (hb:b=l.length:=by first|omega|grind)
 (hu:Qu P ty=some z:=by exact rfl) (hdst:o.dst=some d:=by exact rfl) (hds:Nat.blt d sz=true:=by exact rfl):KO P X sz ops (o :: os) L h R:=by
 obtain ⟨fp,k1,k2,-⟩:=(i.ut (.sl v e z enc l)).ok (h':=h) S.ext.next (zA3 _) S.sep
 have hue:∃ e',P.underlying ty=some (.slice e')∧zD P e'=some z:=by
  unfold Qu at hu;split at hu
  ·exact ⟨_,by assumption,hu⟩
  ·cases hu
 obtain ⟨e',hu1,hu2⟩:=hue;have hhi':zT L.tree hi=some vh:=qG hhi;have h0b:qR none 0=some 0:=rfl;have q1:zt P ty v none (some vh) none h=some v:=by
  subst hb;rcases k1 with ⟨rfl,rfl⟩|⟨bb,o',cc,slk,cap,g1,g2,g3,g4,g5,g6⟩
  ·have:qR (some vh) 0=some 0:=hbo;simp only [zt,hu1,hu2,this,h0b]
  ·subst g1;have t1:Nat.ble 0 l.length=true:=by simp
   have t2:Nat.ble l.length cap=true:=zB3 g5.1;cases hk:(slk.isNone && Nat.beq 0 cap) with
   | false=>simp only [zt,hu1,hu2,g2,h0b,hbo,t1,t2,hk,zF9,Nat.zero_mul,Nat.add_zero];rfl
   | true=>simp only [zt,hu1,hu2,g2,h0b,hbo,t1,t2,hk,zF9];rfl
 refine zi (v:=v) (h':=h) hg ?_ (by simp only [qL,hdst,hds]) w;rw [ho];simp only [zZ,qG hx,zO,hhi',q1,qO,zH]
end
theorem index_one (c:UInt8):∀ s:List UInt8,Lib.index s [c]=Yi c s
 | []=>rfl
 | b :: l=>by
  unfold Lib.index Yi QH;by_cases h:b=c
  ·subst h;simp [List.isPrefixOf]
  ·have h2:([c]:List UInt8).isPrefixOf (b :: l)=false:=by simp [List.isPrefixOf];exact fun q=>h q.symm
   rw [if_neg (by rw [h2];decide),if_neg h,index_one c l];unfold Yi;cases hq:QH c l with
   | none=>simp
   | some m =>
    have:((m:Int) == -1)=false:=by rw [beq_eq_false_iff_ne];omega
    simp [this]
variable [Flag]
theorem PE (c:UInt8):((c.toNat:Int).toNat).toUInt8=c:=by simp
theorem qcO {h0:AH} (s:List UInt8) (c:UInt8):Fn Tryz.prog Xh 184 [str s,.int .u8 (c.toNat:Int)] h0 (fun v h'=>v = .int .i64 (Yi c s)∧h'=h0) :=
 QJ (v:=.int .i64 (Yi ((c.toNat:Int).toNat).toUInt8 s)) rfl ⟨by rw [PE],rfl⟩
theorem qc0 {h0:AH} (s:List UInt8) (c:UInt8):Fn Tryz.prog Xh 222 [str s,.int .u8 (c.toNat:Int)] h0 (fun v h'=>v = .int .i64 (qaR c s:Nat)∧h'=h0) :=
 QJ (v:=.int .i64 (qaR ((c.toNat:Int).toNat).toUInt8 s:Nat)) rfl ⟨by rw [PE],rfl⟩
theorem qaI {h0:AH} (s:List UInt8) (c:UInt8):Fn Tryz.prog Xh 146 [str s,.int .u8 (c.toNat:Int)] h0 (fun v h'=>v = .int .i64 (Yi c s)∧h'=h0):=by
 refine zF rfl Tryz.func146 rfl rfl ?_;all_goals (repeat' (first|refine qx ?_|refine qi rfl ?_|refine qw ?_|refine qA ?_|refine qh ?_|refine qj ?_|refine qo ?_|(refine qf 0 ?_;refine mv ?_;refine qg ?_)|(refine qf 1 ?_;refine mv ?_;refine mv ?_)))
 (refine qH rfl rfl rfl rfl rfl ((qcO s c).mono ?_);rintro _ _ ⟨rfl,rfl⟩)<;>(refine mv ?_;refine qg ?_)
 all_goals (repeat' (first|refine qx ?_|refine qi rfl ?_|refine qw ?_|refine qA ?_|refine qh ?_|refine qj ?_|refine qo ?_))
 refine qF ⟨_,rfl,?_⟩;exact ⟨rfl,rfl⟩
theorem gz {h0:AH} (s sep:List UInt8) (hs:s.length<4294967281):Fn Tryz.prog Xh 187 [str s,str sep] h0 (fun v h'=>v = .int .i64 (Lib.index s sep)∧h'=h0) :=
 QJ (v:=.int .i64 (Lib.index s sep)) (by show (if s.length<4294967281 then _ else _)=_;rw [if_pos hs]) ⟨rfl,rfl⟩
theorem WF {h0:AH} (s sep:List UInt8) (hs:s.length<4294967281):Fn Tryz.prog Xh 150 [str s,str sep] h0 (fun v h'=>v = .int .i64 (Lib.index s sep)∧h'=h0):=by
 refine zF rfl Tryz.func150 rfl rfl ?_;all_goals (repeat' (first|refine qx ?_|refine qi rfl ?_|refine qw ?_|refine qA ?_|refine qh ?_|refine qj ?_|refine qo ?_|(refine qf 0 ?_;refine mv ?_;refine qg ?_)|(refine qf 1 ?_;refine mv ?_;refine mv ?_)))
 (refine qH rfl rfl rfl rfl rfl ((gz s sep hs).mono ?_);rintro _ _ ⟨rfl,rfl⟩)<;>(refine mv ?_;refine qg ?_)
 all_goals (repeat' (first|refine qx ?_|refine qi rfl ?_|refine qw ?_|refine qA ?_|refine qh ?_|refine qj ?_|refine qo ?_))
 refine qF ⟨_,rfl,?_⟩;exact ⟨rfl,rfl⟩
theorem qar {h0:AH} (s sep:List UInt8) (hl:sep.length=1) (hs:s.length≤1000000):Fn Tryz.prog Xh 150 [str s,str sep] h0 (fun v h'=>v = .int .i64 (Yi (sep.getD 0 0) s)∧h'=h0) :=
 (WF s sep (by omega)).mono fun v h' q=>by
  match sep,hl with
  | [c],_=>exact ⟨q.1.trans (by rw [index_one];rfl),q.2⟩
theorem GX {h0:AH} (s:List UInt8) (c:UInt8):Fn Tryz.prog Xh 119 [str s,.int .u8 (c.toNat:Int)] h0 (fun v h'=>v = .int .i64 (Yi c s)∧h'=h0):=by
 refine zF rfl Tryz.func119 rfl rfl ?_;all_goals (repeat' (first|refine qx ?_|refine qi rfl ?_|refine qw ?_|refine qA ?_|refine qh ?_|refine qj ?_|refine qo ?_|(refine qf 0 ?_;refine mv ?_;refine qg ?_)|(refine qf 1 ?_;refine mv ?_;refine mv ?_)))
 (refine qH rfl rfl rfl rfl rfl ((qaI s c).mono ?_);rintro _ _ ⟨rfl,rfl⟩)<;>(refine mv ?_;refine qg ?_)
 all_goals (repeat' (first|refine qx ?_|refine qi rfl ?_|refine qw ?_|refine qA ?_|refine qh ?_|refine qj ?_|refine qo ?_))
 refine qF ⟨_,rfl,?_⟩;exact ⟨rfl,rfl⟩
theorem qaE {s:List UInt8} {n:Nat} (h:n+1=s.length) (c:UInt8):(s.drop n).take (s.length - n)=[c]↔s.getLast? = some c:=by
 rcases List.eq_nil_or_concat s with rfl|⟨t,x,rfl⟩
 ·simp at h
 ·simp only [List.concat_eq_append,zB2,zD5] at h ⊢;obtain rfl:n=t.length:=by simpa using h
  simp
theorem qaJ {h0:AH} (s:List UInt8) (hs:s.length≤1000000):Fn Tryz.prog Xh 207 [str s,str [10]] h0 (fun v h'=>JW v (s.getLast? = some 10)∧h'=h0):=by
 refine zF rfl Tryz.func207 rfl rfl ?_;all_goals (repeat' (first|refine qx ?_|refine qi rfl ?_|refine qw ?_|refine qA ?_|refine qh ?_|refine qj ?_|refine qo ?_|(refine qf 0 ?_;refine mv ?_;refine qg ?_)|(refine qf 1 ?_;refine mv ?_;refine tl ?_;refine mv ?_;refine tl ?_;(first|refine cT ?_|refine cF ?_|(refine cS ?_ ?_<;>intro hc))<;>(refine mv ?_;(first|refine off ?_|refine mv ?_);(first|refine off ?_|refine mv ?_);(first|refine off ?_|refine tl ?_);(first|refine off ?_|refine mv ?_);(first|refine off ?_|refine tl ?_);(first|refine off ?_|(first|refine sb ?_|refine vl ?_));(first|(refine off ?_;(first|refine off ?_|refine mv ?_);(first|refine off ?_|(refine tS ?_ ?_<;>intro hc))<;>(refine vl ?_;refine mv ?_;refine qg ?_))|skip)))))
 ·have hp:1≤s.length:=by (try simp at hc);omega
  obtain ⟨n,hn⟩:∃ n,n=s.length - 1:=⟨_,rfl⟩
  have e:((s.length:Int) - (([10]:List UInt8).length:Nat))=(n:Nat):=by simp;omega
  rw [e];refine kS (a:=n) (b:=s.length) ?_;((first|refine off ?_|refine mv ?_);(first|refine off ?_|(refine tS ?_ ?_<;>intro hc))<;>(refine vl ?_;refine mv ?_;refine qg ?_));all_goals (refine qF ⟨_,rfl,?_⟩)
  all_goals rw [qaE (by omega)] at hc
  ·exact ⟨.inl ⟨rfl,hc⟩,rfl⟩
  ·exact ⟨.inr ⟨rfl,hc⟩,rfl⟩
 ·refine qF ⟨_,rfl,?_⟩;refine ⟨.inr ⟨rfl,fun q=>?_⟩,rfl⟩;cases s with
  | nil=>cases q
  | cons a t=>simp at hc;omega
def Je (s:List UInt8):List UInt8:=if s.getLast? = some 10 then s.take (s.length - 1) else s
theorem gG {h0:AH} (s:List UInt8) (hs:s.length≤1000000):Fn Tryz.prog Xh 185 [str s,str [10]] h0 (fun v h'=>∃ b:Bool,v = .tuple #[str (Je s),.bool b]∧(b=true↔s.getLast? = some 10)∧h'=h0):=by
 refine zF rfl Tryz.func185 rfl rfl ?_;all_goals (repeat' (first|refine qx ?_|refine qi rfl ?_|refine qw ?_|refine qA ?_|refine qh ?_|refine qj ?_|refine qo ?_|(refine qf 0 ?_;refine mv ?_;refine mv ?_;refine qg ?_)|(refine qf 1 ?_;refine mv ?_;refine mv ?_)))
 (refine qH rfl rfl rfl rfl rfl ((qaJ s hs).mono ?_);rintro _ _ ⟨⟨rfl,hq⟩|⟨rfl,hq⟩,rfl⟩)<;>(refine vl ?_;refine qg ?_)
 ·all_goals (repeat' (first|refine qx ?_|refine qi rfl ?_|refine qw ?_|refine qA ?_|refine qh ?_|refine qj ?_|refine qo ?_|(refine qf 2 ?_;(iterate 3 refine mv ?_);refine qg ?_)|(refine qf 3 ?_;refine mv ?_;refine mv ?_;refine tl ?_;refine mv ?_;refine tl ?_;(first|refine sb ?_|refine vl ?_))))
  have hp:1≤s.length:=by
   cases s with
   | nil=>cases hq
   | cons a t=>simp
  obtain ⟨n,hn⟩:∃ n,n=s.length - 1:=⟨_,rfl⟩
  have e:((s.length:Int) - (([10]:List UInt8).length:Nat))=(n:Nat):=by simp;omega
  rw [e];refine kS (a:=0) (b:=n) ?_;(refine mv ?_;refine mv ?_;refine qg ?_);all_goals (repeat' (first|refine qx ?_|refine qi rfl ?_|refine qw ?_|refine qA ?_|refine qh ?_|refine qj ?_|refine qo ?_))
  refine qF ⟨_,rfl,?_⟩;refine ⟨true,?_,by simp [hq],rfl⟩;rw [show Je s=(s.drop 0).take (n - 0) by unfold Je;rw [if_pos hq];simp [hn]];rfl
 ·skip
  all_goals (repeat' (first|refine qx ?_|refine qi rfl ?_|refine qw ?_|refine qA ?_|refine qh ?_|refine qj ?_|refine qo ?_|(refine qf 2 ?_;(iterate 3 refine mv ?_);refine qg ?_)))
  refine qF ⟨_,rfl,?_⟩;refine ⟨false,?_,by simp [hq],rfl⟩;rw [show Je s=s by unfold Je;rw [if_neg hq]];rfl
theorem qaQ {h0:AH} (s:List UInt8) (hs:s.length≤1000000):Fn Tryz.prog Xh 147 [str s,str [10]] h0 (fun v h'=>∃ b:Bool,v = .tuple #[str (Je s),.bool b]∧(b=true↔s.getLast? = some 10)∧h'=h0):=by
 refine zF rfl Tryz.func147 rfl rfl ?_;all_goals (repeat' (first|refine qx ?_|refine qi rfl ?_|refine qw ?_|refine qA ?_|refine qh ?_|refine qj ?_|refine qo ?_|(refine qf 0 ?_;refine mv ?_;refine mv ?_;refine qg ?_)|(refine qf 1 ?_;refine mv ?_;refine mv ?_)))
 (refine qH rfl rfl rfl rfl rfl ((gG s hs).mono ?_);rintro _ _ ⟨b,rfl,hb,rfl⟩)<;>(refine vl ?_;refine vl ?_;refine mv ?_;refine mv ?_;refine qg ?_)
 all_goals (repeat' (first|refine qx ?_|refine qi rfl ?_|refine qw ?_|refine qA ?_|refine qh ?_|refine qj ?_|refine qo ?_))
 refine qF ⟨_,rfl,?_⟩;exact ⟨b,rfl,hb,rfl⟩
theorem qas {h0:AH} (s sep:List UInt8) (hl:sep.length=1):Fn Tryz.prog Xh 209 [str s,str sep] h0 (fun v h'=>v = .int .i64 (qaR (sep.getD 0 0) s:Nat)∧h'=h0):=by
 refine zF rfl Tryz.func209 rfl rfl ?_;all_goals (repeat' (first|refine qx ?_|refine qi rfl ?_|refine qw ?_|refine qA ?_|refine qh ?_|refine qj ?_|refine qo ?_|(refine qf 0 ?_;refine mv ?_;refine qg ?_)|(refine qf 1 ?_;refine mv ?_;refine tl ?_;(first|refine cT ?_|refine cF ?_|(refine cS ?_ ?_<;>intro hc))<;>(refine qg ?_))|(refine qf 2 ?_;refine mv ?_)|(refine qf 3 ?_;refine mv ?_;refine tl ?_;(first|refine cT ?_|refine cF ?_|(refine cS ?_ ?_<;>intro hc))<;>(refine qg ?_))|(refine qf 4 ?_;refine mv ?_;refine mv ?_;(first|refine ti ?_|refine vl ?_))|(refine qf 5 ?_;refine mv ?_;refine qg ?_)))
 all_goals (try (exfalso;omega))
 (refine qH rfl rfl rfl rfl rfl ((qc0 s (sep.getD 0 0)).mono ?_);rintro _ _ ⟨rfl,rfl⟩)<;>(refine mv ?_;refine qg ?_)
 all_goals (repeat' (first|refine qx ?_|refine qi rfl ?_|refine qw ?_|refine qA ?_|refine qh ?_|refine qj ?_|refine qo ?_))
 refine qF ⟨_,rfl,?_⟩;exact ⟨rfl,rfl⟩
theorem qaN {c:UInt8} {s:List UInt8} (h:QH c s=none):Yi c s = -1:=by unfold Yi;rw [h]
theorem yZ {c:UInt8} {s:List UInt8} {m:Nat} (h:QH c s=some m):Yi c s=m:=by unfold Yi;rw [h]
theorem XV {α:Type} {l:List α} {i:Nat} (h:i<l.length) (x:α):(l.set i x).take (i+1)=l.take i ++ [x]:=by
 rw [List.take_add_one,List.getElem?_set_self h,List.take_set_of_le (zA3 _)];rfl
theorem KL {h0:AH} (w:WfH h0) (s sep:List UInt8) (hl:sep.length=1) (hs:s.length≤1000000):Fn Tryz.prog Xh 186 [str s,str sep,.int .i64 0,.int .i64 (-1)] h0 (fun v h'=>Hs h0 h' [.sl v 9 1 eS (jm (sep.getD 0 0) s)]):=by
 have S:=Hs.start w;have hne:sep≠[]:=fun q=>by rw [q] at hl;cases hl
 generalize hc0:sep.getD 0 0=c
 have hlen:=Zy c s;have hcs:s.countP (· == c)≤s.length:=List.countP_le_length;obtain ⟨n,hn⟩:∃ n,(jm c s).length=n:=⟨_,rfl⟩
 refine zF rfl Tryz.func186 rfl rfl ?_;all_goals (repeat' (first|refine qx ?_|refine qi rfl ?_|refine qw ?_|refine qA ?_|refine qh ?_|refine qj ?_|refine qo ?_|(refine qf 0 ?_;refine mv ?_;refine qg ?_)|(refine qf 1 ?_;refine mv ?_;(first|refine cT ?_|refine cF ?_|(refine cS ?_ ?_<;>intro hc))<;>(refine qg ?_))|(refine qf 2 ?_;refine mv ?_;refine qg ?_)|(refine qf 3 ?_;refine mv ?_;(refine tS ?_ ?_<;>intro hc)<;>(refine qg ?_))|(refine qf 4 ?_;refine mv ?_;refine mv ?_)|(refine qf 5 ?_;refine mv ?_;(first|refine cT ?_|refine cF ?_|(refine cS ?_ ?_<;>intro hc))<;>(refine qg ?_))|(refine qf 6 ?_;refine mv ?_;refine mv ?_)|(refine qf 7 ?_;refine mv ?_;refine mv ?_;refine tl ?_;(first|refine ad ?_|refine vl ?_);refine mn ?_;refine mv ?_;refine qg ?_)|(refine qf 8 ?_;refine mv ?_)))
 ·exact absurd hc hne
 have hcb:qaR (sep.getD 0 0) s=s.countP (· == c):=by rw [hc0];rfl
 (refine qH rfl rfl rfl rfl rfl ((qas s sep hl).mono ?_);rintro _ h0 ⟨rfl,rfl⟩)<;>((first|refine ad ?_|refine vl ?_);refine mv ?_;refine qg ?_)
 rw [hc0];rw [hc0] at hcb;all_goals (repeat' (first|refine qx ?_|refine qi rfl ?_|refine qw ?_|refine qA ?_|refine qh ?_|refine qj ?_|refine qo ?_|(refine qf 7 ?_;refine mv ?_;refine mv ?_;refine tl ?_;(first|refine ad ?_|refine vl ?_);refine mn ?_;refine mv ?_;refine qg ?_)|(refine qf 8 ?_;refine mv ?_)))
 have e1:min ((qaR c s:Nat)+1:Int) ((s.length:Int)+1)=n:=by omega
 simp only [e1];refine qdZ (z:=1) (by_:=16) (enc:=eS) (y0:=[]) S rfl rfl rfl rfl rfl rfl rfl rfl rfl (by intro _;rfl) (by first|omega|grind) rfl rfl ?_;clear S;intro v h S;refine mv ?_;refine qg ?_;all_goals (repeat' (first|refine qx ?_|refine qi rfl ?_|refine qw ?_|refine qA ?_|refine qh ?_|refine qj ?_|refine qo ?_|(refine qf 9 ?_;refine mv ?_;(first|refine sb ?_|refine vl ?_);refine mv ?_;refine qg ?_)|(refine qf 10 ?_;refine mv ?_;refine qg ?_)))
 simp only [zA0] at S;refine zK (σ:=Nat×List UInt8×List (List UInt8)) (fun (i,t,l) h'=>Hs h0 h' [.sl v 9 1 eS l]∧l.length=n∧i+(jm c t).length=n∧jm c s=l.take i ++ jm c t∧t.length≤1000000) (fun (i,t,l)=>n - i) (fun (i,t,l)=>[(0,str t),(1,str sep),(2,.int .i64 0),(3,.int .i64 ((n:Int) - 1)),(9,v),(10,.int .i64 i)]) (0,s,List.replicate n []) zf ?_ ?_
 ·exact ⟨S,by simp,by omega,by simp,hs⟩
 clear S;rintro ⟨i,t,l⟩ h ⟨S,h1,h2,h3,h4⟩;have hp:0<(jm c t).length:=List.length_pos_iff.2 (Jc c t);all_goals (repeat' (first|refine qx ?_|refine qi rfl ?_|refine qw ?_|refine qA ?_|refine qh ?_|refine qj ?_|refine qo ?_|(refine qf 11 ?_;refine mv ?_;refine mv ?_;(first|refine cT ?_|refine cF ?_|(refine cS ?_ ?_<;>intro hc))<;>(refine qg ?_))|(refine qf 12 ?_;refine mv ?_;refine mv ?_)|(refine qf 17 ?_;(iterate 3 refine mv ?_);(first|refine Za S ?_|refine jQ S rfl rfl ?_);(first|(refine sB S rfl rfl ?_;clear S;intro h S)|(refine J3 S rfl rfl ?_;clear S;intro h S));refine qg ?_)|(refine qf 18 ?_;refine mv ?_;refine mv ?_;(first|refine ad ?_|refine vl ?_))))
 ·have hi:i+1<n:=by omega
  (refine qH rfl rfl rfl rfl rfl ((qar t sep hl h4).mono ?_);rintro _ h ⟨rfl,rfl⟩)<;>(refine mv ?_;refine qg ?_)
  rw [hc0];rcases hf:QH c t with _|m
  ·exfalso
   rw [Jl (Yh.1 hf)] at h2;simp at h2;omega
  ·rw [yZ hf];obtain ⟨m1,m2,m3⟩:=ZH hf;have m4:=gu hf;all_goals (repeat' (first|refine qx ?_|refine qi rfl ?_|refine qw ?_|refine qA ?_|refine qh ?_|refine qj ?_|refine qo ?_|(refine qf 13 ?_;refine mv ?_;(first|refine cT ?_|refine cF ?_|(refine cS ?_ ?_<;>intro hc))<;>(refine qg ?_))|(refine qf 14 ?_;(iterate 5 refine mv ?_);(first|refine ad ?_|refine vl ?_);refine kS ?_;(first|refine Za S ?_|refine jQ S rfl rfl ?_);(first|(refine sB S rfl rfl ?_;clear S;intro h S)|(refine J3 S rfl rfl ?_;clear S;intro h S));refine qg ?_)|(refine qf 15 ?_;(iterate 3 refine mv ?_);refine tl ?_;(first|refine ad ?_|refine vl ?_);refine kS ?_;refine mv ?_;refine qg ?_)|(refine qf 16 ?_;refine mv ?_;(first|refine ad ?_|refine vl ?_);refine mv ?_;refine qg ?_)|(refine qf 17 ?_;(iterate 3 refine mv ?_);(first|refine Za S ?_|refine jQ S rfl rfl ?_);(first|(refine sB S rfl rfl ?_;clear S;intro h S)|(refine J3 S rfl rfl ?_;clear S;intro h S));refine qg ?_)|(refine qf 18 ?_;refine mv ?_;refine mv ?_;(first|refine ad ?_|refine vl ?_))))
   have e1:(t.drop (m+sep.length)).take (t.length - (m+sep.length))=t.drop (m+1):=by rw [hl,zF8 (by simp)]
   have e2:(t.drop 0).take (m+0 - 0)=t.take m:=by simp
   rw [e1,e2];rw [e2] at S;refine ⟨(i+1,t.drop (m+1),l.set i (t.take m)),?_,?_,zf⟩
   ·show n - (i+1)<n - i;omega
   ·rw [m4] at h2 h3;simp only [zC4] at h2;(try simp only [zA0] at S);refine ⟨by simpa using S,by simpa using h1,by omega,?_,by simp;omega⟩;rw [h3,XV (by omega)];simp
 ·have hi:i+1=n:=by omega
  obtain ⟨u,hu⟩:∃ u,jm c t=[u]:=by
   match hq:jm c t with
   | []=>exact absurd hq (Jc c t)
   | [u]=>exact ⟨u,rfl⟩
   | u :: u2 :: r=>rw [hq] at h2;simp at h2;omega
  obtain ⟨rfl,-⟩:=qcB hu;all_goals (repeat' (first|refine qx ?_|refine qi rfl ?_|refine qw ?_|refine qA ?_|refine qh ?_|refine qj ?_|refine qo ?_|(refine qf 17 ?_;(iterate 3 refine mv ?_);(first|refine Za S ?_|refine jQ S rfl rfl ?_);(first|(refine sB S rfl rfl ?_;clear S;intro h S)|(refine J3 S rfl rfl ?_;clear S;intro h S));refine qg ?_)|(refine qf 18 ?_;refine mv ?_;refine mv ?_;(first|refine ad ?_|refine vl ?_))))
  (try simp only [zA0] at S)
  have e:(l.set i t)=jm c s:=by
   rw [h3,hu,← XV (by omega),zF8 (by simp;omega)]
  rw [e] at S;refine thA (i+1) S rfl rfl ?_;refine mv ?_;refine qg ?_;all_goals (repeat' (first|refine qx ?_|refine qi rfl ?_|refine qw ?_|refine qA ?_|refine qh ?_|refine qj ?_|refine qo ?_))
  refine qF ⟨_,rfl,?_⟩;exact S
theorem split_ok {h0:AH} (w:WfH h0) (s sep:List UInt8) (hl:sep.length=1) (hs:s.length≤1000000):Fn Tryz.prog Xh 148 [str s,str sep] h0 (fun v h'=>Hs h0 h' [.sl v 9 1 eS (jm (sep.getD 0 0) s)]):=by
 have S:=Hs.start w;refine zF rfl Tryz.func148 rfl rfl ?_;all_goals (repeat' (first|refine qx ?_|refine qi rfl ?_|refine qw ?_|refine qA ?_|refine qh ?_|refine qj ?_|refine qo ?_|(refine qf 0 ?_;refine mv ?_;refine qg ?_)|(refine qf 1 ?_;refine mv ?_;refine mv ?_)))
 (refine qH rfl rfl rfl rfl rfl ((KL S.wf s sep hl hs).mono ?_);rintro v h x)<;>(replace S:=S.Xo x;clear x;refine mv ?_;refine qg ?_)
 all_goals (repeat' (first|refine qx ?_|refine qi rfl ?_|refine qw ?_|refine qA ?_|refine qh ?_|refine qj ?_|refine qo ?_))
 refine qF ⟨_,rfl,?_⟩;exact S
theorem qaa (s:List UInt8):(Je s).length≤s.length:=by
 unfold Je;split
 ·simp
 ·exact zA3 _
theorem qa3 {h0:AH} (w:WfH h0) (s:List UInt8) (hs:s.length≤1000000):Fn Tryz.prog Xh 120 [str s] h0 (fun v h'=>∃ (u:Value) (b:Bool),v = .tuple #[u,.bool b]∧(b=true↔s.getLast? = some 10∧[] ∉ jm 32 (Je s))∧Hs h0 h' [.sl u 9 1 eS (jm 32 (Je s))]):=by
 have S:=Hs.start w;have hcl:=qaa s;refine zF rfl Tryz.func120 rfl rfl ?_;all_goals (repeat' (first|refine qx ?_|refine qi rfl ?_|refine qw ?_|refine qA ?_|refine qh ?_|refine qj ?_|refine qo ?_|(refine qf 0 ?_;refine mv ?_;refine mv ?_;refine qg ?_)|(refine qf 1 ?_;refine mv ?_)))
 (refine qH rfl rfl rfl rfl rfl ((qaQ s hs).mono ?_);rintro _ h0 ⟨b,rfl,hb,rfl⟩)<;>(refine mv ?_;refine vl ?_;refine vl ?_;refine mv ?_;refine mv ?_;refine qg ?_)
 all_goals (repeat' (first|refine qx ?_|refine qi rfl ?_|refine qw ?_|refine qA ?_|refine qh ?_|refine qj ?_|refine qo ?_|(refine qf 2 ?_;refine mv ?_)))
 (refine qH rfl rfl rfl rfl rfl ((split_ok w (Je s) [32] rfl (by omega)).mono ?_);rintro u h S)<;>(refine mv ?_;refine qg ?_)
 replace S:Hs h0 h [.sl u 9 1 eS (jm 32 (Je s))]:=S;obtain ⟨ws,hws⟩:∃ ws,ws=jm 32 (Je s):=⟨_,rfl⟩
 have hwl:ws.length≤1000001:=by
  rw [hws,Zy];have:(Je s).countP (· == 32)≤(Je s).length:=List.countP_le_length;omega
 rw [← hws] at S ⊢;all_goals (repeat' (first|refine qx ?_|refine qi rfl ?_|refine qw ?_|refine qA ?_|refine qh ?_|refine qj ?_|refine qo ?_|(refine qf 2 ?_;refine mv ?_)|(refine qf 3 ?_;refine mv ?_;(first|refine Zg S ?_|refine J5 S rfl rfl ?_);refine mv ?_;refine qg ?_)))
 refine zK (σ:=Nat×Bool) (fun (i,c) h'=>Hs h0 h' [.sl u 9 1 eS ws]∧i≤ws.length∧(c=true↔s.getLast? = some 10∧∀ j,j<i→ws.getD j default≠[])) (fun (i,c)=>ws.length - i) (fun (i,c)=>[(5,.bool c),(6,u),(16,u),(17,.int .i64 ws.length),(18,.int .i64 i)]) (0,b) zf ?_ ?_
 ·exact ⟨S,zB0 _,by rw [hb];simp⟩
 clear S;rintro ⟨i,c⟩ h ⟨S,i1,i2⟩;all_goals (repeat' (first|refine qx ?_|refine qi rfl ?_|refine qw ?_|refine qA ?_|refine qh ?_|refine qj ?_|refine qo ?_|(refine qf 4 ?_;(first|refine cT ?_|refine cF ?_|(refine cS ?_ ?_<;>intro hc))<;>(refine qg ?_))))
 ·have hil:i<ws.length:=by omega
  cases c with
  | true =>
   have i3:=i2.1 rfl;all_goals (repeat' (first|refine qx ?_|refine qi rfl ?_|refine qw ?_|refine qA ?_|refine qh ?_|refine qj ?_|refine qo ?_|(refine qf 5 ?_;(first|refine Za S ?_|refine jQ S rfl rfl ?_);(first|refine lB S rfl rfl ?_|refine zh S rfl rfl ?_|refine zU S ?_|refine lH S ?_);refine mv ?_;refine qg ?_)|(refine qf 6 ?_;refine mv ?_;refine mv ?_;(first|refine off ?_|refine mv ?_);(first|refine off ?_|(refine tS ?_ ?_<;>intro hc))<;>(refine vl ?_;refine mv ?_;refine qg ?_))|(refine qf 7 ?_;(first|refine ad ?_|refine vl ?_);refine mv ?_;refine qg ?_)))
   all_goals (try simp only [zA0] at *)
   ·refine ⟨(i+1,false),?_,?_,zf⟩
    ·show ws.length - (i+1)<ws.length - i;omega
    ·refine ⟨S,by (try dsimp only);omega,⟨fun q=>(by cases q),fun q=>?_⟩⟩;exact absurd (by assumption) (q.2 i (by omega))
   ·refine ⟨(i+1,true),?_,?_,zf⟩
    ·show ws.length - (i+1)<ws.length - i;omega
    ·exact ⟨S,by (try dsimp only);omega,fun _=>⟨i3.1,Vd i3.2 (by assumption)⟩,fun _=>rfl⟩
  | false =>
   all_goals (repeat' (first|refine qx ?_|refine qi rfl ?_|refine qw ?_|refine qA ?_|refine qh ?_|refine qj ?_|refine qo ?_|(refine qf 5 ?_;(first|refine Za S ?_|refine jQ S rfl rfl ?_);(first|refine lB S rfl rfl ?_|refine zh S rfl rfl ?_|refine zU S ?_|refine lH S ?_);refine mv ?_;refine qg ?_)|(refine qf 6 ?_;refine mv ?_;refine mv ?_;(first|refine off ?_|refine mv ?_);(first|refine off ?_|(refine tS ?_ ?_<;>intro hc))<;>(refine vl ?_;refine mv ?_;refine qg ?_))|(refine qf 7 ?_;(first|refine ad ?_|refine vl ?_);refine mv ?_;refine qg ?_)))
   refine ⟨(i+1,false),?_,?_,zf⟩
   ·show ws.length - (i+1)<ws.length - i;omega
   ·refine ⟨S,by (try dsimp only);omega,⟨fun q=>(by cases q),fun q=>?_⟩⟩;have:=i2.2 ⟨q.1,fun j hj=>q.2 j (by omega)⟩;cases this
 ·obtain rfl:i=ws.length:=by omega
  all_goals (repeat' (first|refine qx ?_|refine qi rfl ?_|refine qw ?_|refine qA ?_|refine qh ?_|refine qj ?_|refine qo ?_|(refine qf 8 ?_;(iterate 4 refine mv ?_);refine qg ?_)))
  refine qF ⟨_,rfl,?_⟩;refine ⟨u,c,rfl,?_,S⟩;rw [i2];constructor
  ·rintro ⟨q1,q2⟩;refine ⟨q1,fun q=>?_⟩;obtain ⟨j,hj,e⟩:=qM.1 q;exact q2 j hj e
  ·rintro ⟨q1,q2⟩;exact ⟨q1,fun j hj e=>q2 (e ▸ qJ hj)⟩
end Go.Proofs.Xx
