/-
  A guest with another name: plain laws.
-/
import Derived.Test.YtidmdnenlgjpeaaGreatDoorM13
import Derived.Test.YtidmdnenlgjpeaaGreatDoorM9
import Derived.Test.YtidmdnenlgjpeaaGreatDoorM11
set_option linter.unusedSimpArgs false
set_option linter.unusedVariables false
set_option linter.unusedSectionVars false
set_option maxRecDepth 100000
namespace Go.Proofs.Xx
open Go Go.Proofs
def jb (f t n:List UInt8):List UInt8:=if n=f then t else n
def Q8 (f t:List UInt8) (x:Ti):Ti:=jW (jb f t x.a) (jb f t x.b) x.k
def Yl (us:List Gu) (i:Nat) (t:List UInt8):List Gu:=us.set i { us.getD i default with name:=t }
structure Ren (r r':Rl) (i:Nat) (t:List UInt8):Prop where
 us:r'.us=Yl r.us i t
 pm:r'.ts.Perm (r.ts.map (Q8 (r.us.getD i default).name t))
 ts:TS r'.ts
theorem xE (f t:List UInt8):jb f t f=t:=if_pos rfl
theorem Xp {f t n:List UInt8} (h:n≠f):jb f t n=n:=if_neg h
theorem Jg {f t n:List UInt8} (h:n≠t):jb t f (jb f t n)=n:=by
 by_cases e:n=f
 ·rw [e,xE,xE]
 ·rw [Xp e,Xp h]
theorem je {f t n m:List UInt8} (h1:n≠t) (h2:m≠t) (h:jb f t n=jb f t m):n=m:=by
 rw [← Jg (f:=f) h1,h,Jg h2]
theorem JU (a b:List UInt8) (k:Int):((jW a b k).a=a∧(jW a b k).b=b)∨((jW a b k).a=b∧(jW a b k).b=a):=by
 unfold jW jY jZ;simp only;by_cases h:zG b a
 ·rw [if_pos h,if_neg (zZ h)];exact .inr ⟨rfl,rfl⟩
 ·rw [if_neg h];rcases Zr h with e|e
  ·subst e;rw [if_neg (zA _)];exact .inl ⟨rfl,rfl⟩
  ·rw [if_pos e];exact .inl ⟨rfl,rfl⟩
theorem qcG {a b:List UInt8} (k:Int) (h:a≠b):zG (jW a b k).a (jW a b k).b:=by
 unfold jW jY jZ;simp only;by_cases q:zG b a
 ·rw [if_pos q,if_neg (zZ q)];exact q
 ·rw [if_neg q];rcases Zr q with e|e
  ·exact absurd e h
  ·rw [if_pos e];exact e
theorem P9 {t:Ti} (h:zG t.a t.b) {a b:List UInt8} (e:(a=t.a∧b=t.b)∨(a=t.b∧b=t.a)):jW a b t.k=t:=by
 unfold jW;rcases e with ⟨rfl,rfl⟩|⟨rfl,rfl⟩
 ·rw [Z7 h,Z8 h]
 ·rw [Vs,Vt,Z7 h,Z8 h]
theorem TS.eq:∀ {l m:List Ti},TS l→TS m→l.Perm m→l=m
 | [],m,_,_,p=>(List.nil_perm.1 p).symm
 | x :: l,[],_,_,p=>absurd p.length_eq (by simp)
 | x :: l,y :: m,h1,h2,p=>by
  have a1:=zH7.1 h1;have a2:=zH7.1 h2;have e:x=y:=by
   rcases zE8.1 (p.mem_iff.1 (List.mem_cons_self (a:=x) (l:=l))) with q|q
   ·exact q
   ·rcases zE8.1 (p.mem_iff.2 (List.mem_cons_self (a:=y) (l:=m))) with g|g
    ·exact g.symm
    ·exact absurd (Qg (a1.1 y g) (a2.1 x q)) (WX x)
  subst e;rw [TS.eq a1.2 a2.2 (List.Perm.cons_inv p)]
theorem Qy {us:List Gu} {i:Nat} {t:List UInt8} (hi:i<us.length) (k:Nat):(Yl us i t).getD k default=if k=i then { us.getD i default with name:=t } else us.getD k default:=jC _ _ hi k
theorem Jm (us:List Gu) (i:Nat) (t:List UInt8):(Yl us i t).length=us.length:=by simp [Yl]
theorem qbW {us:List Gu} (nd:∀ i j,i<j→j<us.length→(us.getD i default).name≠(us.getD j default).name) {i:Nat} (hi:i<us.length) {n:List UInt8} (hn:(us.getD i default).name=n):gat us n=some i:=by
 cases hq:gat us n with
 | none=>exact absurd hn (Zi.1 hq _ (qM hi))
 | some j =>
  obtain ⟨h1,h2,h3⟩:=jo hq;rcases zE7 i j with q|q|q
  ·exact absurd hn (h3 i q)
  ·rw [q]
  ·exact absurd (h2.trans hn.symm) (nd j i q hi)
section
variable {r r':Rl} {i:Nat} {f t:List UInt8}
theorem kK (H:RO r) (hi:i<r.us.length) (ht:gat r.us t=none):∀ j k,j<k→k<(Yl r.us i t).length→((Yl r.us i t).getD j default).name≠((Yl r.us i t).getD k default).name:=fun j k hjk hk=>by
 rw [Jm] at hk;rw [Qy hi,Qy hi];have hz:=Zi.1 ht;by_cases e1:j=i
 ·rw [if_pos e1,if_neg (by omega)];exact fun q=>hz _ (qM hk) q.symm
 ·rw [if_neg e1];by_cases e2:k=i
  ·rw [if_pos e2];exact hz _ (qM (by omega))
  ·rw [if_neg e2];exact H.nd j k hjk hk
theorem WV (H:RO r) (hi:i<r.us.length) (hf:(r.us.getD i default).name=f) (ht:gat r.us t=none) {n:List UInt8} (hn:n≠t):gat (Yl r.us i t) (jb f t n)=gat r.us n:=by
 have nd:=kK H hi ht;have hl:=Jm r.us i t;by_cases e:n=f
 ·rw [e,xE,← hf,H.gat hi];exact qbW nd (by omega) (by rw [Qy hi,if_pos rfl])
 ·rw [Xp e];cases hq:gat r.us n with
  | none =>
   rw [Zi] at hq ⊢;intro g hg;obtain ⟨k,hk,rfl⟩:=qL.1 hg;rw [Qy hi];split
   ·exact hn.symm
   ·exact hq _ (qM (by omega))
  | some j =>
   obtain ⟨h1,h2,h3⟩:=jo hq;refine qbW nd (by omega) ?_;rw [Qy hi,if_neg]
   ·exact h2
   ·intro q;rw [q,hf] at h2;exact e h2.symm
theorem qdq {g:Gu} (h:Zj g=0) (ht:Jo t):Zj { g with name:=t }=0:=by
 obtain ⟨h1,h2,h3,h4,h5⟩:=QI h;have hn:XD { g with name:=t }:=⟨ht,h1.2⟩
 unfold Zj;rw [if_neg (zF4.2 hn),if_neg (zF4.2 h2),if_neg (zF4.2 h3),if_neg (zF4.2 ⟨h4,h5⟩)]
theorem Ren.mem (R:Ren r r' i t) (hf:(r.us.getD i default).name=f) {x:Ti}:x∈r'.ts↔∃ y∈r.ts,Q8 f t y=x:=by
 rw [R.pm.mem_iff,zF2,hf]
theorem Ren.ro (R:Ren r r' i t) (H:RO r) (hi:i<r.us.length) (hn:Jo t) (ht:gat r.us t=none):RO r':=by
 have hl:=Jm r.us i t;refine ⟨fun g hg=>?_,?_,?_,R.ts,fun x hx=>?_,?_⟩
 ·rw [R.us] at hg;obtain ⟨k,hk,rfl⟩:=qL.1 hg;rw [Qy hi];split
  ·exact qdq (H.chk _ (qM hi)) hn
  ·exact H.chk _ (qM (by omega))
 ·rw [R.us];exact kK H hi ht
 ·rw [R.us,hl];exact H.l64
 ·obtain ⟨y,hy,rfl⟩:=(R.mem rfl).1 hx;obtain ⟨y1,y2,y3,y4⟩:=H.tt y hy;have ya:y.a≠t:=fun q=>y3 (q ▸ ht);have yb:y.b≠t:=fun q=>y4 (q ▸ ht);have g1:gat r'.us (jb (r.us.getD i default).name t y.a)≠none:=by rw [R.us,WV H hi rfl ht ya];exact y3
  have g2:gat r'.us (jb (r.us.getD i default).name t y.b)≠none:=by rw [R.us,WV H hi rfl ht yb];exact y4
  refine ⟨qcG _ fun q=>xx y1 (je ya yb q),y2,?_⟩;unfold Q8;rcases JU (jb (r.us.getD i default).name t y.a) (jb (r.us.getD i default).name t y.b) y.k with ⟨e1,e2⟩|⟨e1,e2⟩
  ·rw [e1,e2];exact ⟨g1,g2⟩
  ·rw [e1,e2];exact ⟨g2,g1⟩
 ·rw [R.pm.length_eq,zC5];exact H.l256
theorem Ren.adj (R:Ren r r' i t) (H:RO r) (hf:(r.us.getD i default).name=f) (ht:gat r.us t=none) {k:Int} {a b:List UInt8} (ha:a≠t) (hb:b≠t):Xx.adj r k a b↔Xx.adj r' k (jb f t a) (jb f t b):=by
 constructor
 ·rintro ⟨x,h1,h2,h3⟩;refine ⟨Q8 f t x,(R.mem hf).2 ⟨x,h1,rfl⟩,h2,?_⟩;unfold Q8;rcases JU (jb f t x.a) (jb f t x.b) x.k with ⟨e1,e2⟩|⟨e1,e2⟩
  ·rw [e1,e2];rcases h3 with ⟨rfl,rfl⟩|⟨rfl,rfl⟩
   ·exact .inl ⟨rfl,rfl⟩
   ·exact .inr ⟨rfl,rfl⟩
  ·rw [e1,e2];rcases h3 with ⟨rfl,rfl⟩|⟨rfl,rfl⟩
   ·exact .inr ⟨rfl,rfl⟩
   ·exact .inl ⟨rfl,rfl⟩
 ·rintro ⟨x,h1,h2,h3⟩;obtain ⟨y,hy,rfl⟩:=(R.mem hf).1 h1;obtain ⟨y1,y2,y3,y4⟩:=H.tt y hy;have ya:y.a≠t:=fun q=>y3 (q ▸ ht);have yb:y.b≠t:=fun q=>y4 (q ▸ ht);refine ⟨y,hy,h2,?_⟩;unfold Q8 at h3;rcases JU (jb f t y.a) (jb f t y.b) y.k with ⟨e1,e2⟩|⟨e1,e2⟩
  ·rw [e1,e2] at h3;rcases h3 with ⟨g1,g2⟩|⟨g1,g2⟩
   ·exact .inl ⟨je ya ha g1,je yb hb g2⟩
   ·exact .inr ⟨je yb ha g1,je ya hb g2⟩
  ·rw [e1,e2] at h3;rcases h3 with ⟨g1,g2⟩|⟨g1,g2⟩
   ·exact .inr ⟨je yb ha g1,je ya hb g2⟩
   ·exact .inl ⟨je ya ha g1,je yb hb g2⟩
theorem Ren.spk (R:Ren r r' i t) (H:RO r) (hi:i<r.us.length) (hf:(r.us.getD i default).name=f) (ht:gat r.us t=none) {a b:List UInt8} (ha:a≠t) (hb:b≠t):Xx.spk r a b↔Xx.spk r' (jb f t a) (jb f t b):=by
 have tg:∀ k,(r'.us.getD k default).tg=(r.us.getD k default).tg:=fun k=>by
  rw [R.us,Qy hi];split
  ·rename_i e;rw [e]
  ·rfl
 unfold Xx.spk;rw [R.us,WV H hi hf ht ha,WV H hi hf ht hb];rw [← R.us];simp only [tg]
theorem Ren.pth (R:Ren r r' i t) (H:RO r) (hi:i<r.us.length) (hf:(r.us.getD i default).name=f) (ht:gat r.us t=none) {a b:List UInt8} {Q:List (List UInt8)} (h:Pth r a Q b):Pth r' (jb f t a) (Q.map (jb f t)) (jb f t b):=by
 induction h with
 | one=>exact .one
 | snoc h s ih =>
  rw [zC9];have hw:∀ {n},gat r.us n≠none→n≠t:=fun q e=>q (e ▸ ht);exact ih.snoc ((R.spk H hi hf ht (hw s.kn.1) (hw s.kn.2)).1 s)
theorem Ren.back {r'':Rl} (R:Ren r r' i t) (H:RO r) (hi:i<r.us.length) (hf:(r.us.getD i default).name=f) (ht:gat r.us t=none) (R2:Ren r' r'' i f):r''=r:=by
 have hl:=Jm r.us i t;have e1:r''.us=r.us:=by
  rw [R2.us,R.us];apply QH (by rw [Jm,Jm])
  intro k hk;rw [Qy (by omega)];split
  ·rename_i e
   rw [Qy hi,if_pos rfl,e,← hf]
  ·rename_i e
   rw [Qy hi,if_neg e]
 have hn:(r'.us.getD i default).name=t:=by rw [R.us,Qy hi,if_pos rfl]
 have e2:r''.ts=r.ts:=by
  refine TS.eq R2.ts H.ts (R2.pm.trans ?_);rw [hn];refine (R.pm.map _).trans ?_;rw [hf,List.map_map];have:r.ts.map (Q8 t f ∘ Q8 f t)=r.ts:=by
   conv=>rhs;rw [← List.map_id r.ts]
   refine List.map_congr_left fun x hx=>?_;obtain ⟨y1,y2,y3,y4⟩:=H.tt x hx;have ya:x.a≠t:=fun q=>y3 (q ▸ ht);have yb:x.b≠t:=fun q=>y4 (q ▸ ht);show jW (jb t f (jW (jb f t x.a) (jb f t x.b) x.k).a) (jb t f (jW (jb f t x.a) (jb f t x.b) x.k).b) x.k=x
   rcases JU (jb f t x.a) (jb f t x.b) x.k with ⟨e1,e2⟩|⟨e1,e2⟩
   ·rw [e1,e2,Jg ya,Jg yb];exact P9 y1 (.inl ⟨rfl,rfl⟩)
   ·rw [e1,e2,Jg ya,Jg yb];exact P9 y1 (.inr ⟨rfl,rfl⟩)
  rw [this]
 cases r;cases r'';simp only at e1 e2;rw [e1,e2]
end
def WB (n:Nat):Nat:=if n<256 then (lenTab.getD n 0).toNat else 8+(lenTab.getD (n / 256) 0).toNat
theorem GG:∀ n,n<512→0<n→WB n≤9∧n<2 ^ WB n∧2 ^ WB n≤2*n:=by decide +kernel
theorem qaj (n:Nat) (h:n<512):WB n≤9:=by
 rcases zF5 n with q|q
 ·subst q;decide
 ·exact (GG n h q).1
abbrev Js:Value:=.func (.func 82) #[] #[]
theorem QS:WOrd zW:=⟨WX,Qg,fun {x y z} h1 h2 h=>by
 rcases Ye x y with q|q|q
 ·exact h2 (Qg h q)
 ·refine h2 ?_;rcases h with h|h
  ·exact .inl (by rw [← q.1];exact h)
  ·exact .inr ⟨by rw [← q.1];exact h.1,by rw [← q.2];exact h.2⟩
 ·exact h1 q⟩
variable [Flag]
theorem Qr {h0:AH} (w:WfH h0) (x y:Ti):Fn Tryz.prog Xh 82 [pq x,pq y] h0 (fun v h'=>∃ d,v = .int .i64 d∧((d<0∧zW x y)∨(0≤d∧¬ zW x y))∧Hs h0 h' []) :=
 (xO w x y).mono fun u h' q=>by
  obtain ⟨⟨c,rfl,e1,e2⟩,S⟩:=q;refine ⟨c,rfl,?_,S⟩;rcases Int.lt_or_le c 0 with z|z
  ·exact .inl ⟨z,e1.1 z⟩
  ·exact .inr ⟨z,fun b=>by have:=e1.2 b;omega⟩
theorem qaX {h0:AH} (w:WfH h0) (n:Nat) (hn:n<512):Fn Tryz.prog Xh 162 [.int .u64 n] h0 (fun v h'=>v = .int .i64 (WB n:Int)∧Hs h0 h' []):=by
 rcases zA7 n 256 with q|q
 ·have:=GH w n q;unfold WB;rw [if_pos q];exact this
 unfold WB;rw [if_neg (by omega)];have S:=Hs.start w;have hl:=x9;have hb:(lenTab.getD (n / 256) 0).toNat<256:=UInt8.toNat_lt _;refine qZ rfl Tryz.func162 rfl rfl ?_;have e:(n:Int) / ((2 ^ min (Int.toNat 8) IntKind.u64.bits:Nat):Int)=((n / 256:Nat):Int):=by
  rw [show (2 ^ min (Int.toNat 8) IntKind.u64.bits:Nat)=256 by decide];rfl
 all_goals (repeat' (first|refine qg ?_|refine qh rfl ?_|refine qj ?_|refine qw ?_|refine qi ?_|refine zo ?_|refine zq ?_|(refine qc 0 ?_;refine qK ?_)|(refine qc 1 ?_;refine mv ?_;(first|refine cT ?_|refine cF ?_|(refine cS ?_ ?_<;>intro hc))<;>(refine qf ?_))|(refine qc 4 ?_;refine mv ?_;(first|refine cT ?_|refine cF ?_|(refine cS ?_ ?_<;>intro hc))<;>(refine qf ?_))|(refine qc 7 ?_;refine mv ?_;(first|refine cT ?_|refine cF ?_|(refine cS ?_ ?_<;>intro hc))<;>(refine qf ?_))|(refine qc 8 ?_;refine mv ?_;(first|refine sR1 ?_|refine sR ?_);refine qK ?_)|(refine qc 9 ?_;refine mv ?_;(first|refine ad ?_|refine vl ?_);refine qK ?_)))
 simp only [e];refine qc 10 ?_;refine qE ?_;refine cU ?_;refine ti (l:=lenTab) ?_;rw [zA0];(first|refine cI ?_|refine vl ?_);(first|refine ad ?_|refine vl ?_);refine qK ?_;all_goals (repeat' (first|refine qg ?_|refine qh rfl ?_|refine qj ?_|refine qw ?_|refine qi ?_|refine zo ?_|refine zq ?_|(refine qc 0 ?_;refine qK ?_)|(refine qc 1 ?_;refine mv ?_;(first|refine cT ?_|refine cF ?_|(refine cS ?_ ?_<;>intro hc))<;>(refine qf ?_))|(refine qc 2 ?_;refine mv ?_;(first|refine sR1 ?_|refine sR ?_);refine qK ?_)|(refine qc 3 ?_;refine qK ?_)|(refine qc 4 ?_;refine mv ?_;(first|refine cT ?_|refine cF ?_|(refine cS ?_ ?_<;>intro hc))<;>(refine qf ?_))|(refine qc 5 ?_;refine mv ?_;(first|refine sR1 ?_|refine sR ?_);refine qK ?_)|(refine qc 6 ?_;refine mv ?_;(first|refine ad ?_|refine vl ?_);refine qK ?_)|(refine qc 7 ?_;refine mv ?_;(first|refine cT ?_|refine cF ?_|(refine cS ?_ ?_<;>intro hc))<;>(refine qf ?_))|(refine qc 8 ?_;refine mv ?_;(first|refine sR1 ?_|refine sR ?_);refine qK ?_)|(refine qc 9 ?_;refine mv ?_;(first|refine ad ?_|refine vl ?_);refine qK ?_)|(refine qc 10 ?_;refine qE ?_;(first|refine cU ?_|refine vl ?_);(first|refine ti ?_|refine vl ?_);(first|refine cI ?_|refine vl ?_);(first|refine ad ?_|refine vl ?_);refine qK ?_)))
 refine qC ⟨_,rfl,?_⟩;exact ⟨by show Value.int .i64 (8+_)=_;rfl,S⟩
theorem kX {h0:AH} (w:WfH h0) (n:Nat) (hn:n<512):Fn Tryz.prog Xh 126 [.int .u64 n] h0 (fun v h'=>v = .int .i64 (WB n:Int)∧Hs h0 h' []):=by
 have S:=Hs.start w;refine qZ rfl Tryz.func126 rfl rfl ?_;all_goals (repeat' (first|refine qg ?_|refine qh rfl ?_|refine qj ?_|refine qw ?_|refine qi ?_|refine zo ?_|refine zq ?_|(refine qc 0 ?_;refine qK ?_)|(refine qc 2 ?_;refine mv ?_)))
 (refine qx rfl rfl rfl rfl rfl ((qaX S.wf n hn).mono ?_);rintro _ h ⟨rfl,x⟩)<;>(replace S:=S.qN x;clear x;refine qK ?_)
 all_goals (repeat' (first|refine qg ?_|refine qh rfl ?_|refine qj ?_|refine qw ?_|refine qi ?_|refine zo ?_|refine zq ?_|(refine qc 0 ?_;refine qK ?_)|(refine qc 1 ?_;refine mv ?_)|(refine qc 2 ?_;refine mv ?_)))
 refine qC ⟨_,rfl,?_⟩;exact ⟨rfl,S⟩
theorem Gq {h0:AH} (w:WfH h0) (n:Nat) (hn:0<n∧n<512):Fn Tryz.prog Xh 189 [.int .i64 n] h0 (fun v h'=>∃ P:Int,v = .int .u64 P∧(n:Int)<P∧P≤2*n∧Hs h0 h' []):=by
 have S:=Hs.start w;have hk:=GG n hn.2 hn.1;refine qZ rfl Tryz.func189 rfl rfl ?_;all_goals (repeat' (first|refine qg ?_|refine qh rfl ?_|refine qj ?_|refine qw ?_|refine qi ?_|refine zo ?_|refine zq ?_|(refine qc 0 ?_;refine qK ?_)|(refine qc 1 ?_;refine mv ?_;(first|refine cW ?_|refine vl ?_))))
 (refine qx rfl rfl rfl rfl rfl ((kX S.wf n hn.2).mono ?_);rintro _ h ⟨rfl,x⟩)<;>(replace S:=S.qN x;clear x;(first|refine sL ?_|(refine aW ?_;intro r1 hr1 hr2));refine qK ?_)
 all_goals (repeat' (first|refine qg ?_|refine qh rfl ?_|refine qj ?_|refine qw ?_|refine qi ?_|refine zo ?_|refine zq ?_))
 refine qC ⟨_,rfl,?_⟩;refine ⟨_,rfl,?_,?_,S⟩
 ·have:(n:Int)<((2 ^ WB n:Nat):Int):=by exact_mod_cast hk.2.1
  simpa using this
 ·have:((2 ^ WB n:Nat):Int)≤((2*n:Nat):Int):=by exact_mod_cast hk.2.2
  simpa using this
end Go.Proofs.Xx
namespace Go.Proofs.Xx
open Go Go.Proofs
variable [Flag]
theorem qfF {h0 h:AH} {rs:List Rs} {v:Value} {l:List Ti} (a b:Nat) (S:Hs h0 h (.sl v 111 3 zh l :: rs)) (hab:a≤b) (hb:b≤l.length) (hl:l.length≤1000000) :
 Fn Tryz.prog Xh 165 [v,.int .i64 a,.int .i64 b,Js] h (fun _ h'=>∃ l',Sw a b l l'∧Srt zW a b l'∧Hs h0 h' (.sl v 111 3 zh l' :: rs)):=by
 have W:WOrd zW:=QS;refine qZ rfl Tryz.func165 rfl rfl ?_;all_goals (repeat' (first|refine qg ?_|refine qi ?_|(refine qc 0 ?_;refine qO ?_)))
 refine qH (σ:=Nat×List Ti) (fun (i,m) h'=>Hs h0 h' (.sl v 111 3 zh m :: rs)∧a<i∧Sw a b l m∧Srt zW a (min i b) m) (fun (i,m)=>b - i) (fun (i,m)=>[(0,v),(1,.int .i64 a),(2,.int .i64 b),(3,Js),(8,.int .i64 i)]) (a+1,l) qo ?_ ?_
 ·exact ⟨S,by omega,.refl _,fun i j q1 q2 q3=>by omega⟩
 clear S;rintro ⟨i,m⟩ h ⟨S,h1,h2,h3⟩;have hml:=h2.len;all_goals (repeat' (first|refine qg ?_|refine qh rfl ?_|refine qj ?_|refine qw ?_|refine qi ?_|(refine qc 1 ?_;refine qE ?_;(first|(refine cS ?_ ?_<;>intro hc))<;>(refine qf ?_))|(refine qc 3 ?_;refine qX ?_)))
 ·have hib:i<b:=by omega
  rw [zE5 (by omega)] at h3;refine qH (σ:=Nat×List Ti) (fun (j,n) h'=>Hs h0 h' (.sl v 111 3 zh n :: rs)∧a≤j∧j≤i∧Sw a b l n∧InsI zW a i j n) (fun (j,n)=>j) (fun (j,n)=>[(0,v),(1,.int .i64 a),(2,.int .i64 b),(3,Js),(8,.int .i64 i),(9,.int .i64 j)]) (i,m) qo ?_ ?_
  ·exact ⟨S,by omega,zA3 _,h2,InsI.start h3⟩
  clear S h2 h3 hml;rintro ⟨j,n⟩ h ⟨S,k1,k2,k3,k4⟩;have hnl:=k3.len;all_goals (repeat' (first|refine qg ?_|refine qh rfl ?_|refine qw ?_|(refine qc 2 ?_;refine qO ?_)|(refine qJ 4 ?_;refine qE ?_;(first|(refine cS ?_ ?_<;>intro hc))<;>(refine mv ?_;(first|refine off ?_|refine mv ?_);(first|refine off ?_|refine mv ?_);(first|refine off ?_|refine mv ?_);(first|refine off ?_|(refine qy S rfl rfl ?_));(first|refine off ?_|(refine qI S rfl rfl ?_));(first|refine off ?_|refine mv ?_);(first|refine off ?_|refine mv ?_);(first|refine off ?_|(refine sb ?_));(first|refine off ?_|(refine qy S rfl rfl ?_));(first|refine off ?_|(refine qI S rfl rfl ?_));(first|(refine off ?_;(refine off ?_)<;>(refine zU ?_))|skip)))))
  ·simp only [qB,qA,qG,zA0];(refine zx rfl rfl rfl rfl ((Qr S.wf _ _).mono ?_);rintro _ h ⟨d,rfl,⟨hd,hq⟩|⟨hd,hq⟩,x⟩)<;>(replace S:=S.qN x;clear x;(first|(first|refine cT ?_|refine cF ?_))<;>(refine zU ?_))
   ·all_goals (repeat' (first|refine qg ?_|refine qh rfl ?_|refine qj ?_|refine qi ?_|(refine qc 5 ?_;refine zO ?_)|(refine qJ 6 ?_;refine qE ?_;refine qE ?_;refine sb ?_;refine qE ?_;refine sb ?_;refine qy S rfl rfl ?_;refine qI S rfl rfl ?_;refine qE ?_;refine qy S rfl rfl ?_;refine qI S rfl rfl ?_;refine qy S rfl rfl ?_;(first|(refine zY S rfl rfl ?_;clear S;intro h S));refine qy S rfl rfl ?_;(first|(refine zY S rfl rfl ?_;clear S;intro h S));refine qf ?_)))
    simp only [qB,qA,qG,zA0] at S;refine ⟨(j - 1,swp n j (j - 1)),?_,?_,qo⟩
    ·show j - 1<j;omega
    ·exact ⟨S,by omega,by omega,k3.step j (j - 1) ⟨by omega,by omega⟩ ⟨by omega,by omega⟩ (by omega),k4.next W (by omega) k2 (by omega) hq⟩
   ·all_goals (repeat' (first|refine qh rfl ?_|refine qw ?_|(refine qc 2 ?_;refine qO ?_)))
    refine ⟨(i+1,n),?_,?_,qo⟩
    ·show b - (i+1)<b - i;omega
    ·simp only [zE5 (show i+1≤b by omega)];exact ⟨S,by omega,k3,k4.done W (.inr hq)⟩
  ·refine ⟨(i+1,n),?_,?_,qo⟩
   ·show b - (i+1)<b - i;omega
   ·simp only [zE5 (show i+1≤b by omega)];exact ⟨S,by omega,k3,k4.done W (.inl (by omega))⟩
 ·rw [Nat.min_eq_right (by omega)] at h3;refine ⟨_,rfl,?_⟩;exact ⟨m,h2,h3,S⟩
theorem qbB {h0 h:AH} {rs:List Rs} {v:Value} {l:List Ti} (lo hi f:Nat) (S:Hs h0 h (.sl v 111 3 zh l :: rs)) (hlo:lo≤hi) (hb:f+hi≤l.length) (hl:l.length≤1000000) (hh:Heap zW f (lo+1) hi l) :
 Fn Tryz.prog Xh 196 [v,.int .i64 lo,.int .i64 hi,.int .i64 f,Js] h (fun _ h'=>∃ l',Sw f (f+hi) l l'∧Heap zW f lo hi l'∧Hs h0 h' (.sl v 111 3 zh l' :: rs)):=by
 have W:WOrd zW:=QS;refine qZ rfl Tryz.func196 rfl rfl ?_;all_goals (repeat' (first|refine qg ?_|refine qi ?_|(refine qc 0 ?_;refine qX ?_)))
 refine qH (σ:=Nat×List Ti) (fun (root,m) h'=>Hs h0 h' (.sl v 111 3 zh m :: rs)∧(lo≤root∧root≤hi)∧Sw f (f+hi) l m∧SiftI zW f lo hi root m) (fun (root,m)=>hi - root) (fun (root,m)=>[(0,v),(1,.int .i64 lo),(2,.int .i64 hi),(3,.int .i64 f),(4,Js),(10,.int .i64 root)]) (lo,l) qo ?_ ?_
 ·exact ⟨S,⟨zA3 _,hlo⟩,.refl _,.start hh⟩
 clear S;rintro ⟨root,m⟩ h ⟨S,h1,h2,h3⟩;have hml:=h2.len;by_cases hc0:2*root+1<hi
 rotate_left
 ·all_goals (repeat' (first|refine qg ?_|refine qh rfl ?_|refine qw ?_|refine qi ?_|(refine qc 1 ?_;refine mv ?_;refine ml ?_;refine jR ?_)|(refine qc 2 ?_;refine qE ?_;(refine cT ?_)<;>(refine qf ?_))))
  refine ⟨_,rfl,?_⟩;exact ⟨m,h2,h3.done ⟨fun q=>by omega,fun q=>by omega⟩,S⟩
 have e1:(2:Int)*(root:Int)+1=((2*root+1:Nat):Int):=by omega
 have e2:((f:Int)+((2*root+1:Nat):Int)).toNat=f+(2*root+1):=by omega
 have e3:((f:Int)+((2*root+1:Nat):Int)+1).toNat=f+(2*root+2):=by omega
 have e4:((2*root+1:Nat):Int)+1=((2*root+2:Nat):Int):=by omega
 have e5:((f:Int)+((2*root+2:Nat):Int)).toNat=f+(2*root+2):=by omega
 have fin:∀ c:Nat,(c=2*root+1∨c=2*root+2)→c<hi→zW (m.getD (f+root) default) (m.getD (f+c) default)→(∀ d,(d=2*root+1∨d=2*root+2)→d<hi→¬ zW (m.getD (f+c) default) (m.getD (f+d) default))→SiftI zW f lo hi c (swp m (f+root) (f+c)):=fun c g1 g2 g3 g4=>h3.next W h1.1 g1 g2 (by omega) g4 g3
 have stop:∀ c:Nat,(c=2*root+1∨c=2*root+2)→c<hi→¬ zW (m.getD (f+root) default) (m.getD (f+c) default)→(∀ d,(d=2*root+1∨d=2*root+2)→d<hi→¬ zW (m.getD (f+c) default) (m.getD (f+d) default))→Heap zW f lo hi m:=fun c g1 g2 g3 g4 =>
  h3.done ⟨fun q=>W.ntr (g4 _ (.inl rfl) q) g3,fun q=>W.ntr (g4 _ (.inr rfl) q) g3⟩
 refine qi ?_;(repeat (refine qg ?_));refine qc 1 ?_;refine mv ?_;refine ml ?_;refine jR ?_;simp only [e1];(repeat (refine qg ?_));refine qc 2 ?_;refine qE ?_;(refine cF ?_)<;>(refine qf ?_)
 refine qh rfl ?_;refine qj ?_;refine jh (σ:=Nat) (fun c h'=>Hs h0 h' (.sl v 111 3 zh m :: rs)∧(c=2*root+1∨c=2*root+2)∧c<hi∧∀ d,(d=2*root+1∨d=2*root+2)→d<hi→¬ zW (m.getD (f+c) default) (m.getD (f+d) default)) (fun c=>[(0,v),(1,.int .i64 lo),(2,.int .i64 hi),(3,.int .i64 f),(4,Js),(10,.int .i64 root),(11,.int .i64 c)]) ?_ ?_
 ·all_goals (repeat' (first|refine qg ?_|refine qh rfl ?_|refine qj ?_|(refine qJ 3 ?_;refine mv ?_;refine ad ?_;refine mv ?_;(first|(refine cS ?_ ?_<;>intro hc))<;>(refine mv ?_;(first|refine off ?_|refine mv ?_);(first|refine off ?_|refine mv ?_);(first|refine off ?_|refine mv ?_);(first|refine off ?_|refine mv ?_);(first|refine off ?_|(refine ad ?_));(first|refine off ?_|(refine qy S rfl rfl ?_));(first|refine off ?_|(refine qI S rfl rfl ?_));(first|refine off ?_|refine mv ?_);(first|refine off ?_|refine mv ?_);(first|refine off ?_|refine mv ?_);(first|refine off ?_|(refine ad ?_));(first|refine off ?_|(refine ad ?_));(first|refine off ?_|(refine qy S rfl rfl ?_));(first|refine off ?_|(refine qI S rfl rfl ?_));(first|(refine off ?_;(refine off ?_)<;>(refine zU ?_))|skip)))))
  ·simp only [e2,e3];(refine zx rfl rfl rfl rfl ((Qr S.wf _ _).mono ?_);rintro _ h ⟨d,rfl,⟨hd,hq⟩|⟨hd,hq⟩,x⟩)<;>(replace S:=S.qN x;clear x;(first|(first|refine cT ?_|refine cF ?_))<;>(refine zU ?_))
   ·all_goals (repeat' (first|refine qh rfl ?_|(refine qc 4 ?_;refine qO ?_)))
    exact ⟨2*root+2,⟨S,.inr rfl,by omega,fun d q1 q2=>by rcases q1 with rfl|rfl;exact W.asym hq;exact W.irr _⟩,(qo)⟩
   ·all_goals (repeat' (first|refine qh rfl ?_|refine qj ?_))
    exact ⟨2*root+1,⟨S,.inl rfl,by omega,fun d q1 q2=>by rcases q1 with rfl|rfl;exact W.irr _;exact hq⟩,(qo)⟩
  ·exact ⟨2*root+1,⟨S,.inl rfl,by omega,fun d q1 q2=>by rcases q1 with rfl|rfl;exact W.irr _;omega⟩,(qo)⟩
 clear S;rintro c h ⟨S,g1,g2,g3⟩;all_goals (repeat' (first|refine qg ?_|(refine qJ 5 ?_;refine qE ?_;refine qE ?_;refine ad ?_;refine qy S rfl rfl ?_;refine qI S rfl rfl ?_;refine qE ?_;refine mv ?_;refine ad ?_;refine qy S rfl rfl ?_;refine qI S rfl rfl ?_)))
 simp only [qB,qA,qG,zA0];(refine zx rfl rfl rfl rfl ((Qr S.wf _ _).mono ?_);rintro _ h ⟨d,rfl,⟨hd,hq⟩|⟨hd,hq⟩,x⟩)<;>(replace S:=S.qN x;clear x;(first|refine cT ?_|refine cF ?_)<;>(refine zU ?_))
 ·all_goals (repeat' (first|refine qg ?_|refine qh rfl ?_|refine qj ?_|(refine qJ 6 ?_;refine qE ?_;refine mv ?_;refine ad ?_;refine qE ?_;refine mv ?_;refine ad ?_;refine qE ?_;refine mv ?_;refine ad ?_;refine qy S rfl rfl ?_;refine qI S rfl rfl ?_;refine qE ?_;refine mv ?_;refine ad ?_;refine qy S rfl rfl ?_;refine qI S rfl rfl ?_;refine qy S rfl rfl ?_;(first|(refine zY S rfl rfl ?_;clear S;intro h S));refine qy S rfl rfl ?_;(first|(refine zY S rfl rfl ?_;clear S;intro h S));refine qf ?_)|(refine qc 7 ?_;refine qX ?_)))
  simp only [qB,qA,qG,zA0] at S;refine ⟨(c,swp m (f+root) (f+c)),?_,?_,qo⟩
  ·show hi - c<hi - root;omega
  ·exact ⟨S,⟨by omega,by omega⟩,h2.step _ _ ⟨by omega,by omega⟩ ⟨by omega,by omega⟩ (by omega),fin c g1 g2 hq g3⟩
 ·all_goals (repeat' (refine qh rfl ?_))
  refine qC ⟨_,rfl,?_⟩;exact ⟨m,h2,stop c g1 g2 hq g3,S⟩
theorem qeA {h0 h:AH} {rs:List Rs} {v:Value} {l:List Ti} (a b:Nat) (S:Hs h0 h (.sl v 111 3 zh l :: rs)) (hab:a<b) (hb:b≤l.length) (hl:l.length≤1000000) :
 Fn Tryz.prog Xh 166 [v,.int .i64 a,.int .i64 b,Js] h (fun _ h'=>∃ l',Sw a b l l'∧Srt zW a b l'∧Hs h0 h' (.sl v 111 3 zh l' :: rs)):=by
 have W:WOrd zW:=QS;refine qZ rfl Tryz.func166 rfl rfl ?_;all_goals (repeat' (first|refine qg ?_|refine qi ?_|(refine qc 0 ?_;refine qX ?_)|(refine qc 1 ?_;refine qK ?_)|(refine qc 2 ?_;refine QW ?_)|(refine qc 3 ?_;refine mv ?_;refine sb ?_;refine qu ?_;refine qK ?_)))
 have e1:((b:Int) - (a:Int) - 1) / 2=(((b - a - 1) / 2:Nat):Int):=by omega
 refine qH (σ:=Nat×List Ti) (fun (i,m) h'=>Hs h0 h' (.sl v 111 3 zh m :: rs)∧i≤b - a∧Sw a b l m∧Heap zW a i (b - a) m) (fun (i,m)=>i) (fun (i,m)=>[(0,v),(1,.int .i64 a),(2,.int .i64 b),(3,Js),(8,.int .i64 a),(9,.int .i64 0),(10,.int .i64 (b - a:Nat)),(11,.int .i64 ((i:Int) - 1))]) ((b - a - 1) / 2+1,l) qo ?_ ?_
 ·exact ⟨S,by omega,.refl _,fun k hk=>⟨fun q=>by omega,fun q=>by omega⟩⟩
 clear S;rintro ⟨i,m⟩ h ⟨S,h1,h2,h3⟩;have hml:=h2.len;all_goals (repeat' (first|refine qg ?_|refine qh rfl ?_|refine qj ?_|refine qw ?_|refine qi ?_|(refine qc 4 ?_;refine mv ?_;(first|(refine cS ?_ ?_<;>intro hc))<;>(refine qf ?_))))
 ·have e2:(i:Int) - 1=((i - 1:Nat):Int):=by omega
  have h4:Heap zW a (i - 1+1) (b - a) m:=by rw [Nat.sub_add_cancel (by omega)];exact h3
  refine qc 6 ?_;(refine qE ?_;refine qE ?_;refine mv ?_;skip);simp only [e2];(refine qx rfl rfl rfl rfl rfl ((qbB (i - 1) (b - a) a S (by omega) (by omega) (by omega) h4).mono ?_);rintro _ h ⟨l2,g1,g2,S2⟩)<;>(replace S:=S2;clear S2;refine qf ?_)
  rw [show a+(b - a)=b by omega] at g1;all_goals (repeat' (first|(refine qc 5 ?_;refine zO ?_)))
  refine ⟨(i - 1,l2),?_,?_,qo⟩
  ·show i - 1<i;omega
  ·exact ⟨S,by omega,h2.trans g1,g2⟩
 obtain rfl:i=0:=by omega
 all_goals (repeat' (first|refine qi ?_|(refine qc 7 ?_;refine zO ?_)))
 refine qH (σ:=Nat×List Ti) (fun (i,m) h'=>Hs h0 h' (.sl v 111 3 zh m :: rs)∧i≤b - a∧Sw a b l m∧HeapI zW a i (b - a) m) (fun (i,m)=>i) (fun (i,m)=>[(0,v),(1,.int .i64 a),(2,.int .i64 b),(3,Js),(8,.int .i64 a),(9,.int .i64 0),(10,.int .i64 (b - a:Nat)),(12,.int .i64 ((i:Int) - 1))]) (b - a,m) qo ?_ ?_
 ·exact ⟨S,zA3 _,h2,h3,fun p q q1 q2 q3=>by omega⟩
 clear S h1 h2 h3 hml;rintro ⟨i,m⟩ h ⟨S,h1,h2,h3⟩;have hml:=h2.len;all_goals (repeat' (first|refine qg ?_|refine qh rfl ?_|refine qj ?_|refine qw ?_|refine qi ?_|(refine qc 8 ?_;refine mv ?_;(first|(refine cS ?_ ?_<;>intro hc))<;>(refine qf ?_))))
 ·have e2:(i:Int) - 1=((i - 1:Nat):Int):=by omega
  obtain ⟨k,rfl⟩:∃ k,i=k+1:=⟨i - 1,by omega⟩
  all_goals (repeat' (first|(refine qJ 10 ?_;refine qE ?_;refine qE ?_;refine mv ?_;refine ad ?_;refine qE ?_;refine mv ?_;refine ad ?_;refine qy S rfl rfl ?_;refine qI S rfl rfl ?_;refine qE ?_;refine qy S rfl rfl ?_;refine qI S rfl rfl ?_;refine qy S rfl rfl ?_;(first|(refine zY S rfl rfl ?_;clear S;intro h S));refine qy S rfl rfl ?_;(first|(refine zY S rfl rfl ?_;clear S;intro h S));refine qf ?_)))
  refine qc 11 ?_;(refine qE ?_;refine qE ?_;refine mv ?_;skip);simp only [Nat.add_sub_cancel] at e2;simp only [e2,qG,zA0] at S ⊢;replace S:Hs h0 h (.sl v 111 3 zh (swp m a (a+k)) :: rs):=S;have s1:Sw a b l (swp m a (a+k)):=h2.step _ _ ⟨by omega,by omega⟩ ⟨by omega,by omega⟩ (by omega);have hsl:=s1.len;(refine qx rfl rfl rfl rfl rfl ((qbB 0 k a S (by omega) (by omega) (by omega) (h3.1.pop (by omega))).mono ?_);rintro _ h ⟨l2,g1,g2,S2⟩)<;>(replace S:=S2;clear S2;refine qf ?_)
  all_goals (repeat' (first|(refine qc 9 ?_;refine zO ?_)))
  refine ⟨(k,l2),?_,?_,qo⟩
  ·show k<k+1;omega
  ·exact ⟨S,by omega,s1.trans (g1.mono (zA3 _) (by omega) (by omega)),h3.pop W (by omega) (by omega) g1 g2⟩
 obtain rfl:i=0:=by omega
 refine ⟨_,rfl,?_⟩;exact ⟨m,h2,h3.done (by omega),S⟩
theorem qff {h0 h:AH} {rs:List Rs} {v:Value} {l:List Ti} (a b:Nat) (S:Hs h0 h (.sl v 111 3 zh l :: rs)) (hab:a<b) (hb:b≤l.length) (hl:l.length≤1000000) :
 Fn Tryz.prog Xh 169 [v,.int .i64 a,.int .i64 b,Js] h (fun _ h'=>∃ l',Sw a b l l'∧Hs h0 h' (.sl v 111 3 zh l' :: rs)):=by
 have W:WOrd zW:=QS;refine qZ rfl Tryz.func169 rfl rfl ?_;all_goals (repeat' (first|refine qg ?_|refine qi ?_|(refine qc 0 ?_;refine qX ?_)|(refine qc 1 ?_;refine zO ?_)))
 refine qH (σ:=Nat×Nat×List Ti) (fun (i,j,m) h'=>Hs h0 h' (.sl v 111 3 zh m :: rs)∧a≤i∧j<b∧Sw a b l m) (fun (i,j,m)=>j - i) (fun (i,j,m)=>[(0,v),(1,.int .i64 a),(2,.int .i64 b),(3,Js),(8,.int .i64 i),(9,.int .i64 j)]) (a,b - 1,l) qo ?_ ?_
 ·exact ⟨S,zA3 _,by omega,.refl _⟩
 clear S;rintro ⟨i,j,m⟩ h ⟨S,h1,h2,h3⟩;have hml:=h3.len;all_goals (repeat' (first|refine qg ?_|refine qh rfl ?_|refine qj ?_|refine qw ?_|refine qi ?_|(refine qc 2 ?_;refine qE ?_;(first|(refine cS ?_ ?_<;>intro hc))<;>(refine qf ?_))|(refine qJ 3 ?_;refine qE ?_;refine qE ?_;refine qE ?_;refine qy S rfl rfl ?_;refine qI S rfl rfl ?_;refine qE ?_;refine qy S rfl rfl ?_;refine qI S rfl rfl ?_;refine qy S rfl rfl ?_;(first|(refine zY S rfl rfl ?_;clear S;intro h S));refine qy S rfl rfl ?_;(first|(refine zY S rfl rfl ?_;clear S;intro h S));refine qf ?_)|(refine qc 4 ?_;refine qO ?_)|(refine qc 5 ?_;refine zO ?_)))
 ·(try simp only [qB,qA,qG,zA0] at S)
  refine ⟨(i+1,j - 1,swp m i j),?_,?_,qo⟩
  ·show j - 1 - (i+1)<j - i;omega
  ·exact ⟨S,by omega,by omega,h3.step _ _ ⟨by omega,by omega⟩ ⟨by omega,by omega⟩ (by omega)⟩
 ·refine ⟨_,rfl,?_⟩;exact ⟨m,h3,S⟩
theorem Pn {h0 h:AH} {rs:List Rs} {v:Value} {l:List Ti} {bs:Nat} {s:Int} (x y:Nat) (S:Hs h0 h (.blk bs [.int .i64 s] 3 :: .sl v 111 3 zh l :: rs)) (hx:x<l.length) (hy:y<l.length) (hl:l.length≤1000000) (hs:0≤s∧s≤100) :
 Fn Tryz.prog Xh 214 [v,.int .i64 x,.int .i64 y,.pointer (some ⟨bs,0,none⟩),Js] h (fun r h'=>∃ (p q:Nat) (s':Int),r = .tuple #[.int .i64 p,.int .i64 q]∧((p=x∧q=y)∨(p=y∧q=x))∧(0≤s'∧s'≤s+1)∧Hs h0 h' (.blk bs [.int .i64 s'] 3 :: .sl v 111 3 zh l :: rs)):=by
 have W:WOrd zW:=QS;refine qZ rfl Tryz.func214 rfl rfl ?_;all_goals (repeat' (first|refine qg ?_|(refine qc 0 ?_;refine qX ?_)|(refine qJ 1 ?_;refine qE ?_;refine mv ?_;refine qy S rfl rfl ?_;refine qI S rfl rfl ?_;refine qE ?_;refine qy S rfl rfl ?_;refine qI S rfl rfl ?_)))
 (try simp only [qB,qA,qG,zA0])
 (refine zx rfl rfl rfl rfl ((Qr S.wf _ _).mono ?_);rintro _ h ⟨d,rfl,⟨hd,hq⟩|⟨hd,hq⟩,x⟩)<;>(replace S:=S.qN x;clear x;(first|refine cT ?_|refine cF ?_)<;>(refine qf ?_))
 ·all_goals (repeat' (first|refine qg ?_|refine qh rfl ?_|(refine qc 2 ?_;refine mv ?_;refine vl ?_;refine lB S rfl rfl ?_;refine ad ?_;refine vl ?_;(first|(refine sB S rfl rfl ?_;clear S;intro h S));refine qf ?_)|(refine qc 3 ?_;refine qE ?_;refine qX ?_)))
  refine qC ⟨_,rfl,?_⟩;exact ⟨y,x,s+1,rfl,.inr ⟨rfl,rfl⟩,by omega,S⟩
 ·all_goals (repeat' (first|refine qg ?_|refine qh rfl ?_|refine qj ?_|(refine qc 4 ?_;refine qE ?_;refine qX ?_)))
  refine qC ⟨_,rfl,?_⟩;exact ⟨x,y,s,rfl,.inl ⟨rfl,rfl⟩,by omega,S⟩
theorem qdR {h0 h:AH} {rs:List Rs} {v:Value} {l:List Ti} {bs:Nat} {s:Int} (x y z:Nat) (S:Hs h0 h (.blk bs [.int .i64 s] 3 :: .sl v 111 3 zh l :: rs)) (hx:x<l.length) (hy:y<l.length) (hz:z<l.length) (hl:l.length≤1000000) (hs:0≤s∧s≤90) :
 Fn Tryz.prog Xh 198 [v,.int .i64 x,.int .i64 y,.int .i64 z,.pointer (some ⟨bs,0,none⟩),Js] h (fun r h'=>∃ (p:Nat) (s':Int),r = .int .i64 p∧(p=x∨p=y∨p=z)∧(0≤s'∧s'≤s+3)∧Hs h0 h' (.blk bs [.int .i64 s'] 3 :: .sl v 111 3 zh l :: rs)):=by
 have W:WOrd zW:=QS;refine qZ rfl Tryz.func198 rfl rfl ?_;all_goals (repeat' (first|refine qg ?_|(refine qc 0 ?_;refine qK ?_)|(refine qc 1 ?_;refine qE ?_;refine qE ?_;refine mv ?_;skip)))
 (refine qx rfl rfl rfl rfl rfl ((Pn x y S hx hy hl (by omega)).mono ?_);rintro _ h ⟨p1,q1,s1,rfl,e1,e2,S2⟩)<;>(replace S:=S2;clear S2;refine zk ?_)
 all_goals (repeat' (first|refine qg ?_|(refine qc 2 ?_;refine qE ?_;refine qE ?_;refine mv ?_;skip)))
 have b1:p1<l.length∧q1<l.length:=by omega
 (refine qx rfl rfl rfl rfl rfl ((Pn q1 z S b1.2 hz hl (by omega)).mono ?_);rintro _ h ⟨p2,q2,s2,rfl,e3,e4,S2⟩)<;>(replace S:=S2;clear S2;refine zk ?_)
 all_goals (repeat' (first|refine qg ?_|(refine qc 3 ?_;refine qE ?_;refine qE ?_;refine mv ?_;skip)))
 have b2:p2<l.length:=by omega
 (refine qx rfl rfl rfl rfl rfl ((Pn p1 p2 S b1.1 b2 hl (by omega)).mono ?_);rintro _ h ⟨p3,q3,s3,rfl,e5,e6,S2⟩)<;>(replace S:=S2;clear S2;refine zk ?_)
 all_goals (repeat' (first|refine qg ?_|(refine qc 4 ?_;refine qX ?_)))
 refine qC ⟨_,rfl,?_⟩;exact ⟨q3,s3,rfl,by omega,by omega,S⟩
theorem Pz {h0 h:AH} {rs:List Rs} {v:Value} {l:List Ti} {bs:Nat} {s:Int} (x:Nat) (S:Hs h0 h (.blk bs [.int .i64 s] 3 :: .sl v 111 3 zh l :: rs)) (hx:0<x∧x+1<l.length) (hl:l.length≤1000000) (hs:0≤s∧s≤90) :
 Fn Tryz.prog Xh 197 [v,.int .i64 x,.pointer (some ⟨bs,0,none⟩),Js] h (fun r h'=>∃ (p:Nat) (s':Int),r = .int .i64 p∧(x - 1≤p∧p≤x+1)∧(0≤s'∧s'≤s+3)∧Hs h0 h' (.blk bs [.int .i64 s'] 3 :: .sl v 111 3 zh l :: rs)):=by
 have e1:(x:Int) - 1=((x - 1:Nat):Int):=by omega
 have e2:(x:Int)+1=((x+1:Nat):Int):=by omega
 refine qZ rfl Tryz.func197 rfl rfl ?_;all_goals (repeat' (first|refine qg ?_|(refine qc 0 ?_;refine qK ?_)|(refine qc 1 ?_;refine qE ?_;refine sb ?_;refine qE ?_;refine ad ?_;refine qE ?_)))
 simp only [e1,e2];(refine qx rfl rfl rfl rfl rfl ((qdR (x - 1) x (x+1) S (by omega) (by omega) (by omega) hl (by omega)).mono ?_);rintro _ h ⟨q,s,rfl,g1,g2,S2⟩)<;>(replace S:=S2;clear S2;refine qK ?_)
 all_goals (repeat' (fail))
 refine qC ⟨_,rfl,?_⟩;exact ⟨q,s,rfl,by omega,by omega,S⟩
theorem qfi {h0 h:AH} {rs:List Rs} {v:Value} {l:List Ti} (a b:Nat) (S:Hs h0 h (.sl v 111 3 zh l :: rs)) (hab:12<b - a∧b - a<260) (hb:b≤l.length) (hl:l.length≤1000000) :
 Fn Tryz.prog Xh 168 [v,.int .i64 a,.int .i64 b,Js] h (fun r h'=>∃ (q:Nat) (t:Int),r = .tuple #[.int .i64 q,.int .i64 t]∧(a≤q∧q<b)∧Hs h0 h' (.sl v 111 3 zh l :: rs)):=by
 have W:WOrd zW:=QS;refine qZ rfl Tryz.func168 rfl rfl ?_;all_goals (repeat' (first|refine qg ?_|refine qh rfl ?_|(refine qc 0 ?_;refine qX ?_)|(refine qc 1 ?_;refine QW ?_)|(refine qc 2 ?_;(refine al S ?_;clear S;intro b h S);refine qf ?_)|(refine qc 3 ?_;refine qE ?_;refine qu ?_;refine ml ?_;refine jR ?_)|(refine qc 4 ?_;refine qE ?_;refine qu ?_;refine ml ?_;refine jR ?_)|(refine qc 5 ?_;refine qE ?_;refine qu ?_;refine ml ?_;refine jR ?_)|(refine qc 6 ?_;refine mv ?_;(refine cT ?_)<;>(refine qf ?_))))
 obtain ⟨bs,hnm⟩:∃ x,x=b:=⟨_,rfl⟩;subst hnm;have e1:(a:Int)+((b:Int) - (a:Int)) / 4*1=((a+(b - a) / 4*1:Nat):Int):=by omega
 have e2:(a:Int)+((b:Int) - (a:Int)) / 4*2=((a+(b - a) / 4*2:Nat):Int):=by omega
 have e3:(a:Int)+((b:Int) - (a:Int)) / 4*3=((a+(b - a) / 4*3:Nat):Int):=by omega
 simp only [e1,e2,e3];(repeat (refine qg ?_));first|refine QD (σ:=Nat×Nat×Nat×Int) (fun (i,j,k,s) h'=>Hs h0 h' (.blk bs [.int .i64 s] 3 :: .sl v 111 3 zh l :: rs)∧(a≤i∧i<b)∧(a≤j∧j<b)∧(a≤k∧k<b)∧0≤s∧s≤9) (fun (i,j,k,s)=>[(0,v),(3,Js),(11,.pointer (some ⟨bs,0,none⟩)),(12,.int .i64 i),(13,.int .i64 j),(14,.int .i64 k)]) ?_ ?_
 ·all_goals (repeat' (first|refine qg ?_|refine qh rfl ?_|refine qj ?_|(refine qc 7 ?_;refine mv ?_;(first|(refine cS ?_ ?_<;>intro hc))<;>(refine qf ?_))|(refine qc 8 ?_;refine qE ?_;refine mv ?_;skip)))
  ·(refine qx rfl rfl rfl rfl rfl ((Pz (a+(b - a) / 4*1) S (by omega) hl (by omega)).mono ?_);rintro _ h ⟨q,s,rfl,g1,g2,S2⟩)<;>(replace S:=S2;clear S2;refine qK ?_)
   all_goals (repeat' (first|refine qg ?_|(refine qc 9 ?_;refine qE ?_;refine mv ?_;skip)))
   (refine qx rfl rfl rfl rfl rfl ((Pz (a+(b - a) / 4*2) S (by omega) hl (by omega)).mono ?_);rintro _ h ⟨q2,s2,rfl,g3,g4,S2⟩)<;>(replace S:=S2;clear S2;refine qK ?_)
   all_goals (repeat' (first|(refine qc 10 ?_;refine qE ?_;refine mv ?_;skip)))
   (refine qx rfl rfl rfl rfl rfl ((Pz (a+(b - a) / 4*3) S (by omega) hl (by omega)).mono ?_);rintro _ h ⟨q3,s3,rfl,g5,g6,S2⟩)<;>(replace S:=S2;clear S2;refine qK ?_)
   all_goals (repeat' (fail))
   exact ⟨(q,q2,q3,s3),⟨S,by (try dsimp only);omega,by (try dsimp only);omega,by (try dsimp only);omega,by (try dsimp only);omega,by (try dsimp only);omega⟩,(qo)⟩
  ·exact ⟨(a+(b - a) / 4*1,a+(b - a) / 4*2,a+(b - a) / 4*3,0),⟨S,by (try dsimp only);omega,by (try dsimp only);omega,by (try dsimp only);omega,by (try dsimp only);omega,by (try dsimp only);omega⟩,(qo)⟩
 clear S;rintro ⟨i,j,k,s⟩ h ⟨S,k1,k2,k3,k4⟩;all_goals (repeat' (first|(refine qc 11 ?_;refine qE ?_;refine qE ?_;refine mv ?_;skip)))
 (refine qx rfl rfl rfl rfl rfl ((qdR i j k S (by omega) (by omega) (by omega) hl (by omega)).mono ?_);rintro _ h ⟨q,s,rfl,g1,g2,S2⟩)<;>(replace S:=S2;clear S2;refine qK ?_)
 all_goals (repeat' (first|refine qg ?_|refine qh rfl ?_|refine qi ?_|(refine qc 12 ?_;refine lB S rfl rfl ?_;refine qf ?_)|(refine qc 13 ?_;refine mv ?_;refine qX ?_)|(refine qc 14 ?_;(first|(refine cS ?_ ?_<;>intro hc))<;>(refine qK ?_))|(refine qc 15 ?_;refine mv ?_;refine qX ?_)|(refine qc 16 ?_;(first|(refine cS ?_ ?_<;>intro hc))<;>(refine qK ?_))|(refine qc 17 ?_;refine mv ?_;refine qX ?_)))
 all_goals (refine qC ⟨_,rfl,?_⟩)
 all_goals exact ⟨q,_,rfl,by omega,S.tail⟩
theorem qfJ {h0 h:AH} {rs:List Rs} {v:Value} {l:List Ti} (a b:Nat) (S:Hs h0 h (.sl v 111 3 zh l :: rs)) (hab:12<b - a∧b - a<260) (hb:b≤l.length) (hl:l.length≤1000000) :
 Fn Tryz.prog Xh 167 [v,.int .i64 a,.int .i64 b,Js] h (fun _ h'=>∃ l',Sw a b l l'∧Hs h0 h' (.sl v 111 3 zh l' :: rs)):=by
 have W:WOrd zW:=QS;have e1:(b:Int) - (a:Int)=((b - a:Nat):Int):=by omega
 refine qZ rfl Tryz.func167 rfl rfl ?_;all_goals (repeat' (first|refine qg ?_|refine qh rfl ?_|(refine qc 0 ?_;refine QW ?_)|(refine qc 1 ?_;refine mv ?_;(refine cT ?_)<;>(refine qf ?_))|(refine qc 2 ?_;refine mv ?_;refine cW ?_;(refine al S ?_;clear S;intro b h S);(first|(refine sB S rfl rfl ?_;clear S;intro h S));refine qf ?_)|(refine qc 3 ?_;refine mv ?_)))
 obtain ⟨bs,hnm⟩:∃ x,x=b:=⟨_,rfl⟩;subst hnm;simp only [e1];(refine qx rfl rfl rfl rfl rfl ((Gq S.wf (b - a) (by omega)).mono ?_);rintro _ h ⟨P,rfl,hP1,hP2,x⟩)<;>(replace S:=S.qN x;clear x;refine qK ?_)
 all_goals (repeat' (first|refine qg ?_|refine qi ?_|(refine qc 4 ?_;refine qE ?_;refine qu ?_;refine ml ?_;refine ad ?_;refine sb ?_;refine qK ?_)))
 obtain ⟨w0,hw0⟩:∃ w0:Int,w0=(b:Int) - (a:Int):=⟨_,rfl⟩
 refine qH (σ:=Nat×Int×List Ti) (fun (i,z,m) h'=>Hs h0 h' (.blk bs [.int .u64 z] 217 :: .sl v 111 3 zh m :: rs)∧(0≤z∧z≤18446744073709551615)∧a+(b - a) / 4*2 - 1≤i∧i≤a+(b - a) / 4*2+2∧Sw a b l m) (fun (i,z,m)=>a+(b - a) / 4*2+2 - i) (fun (i,z,m)=>[(0,v),(1,.int .i64 a),(2,.int .i64 b),(3,Js),(8,.int .i64 (b - a:Nat)),(9,.pointer (some ⟨bs,0,none⟩)),(10,.int .u64 P),(11,.int .i64 i)]) (a+(b - a) / 4*2 - 1,w0,l) qo ?_ ?_
 ·exact ⟨by rw [hw0];exact S,by omega,by omega,by omega,.refl _⟩
 clear S;rintro ⟨i,z,m⟩ h ⟨S,h1,h2,h3,h4⟩;have hml:=h4.len;all_goals (repeat' (first|refine qg ?_|refine qh rfl ?_|refine qj ?_|refine qw ?_|refine qi ?_|(refine qc 5 ?_;refine qE ?_;refine mv ?_;refine qu ?_;refine ml ?_;refine ad ?_;refine ad ?_;(first|(refine cS ?_ ?_<;>intro hc))<;>(refine qf ?_))|(refine qc 7 ?_;skip)))
 ·(refine qx rfl rfl rfl rfl rfl ((WY S h1).mono ?_);rintro _ h ⟨y,rfl,hy,S2⟩)<;>(replace S:=S2;clear S2;refine mv ?_;refine sW ?_;(refine aM ?_;intro r1 hr1 hr2);refine cI ?_;refine qK ?_)
  obtain ⟨k,rfl⟩:=zH5 hr1;all_goals (repeat' (first|refine qg ?_|refine qh rfl ?_|refine qj ?_|(refine qc 8 ?_;refine qE ?_;(first|(refine cS ?_ ?_<;>intro hc))<;>(refine qf ?_))|(refine qc 9 ?_;refine QW ?_)))
  ·have e5:(k:Int) - ((b - a:Nat):Int)=((k - (b - a):Nat):Int):=by omega
   simp only [e5];all_goals (repeat' (first|(refine qc 6 ?_;refine qO ?_)|(refine qJ 10 ?_;refine qE ?_;refine qE ?_;refine mv ?_;refine ad ?_;refine qE ?_;refine mv ?_;refine ad ?_;refine qy S rfl rfl ?_;refine qI S rfl rfl ?_;refine qE ?_;refine qy S rfl rfl ?_;refine qI S rfl rfl ?_;refine qy S rfl rfl ?_;(first|(refine zY S rfl rfl ?_;clear S;intro h S));refine qy S rfl rfl ?_;(first|(refine zY S rfl rfl ?_;clear S;intro h S));refine qf ?_)))
   (try simp only [qB,qA,qG,zA0] at S)
   refine ⟨(i+1,y,swp m i (a+(k - (b - a)))),?_,?_,qo⟩
   ·show a+(b - a) / 4*2+2 - (i+1)<a+(b - a) / 4*2+2 - i;omega
   ·exact ⟨S,hy,by omega,by omega,h4.step _ _ ⟨by omega,by omega⟩ ⟨by omega,by omega⟩ (by omega)⟩
  ·skip
   all_goals (repeat' (first|(refine qc 6 ?_;refine qO ?_)|(refine qJ 10 ?_;refine qE ?_;refine qE ?_;refine mv ?_;refine ad ?_;refine qE ?_;refine mv ?_;refine ad ?_;refine qy S rfl rfl ?_;refine qI S rfl rfl ?_;refine qE ?_;refine qy S rfl rfl ?_;refine qI S rfl rfl ?_;refine qy S rfl rfl ?_;(first|(refine zY S rfl rfl ?_;clear S;intro h S));refine qy S rfl rfl ?_;(first|(refine zY S rfl rfl ?_;clear S;intro h S));refine qf ?_)))
   (try simp only [qB,qA,qG,zA0] at S)
   refine ⟨(i+1,y,swp m i (a+k)),?_,?_,qo⟩
   ·show a+(b - a) / 4*2+2 - (i+1)<a+(b - a) / 4*2+2 - i;omega
   ·exact ⟨S,hy,by omega,by omega,h4.step _ _ ⟨by omega,by omega⟩ ⟨by omega,by omega⟩ (by omega)⟩
 ·refine ⟨_,rfl,?_⟩;exact ⟨m,h4,S.tail⟩
theorem Srt.outT {a i:Nat} {m n:List Ti} (h:Srt zW a i m) (e:∀ k,a≤k→k<i→n.getD k default=m.getD k default):Srt zW a i n:=fun p q h1 h2 h3=>by
 rw [e p h1 (by omega),e q (by omega) h3];exact h p q h1 h2 h3
theorem qek {h0 h:AH} {rs:List Rs} {v:Value} {l:List Ti} (a b:Nat) (S:Hs h0 h (.sl v 111 3 zh l :: rs)) (hab:12<b - a∧b - a<260) (hb:b≤l.length) (hl:l.length≤1000000) (hlow:0<a→∀ k,a≤k→k<b→¬ zW (l.getD k default) (l.getD (a - 1) default)) :
 Fn Tryz.prog Xh 170 [v,.int .i64 a,.int .i64 b,Js] h (fun r h'=>∃ l',Sw a b l l'∧((r = .bool true∧Srt zW a b l')∨r = .bool false)∧Hs h0 h' (.sl v 111 3 zh l' :: rs)):=by
 have W:WOrd zW:=QS;have low:∀ n,Sw a b l n→0<a→¬ zW (n.getD a default) (n.getD (a - 1) default):=fun n s q=>by
  rw [s.out (k:=a - 1) (.inl (by omega))];exact s.all (p:=fun y=>¬ zW y (l.getD (a - 1) default)) (hlow q) a (zA3 _) (by omega)
 refine qZ rfl Tryz.func170 rfl rfl ?_;all_goals (repeat' (first|refine qg ?_|refine qi ?_|(refine qc 0 ?_;refine qK ?_)|(refine qc 1 ?_;refine qO ?_)|(refine qc 2 ?_;refine qK ?_)))
 refine qH (σ:=Nat×Nat×List Ti) (fun (i,c,m) h'=>Hs h0 h' (.sl v 111 3 zh m :: rs)∧(a<i∧i≤b)∧c≤5∧Sw a b l m∧Srt zW a i m) (fun (i,c,m)=>5 - c) (fun (i,c,m)=>[(0,v),(1,.int .i64 a),(2,.int .i64 b),(3,Js),(9,.int .i64 i),(10,.int .i64 c)]) (a+1,0,l) qo ?_ ?_
 ·exact ⟨S,by omega,by omega,.refl _,fun i j q1 q2 q3=>by omega⟩
 clear S;rintro ⟨i,c,m⟩ h ⟨S,h1,hc5,s1,h3⟩;have hml:=s1.len;all_goals (repeat' (first|refine qg ?_|refine qh rfl ?_|refine qj ?_|refine qw ?_|refine qi ?_|(refine qc 3 ?_;refine mv ?_;(first|(refine cS ?_ ?_<;>intro hc))<;>(refine qf ?_))|(refine qc 24 ?_;refine qK ?_)))
 ·refine qH (σ:=Nat) (fun i h'=>Hs h0 h' (.sl v 111 3 zh m :: rs)∧(a<i∧i≤b)∧Srt zW a i m) (fun i=>b - i) (fun i=>[(0,v),(1,.int .i64 a),(2,.int .i64 b),(3,Js),(9,.int .i64 i),(10,.int .i64 c)]) i qo ?_ ?_
  ·exact ⟨S,by omega,h3⟩
  clear S h1 h3;rintro i h ⟨S,h1,h3⟩;all_goals (repeat' (first|refine qg ?_|refine qh rfl ?_|refine qw ?_|(refine qJ 5 ?_;refine qE ?_;(first|(refine cS ?_ ?_<;>intro hc))<;>(refine mv ?_;(first|refine off ?_|refine mv ?_);(first|refine off ?_|refine mv ?_);(first|refine off ?_|refine mv ?_);(first|refine off ?_|(refine qy S rfl rfl ?_));(first|refine off ?_|(refine qI S rfl rfl ?_));(first|refine off ?_|refine mv ?_);(first|refine off ?_|refine mv ?_);(first|refine off ?_|(refine sb ?_));(first|refine off ?_|(refine qy S rfl rfl ?_));(first|refine off ?_|(refine qI S rfl rfl ?_));(first|(refine off ?_;(refine off ?_)<;>((refine off ?_);refine zU ?_))|skip)))))
  ·simp only [qB,qA,qG,zA0];(refine zx rfl rfl rfl rfl ((Qr S.wf _ _).mono ?_);rintro _ h ⟨d,rfl,⟨hd,hq⟩|⟨hd,hq⟩,x⟩)<;>(replace S:=S.qN x;clear x;(first|(first|refine cT ?_|refine cF ?_))<;>((refine vl ?_);refine zU ?_))
   ·all_goals (repeat' (first|refine qg ?_|refine qh rfl ?_|refine qj ?_|refine qw ?_|(refine qc 7 ?_;refine qE ?_;(refine cF ?_)<;>(refine qf ?_))|(refine qc 9 ?_;refine qE ?_;refine sb ?_;(first|(refine cS ?_ ?_<;>intro hc))<;>(refine qf ?_))|(refine qc 10 ?_;refine qK ?_)))
    ·refine qC ⟨_,rfl,?_⟩;exact ⟨m,s1,.inr rfl,S⟩
    ·all_goals (repeat' (first|refine qg ?_|(refine qJ 11 ?_;refine qE ?_;refine qE ?_;refine sb ?_;refine qE ?_;refine sb ?_;refine qy S rfl rfl ?_;refine qI S rfl rfl ?_;refine qE ?_;refine qy S rfl rfl ?_;refine qI S rfl rfl ?_;refine qy S rfl rfl ?_;(first|(refine zY S rfl rfl ?_;clear S;intro h S));refine qy S rfl rfl ?_;(first|(refine zY S rfl rfl ?_;clear S;intro h S));refine qf ?_)))
     simp only [qB,qA,qG,zA0] at S;have s2:Sw a b l (swp m i (i - 1)):=s1.step _ _ ⟨by omega,by omega⟩ ⟨by omega,by omega⟩ (by omega);have hm2:=s2.len;have h4:Srt zW a (i - 1) (swp m i (i - 1)):=Srt.outT (m:=m) (fun p q z1 z2 z3=>h3 p q z1 z2 (by omega)) fun k z1 z2=>by rw [swp_get (by omega) (by omega),if_neg (by omega),if_neg (by omega)]
     replace S:Hs h0 h (.sl v 111 3 zh (swp m i (i - 1)) :: rs):=S;generalize swp m i (i - 1)=m2 at S s2 h4 hm2
     (repeat (refine qg ?_));first|refine QD (σ:=List Ti) (fun m h'=>Hs h0 h' (.sl v 111 3 zh m :: rs)∧Sw a b l m∧Srt zW a i m) (fun m=>[(0,v),(1,.int .i64 a),(2,.int .i64 b),(3,Js),(9,.int .i64 i),(10,.int .i64 c)]) ?_ ?_
     ·all_goals (repeat' (first|refine qg ?_|refine qh rfl ?_|refine qj ?_|refine qi ?_|(refine qc 12 ?_;refine qE ?_;refine sb ?_;(first|(refine cS ?_ ?_<;>intro hc))<;>(refine qf ?_))|(refine qc 13 ?_;refine zO ?_)))
      ·refine qH (σ:=Nat×List Ti) (fun (j,n) h'=>Hs h0 h' (.sl v 111 3 zh n :: rs)∧(a≤j∧j≤i - 1)∧Sw a b l n∧InsI zW a (i - 1) j n) (fun (j,n)=>j) (fun (j,n)=>[(0,v),(1,.int .i64 a),(2,.int .i64 b),(3,Js),(9,.int .i64 i),(10,.int .i64 c),(11,.int .i64 j)]) (i - 1,m2) qo ?_ ?_
       ·exact ⟨S,by (try dsimp only);omega,s2,InsI.start h4⟩
       clear S s2 h4 hm2;rintro ⟨j,n⟩ h ⟨S,k1,k2,k3⟩;have hnl:=k2.len;all_goals (repeat' (first|refine qg ?_|refine qh rfl ?_|refine qj ?_|refine qw ?_|refine qi ?_|(refine qc 14 ?_;refine mv ?_;(first|(refine cS ?_ ?_<;>intro hc))<;>(refine qf ?_))|(refine qJ 16 ?_;refine qE ?_;refine mv ?_;refine qy S rfl rfl ?_;refine qI S rfl rfl ?_;refine qE ?_;refine sb ?_;refine qy S rfl rfl ?_;refine qI S rfl rfl ?_)))
       ·simp only [qB,qA,qG,zA0];(refine zx rfl rfl rfl rfl ((Qr S.wf _ _).mono ?_);rintro _ h ⟨d,rfl,⟨hd,hq2⟩|⟨hd,hq2⟩,x⟩)<;>(replace S:=S.qN x;clear x;(first|refine cT ?_|refine cF ?_)<;>(refine zU ?_))
        ·have hja:a<j:=by
          rcases zA7 a j with z|z
          ·exact z
          ·obtain rfl:j=a:=by omega
           exact absurd hq2 (low n k2 (by omega))
         all_goals (repeat' (first|refine qh rfl ?_|refine qj ?_|(refine qc 15 ?_;refine zO ?_)|(refine qJ 17 ?_;refine qE ?_;refine qE ?_;refine sb ?_;refine qE ?_;refine sb ?_;refine qy S rfl rfl ?_;refine qI S rfl rfl ?_;refine qE ?_;refine qy S rfl rfl ?_;refine qI S rfl rfl ?_;refine qy S rfl rfl ?_;(first|(refine zY S rfl rfl ?_;clear S;intro h S));refine qy S rfl rfl ?_;(first|(refine zY S rfl rfl ?_;clear S;intro h S));refine qf ?_)))
         simp only [qB,qA,qG,zA0] at S;refine ⟨(j - 1,swp n j (j - 1)),?_,?_,qo⟩
         ·show j - 1<j;omega
         ·exact ⟨S,by (try dsimp only);omega,k2.step _ _ ⟨by omega,by omega⟩ ⟨by omega,by omega⟩ (by omega),k3.next W hja k1.2 (by omega) hq2⟩
        ·all_goals (repeat' (first|refine qh rfl ?_|refine qw ?_))
         exact ⟨n,⟨S,k2,by have:=k3.done W (.inr hq2);rwa [show i - 1+1=i by omega] at this⟩,(qo)⟩
       ·exact ⟨n,⟨S,k2,by have:=k3.done W (.inl (by omega));rwa [show i - 1+1=i by omega] at this⟩,(qo)⟩
      ·exact ⟨m2,⟨S,s2,fun p q z1 z2 z3=>by omega⟩,(qo)⟩
     clear S s2 h4 hm2 m2;rintro m2 h ⟨S,s2,h4⟩;have hm2:=s2.len;all_goals (repeat' (first|refine qg ?_|refine qh rfl ?_|refine qj ?_|refine qi ?_|(refine qc 4 ?_;refine qO ?_)|(refine qc 18 ?_;refine qE ?_;refine sb ?_;(first|(refine cS ?_ ?_<;>intro hc))<;>(refine qf ?_))|(refine qc 19 ?_;refine qO ?_)))
     ·refine qH (σ:=Nat×List Ti) (fun (j,n) h'=>Hs h0 h' (.sl v 111 3 zh n :: rs)∧(i<j∧j≤b)∧Sw a b l n∧Srt zW a i n) (fun (j,n)=>b - j) (fun (j,n)=>[(0,v),(1,.int .i64 a),(2,.int .i64 b),(3,Js),(9,.int .i64 i),(10,.int .i64 c),(12,.int .i64 j)]) (i+1,m2) qo ?_ ?_
      ·exact ⟨S,by (try dsimp only);omega,s2,h4⟩
      clear S s2 h4 hm2;rintro ⟨j,n⟩ h ⟨S,k1,k2,k3⟩;have hnl:=k2.len;all_goals (repeat' (first|refine qg ?_|refine qh rfl ?_|refine qj ?_|refine qw ?_|refine qi ?_|(refine qc 20 ?_;refine qE ?_;(first|(refine cS ?_ ?_<;>intro hc))<;>(refine qf ?_))|(refine qJ 22 ?_;refine qE ?_;refine mv ?_;refine qy S rfl rfl ?_;refine qI S rfl rfl ?_;refine qE ?_;refine sb ?_;refine qy S rfl rfl ?_;refine qI S rfl rfl ?_)))
      ·simp only [qB,qA,qG,zA0];(refine zx rfl rfl rfl rfl ((Qr S.wf _ _).mono ?_);rintro _ h ⟨d,rfl,⟨hd,hq2⟩|⟨hd,hq2⟩,x⟩)<;>(replace S:=S.qN x;clear x;(first|refine cT ?_|refine cF ?_)<;>(refine zU ?_))
       ·all_goals (repeat' (first|refine qh rfl ?_|refine qj ?_|(refine qc 21 ?_;refine qO ?_)|(refine qJ 23 ?_;refine qE ?_;refine qE ?_;refine sb ?_;refine qE ?_;refine sb ?_;refine qy S rfl rfl ?_;refine qI S rfl rfl ?_;refine qE ?_;refine qy S rfl rfl ?_;refine qI S rfl rfl ?_;refine qy S rfl rfl ?_;(first|(refine zY S rfl rfl ?_;clear S;intro h S));refine qy S rfl rfl ?_;(first|(refine zY S rfl rfl ?_;clear S;intro h S));refine qf ?_)))
        simp only [qB,qA,qG,zA0] at S;refine ⟨(j+1,swp n j (j - 1)),?_,?_,qo⟩
        ·show b - (j+1)<b - j;omega
        ·refine ⟨S,by (try dsimp only);omega,k2.step _ _ ⟨by omega,by omega⟩ ⟨by omega,by omega⟩ (by omega),k3.outT fun k z1 z2=>?_⟩;rw [swp_get (by omega) (by omega),if_neg (by omega),if_neg (by omega)]
       ·all_goals (repeat' (first|refine qh rfl ?_|refine qw ?_|(refine qc 4 ?_;refine qO ?_)))
        refine ⟨(i,c+1,n),?_,?_,qo⟩
        ·show 5 - (c+1)<5 - c;omega
        ·exact ⟨S,h1,by (try dsimp only);omega,k2,k3⟩
      ·all_goals (repeat' (first|(refine qc 4 ?_;refine qO ?_)))
       refine ⟨(i,c+1,n),?_,?_,qo⟩
       ·show 5 - (c+1)<5 - c;omega
       ·exact ⟨S,h1,by (try dsimp only);omega,k2,k3⟩
     ·refine ⟨(i,c+1,m2),?_,?_,qo⟩
      ·show 5 - (c+1)<5 - c;omega
      ·exact ⟨S,h1,by (try dsimp only);omega,s2,h4⟩
   ·all_goals (repeat' (first|refine qh rfl ?_|refine qj ?_|refine qi ?_|(refine qc 6 ?_;refine qO ?_)))
    refine ⟨i+1,?_,?_,qo⟩
    ·show b - (i+1)<b - i;omega
    ·refine ⟨S,by omega,Srt.adj W fun k q1 q2=>?_⟩;rcases zA7 (k+1) i with q|q
     ·exact h3 k (k+1) q1 (by omega) q
     ·obtain rfl:i=k+1:=by omega
      exact hq
  ·obtain rfl:i=b:=by omega
   all_goals (repeat' (first|refine qg ?_|refine qh rfl ?_|(refine qc 7 ?_;refine qE ?_;(refine cT ?_)<;>(refine qf ?_))|(refine qc 8 ?_;refine qK ?_)))
   refine qC ⟨_,rfl,?_⟩;exact ⟨m,s1,.inl ⟨rfl,h3⟩,S⟩
 ·refine qC ⟨_,rfl,?_⟩;exact ⟨m,s1,.inr rfl,S⟩
theorem qfl {h0 h:AH} {rs:List Rs} {v:Value} {l:List Ti} (a b q:Nat) (S:Hs h0 h (.sl v 111 3 zh l :: rs)) (hab:a≤q∧q<b) (hb:b≤l.length) (hl:l.length≤1000000) :
 Fn Tryz.prog Xh 171 [v,.int .i64 a,.int .i64 b,.int .i64 q,Js] h (fun r h'=>∃ (e:Nat) (l':List Ti),r = .int .i64 e∧(a<e∧e≤b)∧Sw a b l l'∧(∀ k,a≤k→k<e→¬ zW (l.getD q default) (l'.getD k default))∧(∀ k,e≤k→k<b→zW (l.getD q default) (l'.getD k default))∧Hs h0 h' (.sl v 111 3 zh l' :: rs)):=by
 have W:WOrd zW:=QS;obtain ⟨x,hx⟩:∃ x,x=l.getD q default:=⟨_,rfl⟩
 rw [← hx];refine qZ rfl Tryz.func171 rfl rfl ?_;all_goals (repeat' (first|refine qg ?_|refine qi ?_|(refine qc 0 ?_;refine qK ?_)|(refine qJ 1 ?_;refine qE ?_;refine qE ?_;refine qE ?_;refine qy S rfl rfl ?_;refine qI S rfl rfl ?_;refine qE ?_;refine qy S rfl rfl ?_;refine qI S rfl rfl ?_;refine qy S rfl rfl ?_;(first|(refine zY S rfl rfl ?_;clear S;intro h S));refine qy S rfl rfl ?_;(first|(refine zY S rfl rfl ?_;clear S;intro h S));refine qf ?_)|(refine qc 2 ?_;refine mv ?_;refine ad ?_;refine mv ?_;refine sb ?_;refine qX ?_)))
 (try simp only [qB,qA,qG,zA0] at S)
 have s1:Sw a b l (swp l a q):=.one _ _ ⟨by omega,by omega⟩ ⟨by omega,by omega⟩ hb;have x1:(swp l a q).getD a default=x:=by
  rw [swp_get (by omega) (by omega),hx];split
  ·rename_i e;rw [e]
  ·rw [if_pos rfl]
 refine qH (σ:=Nat×Nat×List Ti) (fun (i,j,m) h'=>Hs h0 h' (.sl v 111 3 zh m :: rs)∧Sw a b l m∧EqI zW a b x i j m) (fun (i,j,m)=>j+1 - i) (fun (i,j,m)=>[(0,v),(1,.int .i64 a),(2,.int .i64 b),(3,.int .i64 q),(4,Js),(11,.int .i64 i),(12,.int .i64 j)]) (a+1,b - 1,swp l a q) qo ?_ ?_
 ·exact ⟨S,s1,⟨by omega,fun k q1 q2=>by omega,fun k q1 q2=>by omega,x1⟩⟩
 clear S s1 x1;rintro ⟨i0,j0,m⟩ h ⟨S,s1,E⟩;have hml:=s1.len;have hbi:=E.bi;have ex:=E.x;refine qi ?_;refine jh (σ:=Nat) (fun i h'=>Hs h0 h' (.sl v 111 3 zh m :: rs)∧EqI zW a b x i j0 m∧i0≤i∧(i≤j0→zW x (m.getD i default))) (fun i=>[(0,v),(1,.int .i64 a),(2,.int .i64 b),(3,.int .i64 q),(4,Js),(11,.int .i64 i),(12,.int .i64 j0)]) ?_ ?_
 ·all_goals (repeat' (refine qi ?_))
  refine qH (σ:=Nat) (fun i h'=>Hs h0 h' (.sl v 111 3 zh m :: rs)∧EqI zW a b x i j0 m∧i0≤i) (fun i=>j0+1 - i) (fun i=>[(0,v),(1,.int .i64 a),(2,.int .i64 b),(3,.int .i64 q),(4,Js),(11,.int .i64 i),(12,.int .i64 j0)]) i0 qo ?_ ?_
  ·exact ⟨S,E,zA3 _⟩
  clear S E hbi;rintro i h ⟨S,E,hi0⟩;have hbi:=E.bi;all_goals (repeat' (first|refine qg ?_|refine qh rfl ?_|refine qw ?_|(refine qJ 3 ?_;refine qE ?_;(first|(refine cS ?_ ?_<;>intro hc))<;>(refine mv ?_;(first|refine off ?_|refine mv ?_);(first|refine off ?_|refine mv ?_);(first|refine off ?_|refine mv ?_);(first|refine off ?_|(refine qy S rfl rfl ?_));(first|refine off ?_|(refine qI S rfl rfl ?_));(first|refine off ?_|refine mv ?_);(first|refine off ?_|refine mv ?_);(first|refine off ?_|(refine qy S rfl rfl ?_));(first|refine off ?_|(refine qI S rfl rfl ?_));(first|(refine off ?_;(refine off ?_)<;>((refine off ?_);refine zU ?_))|skip)))))
  ·simp only [qB,qA,qG,zA0];(refine zx rfl rfl rfl rfl ((Qr S.wf _ _).mono ?_);rintro _ h ⟨d,rfl,⟨hd,hq⟩|⟨hd,hq⟩,x⟩)<;>(replace S:=S.qN x;clear x;rw [ex] at hq;(first|(first|refine cT ?_|refine cF ?_))<;>((refine vl ?_);refine zU ?_))
   ·all_goals (repeat' (first|refine qh rfl ?_|refine qw ?_))
    exact ⟨i,⟨S,E,hi0,fun _=>hq⟩,(qo)⟩
   ·all_goals (repeat' (first|refine qh rfl ?_|refine qj ?_|refine qi ?_|(refine qc 4 ?_;refine qO ?_)))
    refine ⟨i+1,?_,?_,qo⟩
    ·show j0+1 - (i+1)<j0+1 - i;omega
    ·refine ⟨S,⟨by omega,fun k q1 q2=>?_,E.hi,ex⟩,by omega⟩;rcases zA7 k i with q|q
     ·exact E.lo k q1 q
     ·obtain rfl:k=i:=by omega
      exact hq
  ·exact ⟨i,⟨S,E,hi0,fun q=>by omega⟩,(qo)⟩
 clear S E hbi;rintro i h ⟨S,E,hi0,hi1⟩;have hbi:=E.bi;refine jh (σ:=Nat) (fun j h'=>Hs h0 h' (.sl v 111 3 zh m :: rs)∧EqI zW a b x i j m∧j≤j0∧(i≤j→¬ zW x (m.getD j default))) (fun j=>[(0,v),(1,.int .i64 a),(2,.int .i64 b),(3,.int .i64 q),(4,Js),(11,.int .i64 i),(12,.int .i64 j)]) ?_ ?_
 ·all_goals (repeat' (refine qi ?_))
  refine qH (σ:=Nat) (fun j h'=>Hs h0 h' (.sl v 111 3 zh m :: rs)∧EqI zW a b x i j m∧j≤j0) (fun j=>j) (fun j=>[(0,v),(1,.int .i64 a),(2,.int .i64 b),(3,.int .i64 q),(4,Js),(11,.int .i64 i),(12,.int .i64 j)]) j0 qo ?_ ?_
  ·exact ⟨S,E,zA3 _⟩
  clear S E hbi;rintro j h ⟨S,E,hj0⟩;have hbi:=E.bi;all_goals (repeat' (first|refine qg ?_|refine qh rfl ?_|refine qw ?_|(refine qJ 5 ?_;refine qE ?_;(first|(refine cS ?_ ?_<;>intro hc))<;>(refine mv ?_;(first|refine off ?_|refine mv ?_);(first|refine off ?_|refine mv ?_);(first|refine off ?_|refine mv ?_);(first|refine off ?_|(refine qy S rfl rfl ?_));(first|refine off ?_|(refine qI S rfl rfl ?_));(first|refine off ?_|refine mv ?_);(first|refine off ?_|refine mv ?_);(first|refine off ?_|(refine qy S rfl rfl ?_));(first|refine off ?_|(refine qI S rfl rfl ?_));(first|(refine off ?_;(refine off ?_)<;>(refine zU ?_))|skip)))))
  ·simp only [qB,qA,qG,zA0];(refine zx rfl rfl rfl rfl ((Qr S.wf _ _).mono ?_);rintro _ h ⟨d,rfl,⟨hd,hq⟩|⟨hd,hq⟩,x⟩)<;>(replace S:=S.qN x;clear x;rw [ex] at hq;(first|(first|refine cT ?_|refine cF ?_))<;>(refine zU ?_))
   ·all_goals (repeat' (first|refine qh rfl ?_|refine qj ?_|refine qi ?_|(refine qc 6 ?_;refine zO ?_)))
    refine ⟨j - 1,?_,?_,qo⟩
    ·show j - 1<j;omega
    ·refine ⟨S,⟨by omega,E.lo,fun k q1 q2=>?_,ex⟩,by omega⟩;rcases zA7 j k with q|q
     ·exact E.hi k q q2
     ·obtain rfl:k=j:=by omega
      exact hq
   ·all_goals (repeat' (first|refine qh rfl ?_|refine qw ?_))
    exact ⟨j,⟨S,E,hj0,fun _=>hq⟩,(qo)⟩
  ·exact ⟨j,⟨S,E,hj0,fun q=>by omega⟩,(qo)⟩
 clear S E hbi;rintro j h ⟨S,E,hj0,hj1⟩;have hbi:=E.bi;all_goals (repeat' (first|refine qg ?_|refine qh rfl ?_|refine qj ?_|refine qw ?_|(refine qc 7 ?_;refine qE ?_;(first|(refine cS ?_ ?_<;>intro hc))<;>(refine qf ?_))|(refine qJ 8 ?_;refine qE ?_;refine qE ?_;refine qE ?_;refine qy S rfl rfl ?_;refine qI S rfl rfl ?_;refine qE ?_;refine qy S rfl rfl ?_;refine qI S rfl rfl ?_;refine qy S rfl rfl ?_;(first|(refine zY S rfl rfl ?_;clear S;intro h S));refine qy S rfl rfl ?_;(first|(refine zY S rfl rfl ?_;clear S;intro h S));refine qf ?_)|(refine qc 9 ?_;refine qO ?_)|(refine qc 10 ?_;refine zO ?_)|(refine qc 11 ?_;refine qX ?_)))
 ·refine qC ⟨_,rfl,?_⟩;refine ⟨i,m,rfl,by omega,s1,fun k q1 q2=>?_,fun k q1 q2=>E.hi k (by omega) q2,S⟩;rcases zA7 a k with q|q
  ·exact E.lo k q q2
  ·obtain rfl:k=a:=by omega
   rw [ex];exact W.irr _
 ·(try simp only [qB,qA,qG,zA0] at S)
  obtain ⟨z1,z2⟩:=E.swap (by omega) (by omega) (hi1 (by omega)) (hj1 (by omega));refine ⟨(i+1,j - 1,swp m i j),?_,?_,qo⟩
  ·show j - 1+1 - (i+1)<j0+1 - i0;omega
  ·exact ⟨S,s1.step _ _ ⟨by omega,by omega⟩ ⟨by omega,by omega⟩ (by omega),z2⟩
theorem qen {h0 h:AH} {rs:List Rs} {v:Value} {l:List Ti} (a b q:Nat) (S:Hs h0 h (.sl v 111 3 zh l :: rs)) (hab:a≤q∧q<b) (hb:b≤l.length) (hl:l.length≤1000000) :
 Fn Tryz.prog Xh 172 [v,.int .i64 a,.int .i64 b,.int .i64 q,Js] h (fun r h'=>∃ (e:Nat) (f:Bool) (l':List Ti),r = .tuple #[.int .i64 e,.bool f]∧(a≤e∧e<b)∧Sw a b l l'∧Parted zW a b e l'∧Hs h0 h' (.sl v 111 3 zh l' :: rs)):=by
 have W:WOrd zW:=QS;obtain ⟨x,hx⟩:∃ x,x=l.getD q default:=⟨_,rfl⟩
 refine qZ rfl Tryz.func172 rfl rfl ?_;all_goals (repeat' (first|refine qg ?_|(refine qc 0 ?_;refine qX ?_)|(refine qJ 1 ?_;refine qE ?_;refine qE ?_;refine qE ?_;refine qy S rfl rfl ?_;refine qI S rfl rfl ?_;refine qE ?_;refine qy S rfl rfl ?_;refine qI S rfl rfl ?_;refine qy S rfl rfl ?_;(first|(refine zY S rfl rfl ?_;clear S;intro h S));refine qy S rfl rfl ?_;(first|(refine zY S rfl rfl ?_;clear S;intro h S));refine qf ?_)))
 (repeat (refine qg ?_));refine qc 2 ?_;refine mv ?_;refine ad ?_;refine mv ?_;refine sb ?_;refine qX ?_;(try simp only [qB,qA,qG,zA0] at S);have s1:Sw a b l (swp l a q):=.one _ _ ⟨by omega,by omega⟩ ⟨by omega,by omega⟩ hb;have x1:(swp l a q).getD a default=x:=by
  rw [swp_get (by omega) (by omega),hx];split
  ·rename_i e;rw [e]
  ·rw [if_pos rfl]
 obtain ⟨m,hm⟩:∃ m,m=swp l a q:=⟨_,rfl⟩
 replace S:Hs h0 h (.sl v 111 3 zh m :: rs):=by rw [hm];exact S
 rw [← hm] at s1 x1;have hml:=s1.len;have ex:=x1;have E:PartI zW a b x (a+1) (b - 1) m:=⟨by omega,fun k q1 q2=>by omega,fun k q1 q2=>by omega,x1⟩
 have hbi:=E.bi;refine jh (σ:=Nat) (fun i h'=>Hs h0 h' (.sl v 111 3 zh m :: rs)∧PartI zW a b x i (b - 1) m∧(a+1)≤i∧(i≤(b - 1)→¬ zW (m.getD i default) x)) (fun i=>[(0,v),(1,.int .i64 a),(2,.int .i64 b),(3,.int .i64 q),(4,Js),(12,.int .i64 i),(13,.int .i64 (b - 1:Nat))]) ?_ ?_
 ·all_goals (repeat' (refine qi ?_))
  refine qH (σ:=Nat) (fun i h'=>Hs h0 h' (.sl v 111 3 zh m :: rs)∧PartI zW a b x i (b - 1) m∧(a+1)≤i) (fun i=>(b - 1)+1 - i) (fun i=>[(0,v),(1,.int .i64 a),(2,.int .i64 b),(3,.int .i64 q),(4,Js),(12,.int .i64 i),(13,.int .i64 (b - 1:Nat))]) (a+1) qo ?_ ?_
  ·exact ⟨S,E,zA3 _⟩
  clear S E hbi;rintro i h ⟨S,E,hi0⟩;have hbi:=E.bi;all_goals (repeat' (first|refine qg ?_|refine qh rfl ?_|refine qw ?_|(refine qJ 3 ?_;refine qE ?_;(first|(refine cS ?_ ?_<;>intro hc))<;>(refine mv ?_;(first|refine off ?_|refine mv ?_);(first|refine off ?_|refine mv ?_);(first|refine off ?_|refine mv ?_);(first|refine off ?_|(refine qy S rfl rfl ?_));(first|refine off ?_|(refine qI S rfl rfl ?_));(first|refine off ?_|refine mv ?_);(first|refine off ?_|refine mv ?_);(first|refine off ?_|(refine qy S rfl rfl ?_));(first|refine off ?_|(refine qI S rfl rfl ?_));(first|(refine off ?_;(refine off ?_)<;>(refine zU ?_))|skip)))))
  ·simp only [qB,qA,qG,zA0];(refine zx rfl rfl rfl rfl ((Qr S.wf _ _).mono ?_);rintro _ h ⟨d,rfl,⟨hd,hq⟩|⟨hd,hq⟩,x⟩)<;>(replace S:=S.qN x;clear x;rw [ex] at hq;(first|(first|refine cT ?_|refine cF ?_))<;>(refine zU ?_))
   ·all_goals (repeat' (first|refine qh rfl ?_|refine qj ?_|refine qi ?_|(refine qc 4 ?_;refine qO ?_)))
    refine ⟨i+1,?_,?_,qo⟩
    ·show (b - 1)+1 - (i+1)<(b - 1)+1 - i;omega
    ·refine ⟨S,⟨by omega,fun k q1 q2=>?_,E.hi,ex⟩,by omega⟩;rcases zA7 k i with q|q
     ·exact E.lo k q1 q
     ·obtain rfl:k=i:=by omega
      exact hq
   ·all_goals (repeat' (first|refine qh rfl ?_|refine qw ?_))
    exact ⟨i,⟨S,E,hi0,fun _=>hq⟩,(qo)⟩
  ·exact ⟨i,⟨S,E,hi0,fun q=>by omega⟩,(qo)⟩
 clear S E hbi;rintro i h ⟨S,E,hi0,hi1⟩;have hbi:=E.bi;refine jh (σ:=Nat) (fun j h'=>Hs h0 h' (.sl v 111 3 zh m :: rs)∧PartI zW a b x i j m∧j≤(b - 1)∧(i≤j→zW (m.getD j default) x)) (fun j=>[(0,v),(1,.int .i64 a),(2,.int .i64 b),(3,.int .i64 q),(4,Js),(12,.int .i64 i),(13,.int .i64 j)]) ?_ ?_
 ·all_goals (repeat' (refine qi ?_))
  refine qH (σ:=Nat) (fun j h'=>Hs h0 h' (.sl v 111 3 zh m :: rs)∧PartI zW a b x i j m∧j≤(b - 1)) (fun j=>j) (fun j=>[(0,v),(1,.int .i64 a),(2,.int .i64 b),(3,.int .i64 q),(4,Js),(12,.int .i64 i),(13,.int .i64 j)]) (b - 1) qo ?_ ?_
  ·exact ⟨S,E,zA3 _⟩
  clear S E hbi;rintro j h ⟨S,E,hj0⟩;have hbi:=E.bi;all_goals (repeat' (first|refine qg ?_|refine qh rfl ?_|refine qw ?_|(refine qJ 5 ?_;refine qE ?_;(first|(refine cS ?_ ?_<;>intro hc))<;>(refine mv ?_;(first|refine off ?_|refine mv ?_);(first|refine off ?_|refine mv ?_);(first|refine off ?_|refine mv ?_);(first|refine off ?_|(refine qy S rfl rfl ?_));(first|refine off ?_|(refine qI S rfl rfl ?_));(first|refine off ?_|refine mv ?_);(first|refine off ?_|refine mv ?_);(first|refine off ?_|(refine qy S rfl rfl ?_));(first|refine off ?_|(refine qI S rfl rfl ?_));(first|(refine off ?_;(refine off ?_)<;>((refine off ?_);refine zU ?_))|skip)))))
  ·simp only [qB,qA,qG,zA0];(refine zx rfl rfl rfl rfl ((Qr S.wf _ _).mono ?_);rintro _ h ⟨d,rfl,⟨hd,hq⟩|⟨hd,hq⟩,x⟩)<;>(replace S:=S.qN x;clear x;rw [ex] at hq;(first|(first|refine cT ?_|refine cF ?_))<;>((refine vl ?_);refine zU ?_))
   ·all_goals (repeat' (first|refine qh rfl ?_|refine qw ?_))
    exact ⟨j,⟨S,E,hj0,fun _=>hq⟩,(qo)⟩
   ·all_goals (repeat' (first|refine qh rfl ?_|refine qj ?_|refine qi ?_|(refine qc 6 ?_;refine zO ?_)))
    refine ⟨j - 1,?_,?_,qo⟩
    ·show j - 1<j;omega
    ·refine ⟨S,⟨by omega,E.lo,fun k q1 q2=>?_,ex⟩,by omega⟩;rcases zA7 j k with q|q
     ·exact E.hi k q q2
     ·obtain rfl:k=j:=by omega
      exact hq
  ·exact ⟨j,⟨S,E,hj0,fun q=>by omega⟩,(qo)⟩
 clear S E hbi;rintro j h ⟨S,E,hj0,hj1⟩;have hbi:=E.bi;all_goals (repeat' (first|refine qg ?_|refine qh rfl ?_|refine qj ?_|refine qi ?_|(refine qc 7 ?_;refine qE ?_;(first|(refine cS ?_ ?_<;>intro hc))<;>(refine qf ?_))|(refine qJ 8 ?_;refine qE ?_;refine qE ?_;refine qE ?_;refine qy S rfl rfl ?_;refine qI S rfl rfl ?_;refine qE ?_;refine qy S rfl rfl ?_;refine qI S rfl rfl ?_;refine qy S rfl rfl ?_;(first|(refine zY S rfl rfl ?_;clear S;intro h S));refine qy S rfl rfl ?_;(first|(refine zY S rfl rfl ?_;clear S;intro h S));refine qf ?_)|(refine qc 9 ?_;refine mv ?_;refine qX ?_)|(refine qJ 10 ?_;refine qE ?_;refine qE ?_;refine qE ?_;refine qy S rfl rfl ?_;refine qI S rfl rfl ?_;refine qE ?_;refine qy S rfl rfl ?_;refine qI S rfl rfl ?_;refine qy S rfl rfl ?_;(first|(refine zY S rfl rfl ?_;clear S;intro h S));refine qy S rfl rfl ?_;(first|(refine zY S rfl rfl ?_;clear S;intro h S));refine qf ?_)|(refine qc 11 ?_;refine qO ?_)|(refine qc 12 ?_;refine zO ?_)))
 ·(try simp only [qB,qA,qG,zA0] at S)
  refine qC ⟨_,rfl,?_⟩;exact ⟨j,true,swp m j a,rfl,by omega,s1.step _ _ ⟨by omega,by omega⟩ ⟨by omega,by omega⟩ (by omega),E.done W (by omega) (by omega),S⟩
 (try simp only [qB,qA,qG,zA0] at S)
 obtain ⟨z1,z2⟩:=E.swap (by omega) (by omega) (hi1 (by omega)) (hj1 (by omega));refine qH (σ:=Nat×Nat×List Ti) (fun (i,j,m) h'=>Hs h0 h' (.sl v 111 3 zh m :: rs)∧Sw a b l m∧PartI zW a b x i j m) (fun (i,j,m)=>j+1 - i) (fun (i,j,m)=>[(0,v),(1,.int .i64 a),(2,.int .i64 b),(3,.int .i64 q),(4,Js),(12,.int .i64 i),(13,.int .i64 j)]) (i+1,j - 1,swp m i j) qo ?_ ?_
 ·exact ⟨S,s1.step _ _ ⟨by omega,by omega⟩ ⟨by omega,by omega⟩ (by omega),z2⟩
 clear S s1 x1 E hbi hi0 hi1 hj0 hj1 z1 z2 hml ex hm;rintro ⟨i0,j0,m⟩ h ⟨S,s1,E⟩;have hml:=s1.len;have hbi:=E.bi;have ex:=E.x;refine qi ?_;refine jh (σ:=Nat) (fun i h'=>Hs h0 h' (.sl v 111 3 zh m :: rs)∧PartI zW a b x i j0 m∧i0≤i∧(i≤j0→¬ zW (m.getD i default) x)) (fun i=>[(0,v),(1,.int .i64 a),(2,.int .i64 b),(3,.int .i64 q),(4,Js),(12,.int .i64 i),(13,.int .i64 j0)]) ?_ ?_
 ·all_goals (repeat' (refine qi ?_))
  refine qH (σ:=Nat) (fun i h'=>Hs h0 h' (.sl v 111 3 zh m :: rs)∧PartI zW a b x i j0 m∧i0≤i) (fun i=>j0+1 - i) (fun i=>[(0,v),(1,.int .i64 a),(2,.int .i64 b),(3,.int .i64 q),(4,Js),(12,.int .i64 i),(13,.int .i64 j0)]) i0 qo ?_ ?_
  ·exact ⟨S,E,zA3 _⟩
  clear S E hbi;rintro i h ⟨S,E,hi0⟩;have hbi:=E.bi;all_goals (repeat' (first|refine qg ?_|refine qh rfl ?_|refine qw ?_|(refine qJ 13 ?_;refine qE ?_;(first|(refine cS ?_ ?_<;>intro hc))<;>(refine mv ?_;(first|refine off ?_|refine mv ?_);(first|refine off ?_|refine mv ?_);(first|refine off ?_|refine mv ?_);(first|refine off ?_|(refine qy S rfl rfl ?_));(first|refine off ?_|(refine qI S rfl rfl ?_));(first|refine off ?_|refine mv ?_);(first|refine off ?_|refine mv ?_);(first|refine off ?_|(refine qy S rfl rfl ?_));(first|refine off ?_|(refine qI S rfl rfl ?_));(first|(refine off ?_;(refine off ?_)<;>(refine zU ?_))|skip)))))
  ·simp only [qB,qA,qG,zA0];(refine zx rfl rfl rfl rfl ((Qr S.wf _ _).mono ?_);rintro _ h ⟨d,rfl,⟨hd,hq⟩|⟨hd,hq⟩,x⟩)<;>(replace S:=S.qN x;clear x;rw [ex] at hq;(first|(first|refine cT ?_|refine cF ?_))<;>(refine zU ?_))
   ·all_goals (repeat' (first|refine qh rfl ?_|refine qj ?_|refine qi ?_|(refine qc 14 ?_;refine qO ?_)))
    refine ⟨i+1,?_,?_,qo⟩
    ·show j0+1 - (i+1)<j0+1 - i;omega
    ·refine ⟨S,⟨by omega,fun k q1 q2=>?_,E.hi,ex⟩,by omega⟩;rcases zA7 k i with q|q
     ·exact E.lo k q1 q
     ·obtain rfl:k=i:=by omega
      exact hq
   ·all_goals (repeat' (first|refine qh rfl ?_|refine qw ?_))
    exact ⟨i,⟨S,E,hi0,fun _=>hq⟩,(qo)⟩
  ·exact ⟨i,⟨S,E,hi0,fun q=>by omega⟩,(qo)⟩
 clear S E hbi;rintro i h ⟨S,E,hi0,hi1⟩;have hbi:=E.bi;refine jh (σ:=Nat) (fun j h'=>Hs h0 h' (.sl v 111 3 zh m :: rs)∧PartI zW a b x i j m∧j≤j0∧(i≤j→zW (m.getD j default) x)) (fun j=>[(0,v),(1,.int .i64 a),(2,.int .i64 b),(3,.int .i64 q),(4,Js),(12,.int .i64 i),(13,.int .i64 j)]) ?_ ?_
 ·all_goals (repeat' (refine qi ?_))
  refine qH (σ:=Nat) (fun j h'=>Hs h0 h' (.sl v 111 3 zh m :: rs)∧PartI zW a b x i j m∧j≤j0) (fun j=>j) (fun j=>[(0,v),(1,.int .i64 a),(2,.int .i64 b),(3,.int .i64 q),(4,Js),(12,.int .i64 i),(13,.int .i64 j)]) j0 qo ?_ ?_
  ·exact ⟨S,E,zA3 _⟩
  clear S E hbi;rintro j h ⟨S,E,hj0⟩;have hbi:=E.bi;all_goals (repeat' (first|refine qg ?_|refine qh rfl ?_|refine qw ?_|(refine qJ 15 ?_;refine qE ?_;(first|(refine cS ?_ ?_<;>intro hc))<;>(refine mv ?_;(first|refine off ?_|refine mv ?_);(first|refine off ?_|refine mv ?_);(first|refine off ?_|refine mv ?_);(first|refine off ?_|(refine qy S rfl rfl ?_));(first|refine off ?_|(refine qI S rfl rfl ?_));(first|refine off ?_|refine mv ?_);(first|refine off ?_|refine mv ?_);(first|refine off ?_|(refine qy S rfl rfl ?_));(first|refine off ?_|(refine qI S rfl rfl ?_));(first|(refine off ?_;(refine off ?_)<;>((refine off ?_);refine zU ?_))|skip)))))
  ·simp only [qB,qA,qG,zA0];(refine zx rfl rfl rfl rfl ((Qr S.wf _ _).mono ?_);rintro _ h ⟨d,rfl,⟨hd,hq⟩|⟨hd,hq⟩,x⟩)<;>(replace S:=S.qN x;clear x;rw [ex] at hq;(first|(first|refine cT ?_|refine cF ?_))<;>((refine vl ?_);refine zU ?_))
   ·all_goals (repeat' (first|refine qh rfl ?_|refine qw ?_))
    exact ⟨j,⟨S,E,hj0,fun _=>hq⟩,(qo)⟩
   ·all_goals (repeat' (first|refine qh rfl ?_|refine qj ?_|refine qi ?_|(refine qc 16 ?_;refine zO ?_)))
    refine ⟨j - 1,?_,?_,qo⟩
    ·show j - 1<j;omega
    ·refine ⟨S,⟨by omega,E.lo,fun k q1 q2=>?_,ex⟩,by omega⟩;rcases zA7 j k with q|q
     ·exact E.hi k q q2
     ·obtain rfl:k=j:=by omega
      exact hq
  ·exact ⟨j,⟨S,E,hj0,fun q=>by omega⟩,(qo)⟩
 clear S E hbi;rintro j h ⟨S,E,hj0,hj1⟩;have hbi:=E.bi;all_goals (repeat' (first|refine qg ?_|refine qh rfl ?_|refine qj ?_|refine qw ?_|(refine qc 17 ?_;refine qE ?_;(first|(refine cS ?_ ?_<;>intro hc))<;>(refine qf ?_))|(refine qJ 18 ?_;refine qE ?_;refine qE ?_;refine qE ?_;refine qy S rfl rfl ?_;refine qI S rfl rfl ?_;refine qE ?_;refine qy S rfl rfl ?_;refine qI S rfl rfl ?_;refine qy S rfl rfl ?_;(first|(refine zY S rfl rfl ?_;clear S;intro h S));refine qy S rfl rfl ?_;(first|(refine zY S rfl rfl ?_;clear S;intro h S));refine qf ?_)|(refine qc 19 ?_;refine qO ?_)|(refine qc 20 ?_;refine zO ?_)|(refine qJ 21 ?_;refine qE ?_;refine qE ?_;refine qE ?_;refine qy S rfl rfl ?_;refine qI S rfl rfl ?_;refine qE ?_;refine qy S rfl rfl ?_;refine qI S rfl rfl ?_;refine qy S rfl rfl ?_;(first|(refine zY S rfl rfl ?_;clear S;intro h S));refine qy S rfl rfl ?_;(first|(refine zY S rfl rfl ?_;clear S;intro h S));refine qf ?_)|(refine qc 22 ?_;refine mv ?_;refine qX ?_)))
 ·(try simp only [qB,qA,qG,zA0] at S)
  refine qC ⟨_,rfl,?_⟩;exact ⟨j,false,swp m j a,rfl,by omega,s1.step _ _ ⟨by omega,by omega⟩ ⟨by omega,by omega⟩ (by omega),E.done W (by omega) (by omega),S⟩
 ·(try simp only [qB,qA,qG,zA0] at S)
  obtain ⟨z1,z2⟩:=E.swap (by omega) (by omega) (hi1 (by omega)) (hj1 (by omega));refine ⟨(i+1,j - 1,swp m i j),?_,?_,qo⟩
  ·show j - 1+1 - (i+1)<j0+1 - i0;omega
  ·exact ⟨S,s1.step _ _ ⟨by omega,by omega⟩ ⟨by omega,by omega⟩ (by omega),z2⟩
end Go.Proofs.Xx
