/-
  All divisions,gone through in order: the first one that is as fair as any is found among those in which equal waiters stand in order;plain.
-/
import Derived.Test.YtgehpahpnidimaaGreatDoorM10
import Derived.Test.YtgehpahpnidimaaGreatDoorM9
set_option linter.unusedSectionVars false
set_option linter.unusedSimpArgs false
set_option linter.unusedVariables false
set_option maxRecDepth 100000
set_option maxHeartbeats 4000000
namespace Go.Proofs.Xx
def qgC (n:Nat):Nat→List Int→List (List Int)
 | 0,done=>[done]
 | k+1,done=>(List.range n).flatMap fun w:Nat=>qgC n k (done ++ [(w:Int)])
abbrev nI (g:List Nat):List Int:=g.map fun w:Nat=>(w:Int)
def exW (u w x:Nat):Nat:=if x=u then w else if x=w then u else x
def qfz (n:Nat):Nat→Nat→List Nat
 | 0,_=>[]
 | j+1,k=>qfz n j (k / n) ++ [k % n]
end Go.Proofs.Xx
namespace Go.Proofs.Xx
variable [Flag]
theorem Srt.out {a i:Nat} {m n:List (List UInt8)} (h:Srt jT a i m) (e:∀ k,a≤k→k<i→n.getD k default=m.getD k default):Srt jT a i n:=fun p q h1 h2 h3=>by
 rw [e p h1 (by omega),e q (by omega) h3];exact h p q h1 h2 h3
end Go.Proofs.Xx
namespace Go.Proofs.Xx
open Go Go.Proofs
variable [Flag]
end Go.Proofs.Xx
namespace Go.Proofs.Xx
open Go Go.Proofs
def MpRd {α:Type} (h:AH) (b:Nat) (enc:α→Value) (l:List (List UInt8×α)):Prop:=∃ es clock,h.get b=some (.map es clock)∧es.map (fun e=>(e.1,e.2.1))=l.map (fun p=>(Value.string ⟨p.1.toArray⟩,enc p.2))
theorem MpRd.ext {α:Type} {h h':AH} {b:Nat} {enc:α→Value} {l:List (List UInt8×α)} (r:MpRd h b enc l) (w:WfH h) (x:Ext h h'):MpRd h' b enc l:=by
 obtain ⟨es,clock,h1,h2⟩:=r;exact ⟨es,clock,x.get w h1,h2⟩
section
variable {P:Program} {X:Extern} {sz:Nat} {L:Ks} {h h0:AH} {rs:List Rs} {ops:Array Oper} {os:List Oper} {o:Oper} {R:Ks→AH→Prop}
end
structure BkAt (h:AH) (p:Nat) (r:Rl) (s:BkS):Prop where
 bk:h.get p=some (.cells [s.vg.val,s.vt.val,.map (some s.m)] 298 none false)
 rg:qY h s.vg.val 9 eG s.gs
 rt:qY h s.vt.val 3 Qa r.ts
 mp:MpRd h s.m (.int .i64) s.mp
 tg:∀ i,i<s.gs.length→qY h (s.gs.getD i default).tv.val 1 eS (s.gs.getD i default).tg
 us:s.gs.map (·.toGu)=r.us
 at_:AtOk s.mp r.us
def BkRd (h:AH) (p:Nat) (r:Rl):Prop:=∃ s,BkAt h p r s
theorem BkRd.ext {h h':AH} {p:Nat} {r:Rl} (b:BkRd h p r) (w:WfH h) (x:Ext h h'):BkRd h' p r:=by
 obtain ⟨s,b⟩:=b;exact ⟨s,x.get w b.bk,b.rg.ext w x,b.rt.ext w x,b.mp.ext w x,fun i hi=>(b.tg i hi).ext w x,b.us,b.at_⟩
theorem BkAt.len {h:AH} {p:Nat} {r:Rl} {s:BkS} (b:BkAt h p r s):s.gs.length=r.us.length:=by rw [← b.us];simp
theorem BkAt.g {h:AH} {p:Nat} {r:Rl} {s:BkS} (b:BkAt h p r s) {i:Nat} (hi:i<s.gs.length):(s.gs.getD i default).toGu=r.us.getD i default:=by rw [← b.us,zn hi]
def SS (l:List (List UInt8)):Prop:=∀ i j,i<j→j<l.length→jT (l.getD i default) (l.getD j default)
theorem qbu {l:List (List UInt8)} (h:l.Nodup) {i j:Nat} (hij:i<j) (hj:j<l.length):l.getD i default≠l.getD j default:=by
 rw [zA2,zA2,zA4 hj,zA4 (show i<l.length by omega)];exact zD2.1 h i j (by omega) hj hij
theorem SS.of {l l':List (List UInt8)} (s:Sw 0 l.length l l') (h:Srt jT 0 l.length l') (hn:l.Nodup):SS l':=fun i j hij hj=>by
 have hl:=s.len;have hn':l'.Nodup:=s.perm.nodup_iff.2 hn;have h1:=h i j (zB0 _) hij (by omega);rcases qdU h1 with q|q
 ·exact absurd q (qbu hn' hij hj)
 ·exact q
theorem SS.nodup {l:List (List UInt8)} (h:SS l):l.Nodup:=by
 rw [List.nodup_iff_pairwise_ne,zD2];intro i j hi hj hij;have:=h i j hij hj;rw [zA2,zA2,zA4 hj,zA4 hi] at this;exact qa5 this
def adj (r:Rl) (k:Int) (n x:List UInt8):Prop:=∃ t∈r.ts,t.k=k∧((t.a=n∧t.b=x)∨(t.b=n∧t.a=x))
theorem adj.symm {r:Rl} {k:Int} {n x:List UInt8} (h:adj r k n x):adj r k x n:=by
 obtain ⟨t,h1,h2,h3⟩:=h;exact ⟨t,h1,h2,h3.elim (fun q=>.inr ⟨q.2,q.1⟩) (fun q=>.inl ⟨q.2,q.1⟩)⟩
def qgR (k:Int) (n:List UInt8) (t:Ti):List (List UInt8):=if t.k≠k then [] else if t.a=n then [t.b] else if t.b=n then [t.a] else []
variable [Flag]
end Go.Proofs.Xx
namespace Go.Proofs.Xx
open Go Go.Proofs
section
variable {P:Program} {X:Extern} {sz:Nat} {L:Ks} {h h0:AH} {rs:List Rs} {ops:Array Oper} {os:List Oper} {o:Oper} {R:Ks→AH→Prop}
theorem bE {L1 L2:Ks} {x y:Operand} {ty ty2:TypeId} {a b:Bool} (w1:a=b→KO P X sz ops os L1 h R) (w2:¬ a=b→KO P X sz ops os L2 h R) (ho:o.op = .binOp .eql ty x y ty2:=by exact rfl) (hg:qm ops L.tree o.guard=some true:=by exact rfl) (hx:kA L x=some (.bool a):=by exact rfl) (hy:kA L y=some (.bool b):=by exact rfl) (hu:P.underlying ty=some .bool:=by exact rfl)
 (hp1:qB sz L o.dst (.bool true)=some L1:=by exact rfl) (hp2:qB sz L o.dst (.bool false)=some L2:=by exact rfl):KO P X sz ops (o :: os) L h R:=by
 by_cases p:a=b
 ·subst p;exact zI ho hg hx hy (v:=.bool true) (by cases a<;>simp [jM,hu]) hp1 (w1 rfl)
 ·exact zI ho hg hx hy (v:=.bool false) (by cases a<;>cases b<;>first|exact absurd rfl p|simp [jM,hu]) hp2 (w2 p)
end
theorem J3 {α:Type} [Inhabited α] {l m:List α} (hl:l.length=m.length) (h:∀ i,i<l.length→l.getD i default=m.getD i default):l=m:=by
 apply List.ext_getElem hl
 intro i h1 h2;have:=h i h1;rwa [zA2,zA2,zA4 h1,zA4 h2] at this
theorem qe2 (a b:Ti):(zu ⟨a.a.toArray⟩ ⟨b.a.toArray⟩ && (zu ⟨a.b.toArray⟩ ⟨b.b.toArray⟩ && (a.k == b.k && true)))=true↔a=b:=by
 rw [jd,jd];cases a;cases b
 simp
theorem Star.snoc {h:AH} {r:Rs} {fp:Fp} (hr:r.ok h fp):∀ {l:List Rs} {U:Fp},Star h l U→(∀ b,fp b→¬ U b)→Star h (l ++ [r]) (fun b=>U b∨fp b)
 | [],U,_,_=>⟨fp,hr,fun b hb=>.inr hb,trivial⟩
 | x :: l,U,⟨fx,h1,h2,h3⟩,hd=>⟨fx,h1,fun b hb=>.inl (h2 b hb),(Star.snoc hr h3 fun b hb q=>hd b hb q.1).mono fun b hb=>by
  rcases hb with hb|hb
  ·exact ⟨.inl hb.1,hb.2⟩
  ·exact ⟨.inr hb,fun q=>hd b hb (h2 b q)⟩⟩
abbrev qct (g:Zf):Rs:=.sl g.tv.val 9 1 eS g.tg
abbrev tgO (gs:List Zf):Rs:=.any (fun h fp=>Star h (gs.map qct) fp)
theorem Hs.tgOapp {h0 h:AH} {rs:List Rs} {gs:List Zf} {g:Zf} (S:Hs h0 h (.sl g.tv.val 9 1 eS g.tg :: tgO gs :: rs)):Hs h0 h (tgO (gs ++ [g]) :: rs):=by
 obtain ⟨f1,k1,k2,f2,k3,k4,k5⟩:=S.sep;refine ⟨S.ext,fun b=>f2 b∨f1 b,fun h' q=>?_,fun b hb=>?_,k5.mono fun b hb=>⟨trivial,fun q=>?_⟩⟩
 ·rw [zC9];exact Star.snoc (k1.local fun b hb=>q b (.inr hb)) (k3 h' fun b hb=>q b (.inl hb)) fun b hb q=>(k4 b q).2.2.2 hb
 ·rcases hb with hb|hb
  ·exact ⟨(k4 b hb).1,(k4 b hb).2.1,trivial⟩
  ·exact k2 b hb
 ·rcases q with q|q
  ·exact hb.2 q
  ·exact hb.1.2 q
theorem Star.get {h:AH} {r:Rs}:∀ {l:List Rs} {U:Fp},Star h l U→r∈l→∃ fp,r.ok h fp
 | x :: l,U,⟨fx,h1,h2,h3⟩,hr=>by
  rcases zE7.1 hr with rfl|hr
  ·exact ⟨fx,h1⟩
  ·exact Star.get h3 hr
abbrev qgS (v:RlV) (ts:List Ti):List Rs:=[.sl v.vg.val 125 9 eG v.gs,.sl v.vt.val 174 3 Qa ts,tgO v.gs]
variable [Flag]
theorem yV {h0:AH} (w:WfH h0) (v u:Value) (l m:List (List UInt8)) (rv:qY h0 v 1 eS l) (ru:qY h0 u 1 eS m) (hl:l.length≤9223372036854775807) (hm:m.length≤9223372036854775807):Fn Tryz.prog Xh 213 [v,u] h0 (fun x h'=>qI x (l=m)∧Hs h0 h' []):=by
 have S:=Hs.start w;refine qF (by first|rfl) Tryz.func213 rfl rfl ?_;all_goals (repeat' (first|refine qg ?_|refine qh rfl ?_|refine qj ?_|refine ql ?_|(refine qc 0 ?_;refine mv ?_;refine qf ?_)|(refine qc 1 ?_;refine mv ?_;refine zT S ?_;refine mv ?_;refine zT S ?_;(first|(refine cS ?_ ?_<;>intro hc))<;>(refine qf ?_))|(refine qc 2 ?_;refine mv ?_;refine qf ?_)|(refine qc 3 ?_;refine mv ?_;refine qf ?_)))
 ·refine qi ⟨_,rfl,?_⟩;exact ⟨.inr ⟨rfl,fun q=>by subst q;exact hc rfl⟩,S⟩
 ·refine qG (σ:=Nat) (fun i h'=>Hs h0 h' []∧i≤l.length∧∀ j,j<i→l.getD j default=m.getD j default) (fun i=>l.length - i) (fun i=>[(0,v),(1,u),(5,.int .i64 i)]) 0 qw ?_ ?_
  ·exact ⟨S,zB0 _,fun j hj=>absurd hj (zB7 _)⟩
  clear S;rintro i h ⟨S,g1,g2⟩;all_goals (repeat' (first|refine qg ?_|refine qh rfl ?_|refine qj ?_|refine qx ?_|refine ql ?_|(refine qc 4 ?_;refine mv ?_;refine mv ?_;refine zT S ?_;(first|(refine cS ?_ ?_<;>intro hc))<;>(refine qf ?_))|(refine qc 5 ?_;refine mv ?_;refine ad ?_;refine mv ?_;refine qf ?_)|(refine qQ 6 ?_;refine mv ?_;refine mv ?_;refine jB S ?_;refine jA S ?_;refine mv ?_;refine mv ?_;refine jB S ?_;refine jA S ?_;(refine tS ?_ ?_<;>intro hc)<;>(refine qf ?_))|(refine qc 7 ?_;refine mv ?_;refine qf ?_)|(refine qc 8 ?_;refine mv ?_;refine qf ?_)))
  all_goals (try simp only [zA0] at *)
  ·refine ⟨i+1,?_,?_,qw⟩
   ·show l.length - (i+1)<l.length - i;omega
   ·exact ⟨S,by omega,jr g2 hc⟩
  ·refine qi ⟨_,rfl,?_⟩;exact ⟨.inr ⟨rfl,fun q=>by subst q;exact hc rfl⟩,S⟩
  ·refine qi ⟨_,rfl,?_⟩;exact ⟨.inl ⟨rfl,J3 (by omega) fun j hj=>g2 j (by omega)⟩,S⟩
theorem kC {h0:AH} (w:WfH h0) (v u:Value) (l m:List Ti) (rv:qY h0 v 3 Qa l) (ru:qY h0 u 3 Qa m) (hl:l.length≤9223372036854775807) (hm:m.length≤9223372036854775807):Fn Tryz.prog Xh 106 [v,u] h0 (fun x h'=>qI x (l=m)∧Hs h0 h' []):=by
 have S:=Hs.start w;refine qF (by first|rfl) Tryz.func106 rfl rfl ?_;all_goals (repeat' (first|refine qg ?_|refine qh rfl ?_|refine qj ?_|refine ql ?_|(refine qc 0 ?_;refine mv ?_;refine qf ?_)|(refine qc 1 ?_;refine mv ?_;refine zT S ?_;refine mv ?_;refine zT S ?_;(first|(refine cS ?_ ?_<;>intro hc))<;>(refine qf ?_))|(refine qc 2 ?_;refine mv ?_;refine qf ?_)|(refine qc 3 ?_;refine mv ?_;refine qf ?_)))
 ·refine qi ⟨_,rfl,?_⟩;exact ⟨.inr ⟨rfl,fun q=>by subst q;exact hc rfl⟩,S⟩
 ·refine qG (σ:=Nat) (fun i h'=>Hs h0 h' []∧i≤l.length∧∀ j,j<i→l.getD j default=m.getD j default) (fun i=>l.length - i) (fun i=>[(0,v),(1,u),(5,.int .i64 i)]) 0 qw ?_ ?_
  ·exact ⟨S,zB0 _,fun j hj=>absurd hj (zB7 _)⟩
  clear S;rintro i h ⟨S,g1,g2⟩;all_goals (repeat' (first|refine qg ?_|refine qh rfl ?_|refine qj ?_|refine qx ?_|refine ql ?_|(refine qc 4 ?_;refine mv ?_;refine mv ?_;refine zT S ?_;(first|(refine cS ?_ ?_<;>intro hc))<;>(refine qf ?_))|(refine qc 5 ?_;refine mv ?_;refine ad ?_;refine mv ?_;refine qf ?_)|(refine qQ 6 ?_;refine mv ?_;refine mv ?_;refine jB S ?_;refine jA S ?_;refine mv ?_;refine mv ?_;refine jB S ?_;refine jA S ?_;(refine gE ?_ ?_<;>intro hc)<;>(refine qf ?_))|(refine qc 7 ?_;refine mv ?_;refine qf ?_)|(refine qc 8 ?_;refine mv ?_;refine qf ?_)))
  all_goals (try simp only [zA0] at *)
  ·refine ⟨i+1,?_,?_,qw⟩
   ·show l.length - (i+1)<l.length - i;omega
   ·exact ⟨S,by omega,jr g2 ((qe2 _ _).1 hc)⟩
  ·refine qi ⟨_,rfl,?_⟩;exact ⟨.inr ⟨rfl,fun q=>by subst q;rw [(qe2 _ _).2 rfl] at hc;cases hc⟩,S⟩
  ·refine qi ⟨_,rfl,?_⟩;exact ⟨.inl ⟨rfl,J3 (by omega) fun j hj=>g2 j (by omega)⟩,S⟩
theorem yY {h0:AH} (w:WfH h0) (g k:Zf) (rg:qY h0 g.tv.val 1 eS g.tg) (rk:qY h0 k.tv.val 1 eS k.tg) (hg:g.tg.length≤9223372036854775807) (hk:k.tg.length≤9223372036854775807):Fn Tryz.prog Xh 147 [gV g,gV k] h0 (fun x h'=>qI x (g.toGu=k.toGu)∧Hs h0 h' []):=by
 have S:=Hs.start w;obtain ⟨⟨n1,n2,n3,n4,n5,n6,n7,n8,n9⟩,n10⟩:=g;obtain ⟨⟨m1,m2,m3,m4,m5,m6,m7,m8,m9⟩,m10⟩:=k;unfold gV;dsimp only at *;refine qF (by first|rfl) Tryz.func147 rfl rfl ?_;all_goals (repeat' (first|refine qg ?_|(refine qc 0 ?_;(refine bx S ?_;clear S;intro b h S);(refine bx S ?_;clear S;intro b h S);refine mv ?_;refine qf ?_)|(refine qc 1 ?_;refine vl ?_;refine lB S rfl rfl ?_;refine vl ?_;refine lB S rfl rfl ?_;(refine tS ?_ ?_<;>intro hc)<;>(refine mv ?_;(first|refine off ?_|(refine vl ?_));(first|refine off ?_|(refine lB S rfl rfl ?_));(first|refine off ?_|(refine vl ?_));(first|refine off ?_|(refine lB S rfl rfl ?_));(first|refine off ?_|(refine tS ?_ ?_<;>intro hc))<;>(refine vl ?_;refine mv ?_;(first|refine off ?_|(refine vl ?_));(first|refine off ?_|(refine lB S rfl rfl ?_));(first|refine off ?_|(refine vl ?_));(first|refine off ?_|(refine lB S rfl rfl ?_));(first|refine off ?_|(refine tS ?_ ?_<;>intro hc))<;>(refine vl ?_;refine mv ?_;(first|refine off ?_|(refine vl ?_));(first|refine off ?_|(refine lB S rfl rfl ?_));(first|refine off ?_|(refine vl ?_));(first|refine off ?_|(refine lB S rfl rfl ?_));(first|refine off ?_|(first|(refine cS ?_ ?_<;>intro hc)))<;>(refine vl ?_;refine mv ?_;(first|refine off ?_|(refine vl ?_));(first|refine off ?_|(refine lB S rfl rfl ?_));(first|refine off ?_|(refine vl ?_));(first|refine off ?_|(refine lB S rfl rfl ?_));(first|refine off ?_|(first|(refine cS ?_ ?_<;>intro hc)))<;>(refine vl ?_;refine mv ?_;(first|refine off ?_|(refine vl ?_));(first|refine off ?_|(refine lB S rfl rfl ?_));(first|refine off ?_|(refine vl ?_));(first|refine off ?_|(refine lB S rfl rfl ?_));(first|refine off ?_|(refine tS ?_ ?_<;>intro hc))<;>(refine vl ?_;refine mv ?_;(first|refine off ?_|(refine vl ?_));(first|refine off ?_|(refine lB S rfl rfl ?_));(first|refine off ?_|(refine vl ?_));(first|refine off ?_|(refine lB S rfl rfl ?_));(first|refine off ?_|(refine bE ?_ ?_<;>intro hc))<;>(refine vl ?_;refine mv ?_;(first|refine off ?_|(refine vl ?_));(first|refine off ?_|(refine lB S rfl rfl ?_));(first|refine off ?_|(refine vl ?_));(first|refine off ?_|(refine lB S rfl rfl ?_));(first|refine off ?_|(refine bE ?_ ?_<;>intro hc))<;>(refine vl ?_;refine mv ?_;(first|refine off ?_|(refine vl ?_));(first|refine off ?_|(refine lB S rfl rfl ?_));(first|refine off ?_|(refine vl ?_));(first|refine off ?_|(refine lB S rfl rfl ?_));(first|(refine off ?_;refine vl ?_;refine mv ?_;refine qf ?_)|skip))))))))))))
 ·(refine qo rfl rfl rfl rfl rfl ((yV S.wf n10.val m10.val n9 m9 (rg.ext w S.ext) (rk.ext w S.ext) hg hk).mono ?_);rintro _ h ⟨⟨rfl,z⟩|⟨rfl,z⟩,x⟩)<;>(replace S:=S.join0 x;clear x;refine vl ?_;refine mv ?_;refine qf ?_)
  ·all_goals (repeat' (fail))
   refine qi ⟨_,rfl,?_⟩;refine ⟨.inl ⟨rfl,?_⟩,S.drop⟩;simp only [Gu.mk.injEq];exact ⟨by assumption,by assumption,by assumption,by assumption,by assumption,by assumption,by assumption,by assumption,z⟩
  ·all_goals (repeat' (fail))
   refine qi ⟨_,rfl,?_⟩;refine ⟨.inr ⟨rfl,fun q=>?_⟩,S.drop⟩;simp only [Gu.mk.injEq] at q;exact z q.2.2.2.2.2.2.2.2
 all_goals
  refine qi ⟨_,rfl,?_⟩;refine ⟨.inr ⟨rfl,fun q=>?_⟩,S.drop⟩;simp only [Gu.mk.injEq] at q;exact absurd (by first|exact q.1|exact q.2.1|exact q.2.2.1|exact q.2.2.2.1|exact q.2.2.2.2.1|exact q.2.2.2.2.2.1|exact q.2.2.2.2.2.2.1|exact q.2.2.2.2.2.2.2.1) hc
theorem xm {h0:AH} (w:WfH h0) (v u:Value) (gs ks:List Zf) (rv:qY h0 v 9 eG gs) (ru:qY h0 u 9 eG ks) (tv:∀ i,i<gs.length→qY h0 (gs.getD i default).tv.val 1 eS (gs.getD i default).tg∧(gs.getD i default).tg.length≤9223372036854775807) (tu:∀ i,i<ks.length→qY h0 (ks.getD i default).tv.val 1 eS (ks.getD i default).tg∧(ks.getD i default).tg.length≤9223372036854775807) (hl:gs.length≤9223372036854775807) (hm:ks.length≤9223372036854775807) :
 Fn Tryz.prog Xh 105 [v,u] h0 (fun x h'=>qI x (gs.map (·.toGu)=ks.map (·.toGu))∧Hs h0 h' []):=by
 have S:=Hs.start w;refine qF (by first|rfl) Tryz.func105 rfl rfl ?_;all_goals (repeat' (first|refine qg ?_|refine qh rfl ?_|refine qj ?_|refine ql ?_|(refine qc 0 ?_;refine mv ?_;refine qf ?_)|(refine qc 1 ?_;refine mv ?_;refine zT S ?_;refine mv ?_;refine zT S ?_;(first|(refine cS ?_ ?_<;>intro hc))<;>(refine qf ?_))|(refine qc 2 ?_;refine mv ?_;refine qf ?_)|(refine qc 3 ?_;refine mv ?_;refine qf ?_)))
 ·refine qi ⟨_,rfl,?_⟩;exact ⟨.inr ⟨rfl,fun q=>by have:=congrArg List.length q;simp at this;omega⟩,S⟩
 ·refine qG (σ:=Nat) (fun i h'=>Hs h0 h' []∧i≤gs.length∧∀ j,j<i→(gs.getD j default).toGu=(ks.getD j default).toGu) (fun i=>gs.length - i) (fun i=>[(0,v),(1,u),(5,.int .i64 i)]) 0 qw ?_ ?_
  ·exact ⟨S,zB0 _,fun j hj=>absurd hj (zB7 _)⟩
  clear S;rintro i h ⟨S,g1,g2⟩;all_goals (repeat' (first|refine qg ?_|refine qh rfl ?_|refine qj ?_|refine qx ?_|refine ql ?_|(refine qc 4 ?_;refine mv ?_;refine mv ?_;refine zT S ?_;(first|(refine cS ?_ ?_<;>intro hc))<;>(refine qf ?_))|(refine qc 8 ?_;refine mv ?_;refine qf ?_)))
  ·have e1:=tv i (by omega);have e2:=tu i (by omega);all_goals (repeat' (first|(refine qQ 6 ?_;refine mv ?_;refine mv ?_;refine jB S ?_;refine jA S ?_;refine mv ?_;refine mv ?_;refine jB S ?_;refine jA S ?_)))
   simp only [zA0];(refine qo rfl rfl rfl rfl rfl ((yY S.wf (gs.getD i default) (ks.getD i default) (e1.1.ext w S.ext) (e2.1.ext w S.ext) e1.2 e2.2).mono ?_);rintro _ h ⟨⟨rfl,z⟩|⟨rfl,z⟩,x⟩)<;>(replace S:=S.join0 x;clear x;refine vl ?_;refine qf ?_)
   ·all_goals (repeat' (first|refine qh rfl ?_|refine qj ?_|(refine qc 5 ?_;refine mv ?_;refine ad ?_;refine mv ?_;refine qf ?_)))
    refine ⟨i+1,?_,?_,qw⟩
    ·show gs.length - (i+1)<gs.length - i;omega
    ·exact ⟨S,by omega,jr g2 z⟩
   ·all_goals (repeat' (first|refine qg ?_|refine qh rfl ?_|(refine qc 7 ?_;refine mv ?_;refine qf ?_)))
    refine qi ⟨_,rfl,?_⟩;refine ⟨.inr ⟨rfl,fun q=>z ?_⟩,S⟩;rw [← zn (f:=fun g:Zf=>g.toGu) (show i<gs.length by omega),← zn (f:=fun g:Zf=>g.toGu) (show i<ks.length by omega),q]
  ·refine qi ⟨_,rfl,?_⟩;refine ⟨.inl ⟨rfl,J3 (by simp;omega) fun j hj=>?_⟩,S⟩;simp at hj;rw [zn (by omega),zn (by omega)];exact g2 j (by omega)
end Go.Proofs.Xx
namespace Go.Proofs.Xx
open Go Go.Proofs
structure TabC where
 name:List UInt8
 shape:Int
 A:Int
 B:Int
 opn:List Int
 X:Int
 Y:Int
instance:Inhabited TabC:=⟨⟨[],0,0,0,[],0,0⟩⟩
abbrev Tab.toC (t:Tab):TabC:=⟨t.name,t.shape,t.A,t.B,t.opn,t.X,t.Y⟩
theorem wU {l m:List Tab} (h:l.map (·.toC)=m.map (·.toC)) (i:Nat):(tb l i).toC=(tb m i).toC:=by
 have hl:l.length=m.length:=by have:=congrArg List.length h;simpa using this
 unfold tb;rcases zA7 i l.length with r|r
 ·have e:=congrArg (fun x=>x[i]?) h;simp only [zH6] at e;rw [zA4 r,zA4 (by omega)] at e;rw [zA2,zA2,zA4 r,zA4 (by omega)];exact Option.some.inj e
 ·rw [zA2,zA2,zG4 r,zG4 (by omega)]
section
variable {l m:List Tab} (h:l.map (·.toC)=m.map (·.toC))
include h
theorem Xl:l.length=m.length:=by have:=congrArg List.length h;simpa using this
theorem Wl (i:Nat):(tb l i).name=(tb m i).name:=congrArg TabC.name (wU h i)
theorem X_c (i:Nat):(tb l i).X=(tb m i).X:=congrArg TabC.X (wU h i)
theorem Y_c (i:Nat):(tb l i).Y=(tb m i).Y:=congrArg TabC.Y (wU h i)
theorem yI (i:Nat):zl (tb l i)=zl (tb m i):=by
 unfold zl;rw [show (tb l i).shape=(tb m i).shape from congrArg TabC.shape (wU h i),show (tb l i).A=(tb m i).A from congrArg TabC.A (wU h i),show (tb l i).B=(tb m i).B from congrArg TabC.B (wU h i)]
theorem qdF (i:Nat):chk (tb l i)=chk (tb m i):=by
 unfold chk qaE;rw [Wl h,yI h,X_c h,Y_c h,show (tb l i).opn=(tb m i).opn from congrArg TabC.opn (wU h i)]
theorem VO:sumT l=sumT m:=by
 funext k
 induction k with
 | zero=>rfl
 | succ k ih=>rw [sumT,sumT,ih,yI h]
theorem qdE:yx l=yx m:=by funext k;unfold yx;simp only [Wl h]
theorem qbG:QQ l=QQ m:=by funext k;unfold QQ;rw [qdF h,qdE h]
theorem Jt:ValidL l↔ValidL m:=by unfold ValidL;rw [qbG h,Xl h]
theorem qbX {i e:Int}:ChkAll l i e↔ChkAll m i e:=by unfold ChkAll;rw [qbG h,Xl h];simp only [qdF h,qdE h]
theorem qbF:QI l=QI m:=by funext n;unfold QI;simp only [Wl h,Xl h]
theorem qdv:tix l=tix m:=by
 funext n
 have e:∀ l:List Tab,tix l n=(l.map (·.toC)).findIdx fun t=>decide (t.name=n):=fun l=>by unfold tix;rw [List.findIdx_map];rfl
 rw [e,e,h]
theorem qa7 {us:List Gu} {ts:List Ti} {cl:List Int} {ru:List Ru} {r:Ru}:xX ⟨l,us,ts,cl,ru⟩ r=xX ⟨m,us,ts,cl,ru⟩ r:=by
 have e:∀ k:Kd,k.err ⟨l,us,ts,cl,ru⟩ r=k.err ⟨m,us,ts,cl,ru⟩ r:=fun k=>by
  have e1:k.ut l r=k.ut m r:=by unfold Kd.ut;rw [qbF h]
  have e2:k.most l r=k.most m r:=by unfold Kd.most;rw [qdv h,yI h]
  classical
  unfold Kd.err;show (if _ then _ else if _ then _ else if _ then _ else if _ then _ else if _ then _ else if k.ut l r then _ else if _∧(_∨k.most l r<_) then _ else _)=_
  rw [e1,e2]
 unfold xX;rw [e]
theorem qgz {us:List Gu} {ts:List Ti} {cl:List Int} {ru:List Ru}:PO ⟨l,us,ts,cl,ru⟩↔PO ⟨m,us,ts,cl,ru⟩:=by
 constructor
 ·rintro ⟨h1,h2,h3,h4,h5,h6⟩;exact ⟨(Jt h).1 h1,h2,h3,by have:=h4;simp only [VO h,Xl h] at this;exact this,fun r hr=>by rw [← qa7 h];exact h5 r hr,h6⟩
 ·rintro ⟨h1,h2,h3,h4,h5,h6⟩;exact ⟨(Jt h).2 h1,h2,h3,by simp only [VO h,Xl h];exact h4,fun r hr=>by rw [qa7 h];exact h5 r hr,h6⟩
theorem qez {us:List Gu} {ts:List Ti} {cl:List Int} {ru:List Ru} {i e:Int}:BasP ⟨l,us,ts,cl,ru⟩ i e↔BasP ⟨m,us,ts,cl,ru⟩ i e:=by
 unfold BasP;simp only [VO h,Xl h,Jt h,qbX h]
end
variable [Flag]
theorem qeq {h0:AH} (w:WfH h0) (v:Value) (l:List (List UInt8)) (hr:qY h0 v 1 eS l) (hl:l.length≤8796093021952):Fn Tryz.prog Xh 187 [v] h0 (fun u h'=>Hs h0 h' [.sl u 9 1 eS l]):=by
 have S:=Hs.start w;refine qF (by first|rfl) Tryz.func187 rfl rfl ?_;all_goals (repeat' (first|refine qg ?_|refine ql ?_|(refine qc 0 ?_;refine mv ?_;refine qf ?_)|(refine qc 1 ?_;refine mv ?_;refine qf ?_)|(refine qc 2 ?_;refine mv ?_;refine qf ?_)))
 have S:=S.nilS (e:=9) (z:=1) (enc:=eS);refine qG (σ:=Nat×Value) (fun (i,v3) h'=>Hs h0 h' [.sl v3 9 1 eS (l.take i)]∧i≤l.length) (fun (i,v3)=>l.length - i) (fun (i,v3)=>[(0,v),(3,v3),(4,.int .i64 i)]) (0,.slice none 0 0) qw ?_ ?_
 ·exact ⟨S,zB0 _⟩
 clear S;rintro ⟨i,v3⟩ h ⟨S,g1⟩;have htl:(l.take i).length≤8796093021952:=by simp;omega
 all_goals (repeat' (first|refine qg ?_|refine qh rfl ?_|refine qj ?_|refine qx ?_|refine ql ?_|(refine qc 3 ?_;refine mv ?_;refine mv ?_;refine zT S ?_;(first|(refine cS ?_ ?_<;>intro hc))<;>(refine qf ?_))))
 ·have hil:i<l.length:=by omega
  all_goals (repeat' (first|(refine qc 5 ?_;(iterate 3 refine mv ?_);refine jB S ?_;refine jA S ?_;(refine one 1 S ?_;clear S;intro u h S))))
  simp only [zA0] at *;refine app (y0:=l.getD i default) S rfl rfl ?_;clear S;intro v3 h S;(refine mv ?_;refine qf ?_);all_goals (repeat' (first|(refine qc 4 ?_;refine mv ?_;refine ad ?_;refine mv ?_;refine qf ?_)))
  refine ⟨(i+1,v3),?_,?_,qw⟩
  ·show l.length - (i+1)<l.length - i;omega
  ·refine ⟨?_,by (try dsimp only);omega⟩;dsimp only;rw [qK hil];exact S
 ·obtain rfl:i=l.length:=by omega
  rw [zD4] at S;all_goals (repeat' (first|(refine qc 6 ?_;refine mv ?_;refine mv ?_;refine qf ?_)))
  refine qi ⟨_,rfl,?_⟩;exact S
theorem qer {h0:AH} (w:WfH h0) (v:Value) (l:List Ti) (hr:qY h0 v 3 Qa l) (hl:l.length*40≤140737488351232):Fn Tryz.prog Xh 72 [v] h0 (fun u h'=>Hs h0 h' [.sl u 174 3 Qa l]):=by
 have S:=Hs.start w;refine qF (by first|rfl) Tryz.func72 rfl rfl ?_;all_goals (repeat' (first|refine qg ?_|refine ql ?_|(refine qc 0 ?_;refine mv ?_;refine qf ?_)|(refine qc 1 ?_;refine mv ?_;refine qf ?_)|(refine qc 2 ?_;refine mv ?_;refine qf ?_)))
 have S:=S.nilS (e:=174) (z:=3) (enc:=Qa);refine qG (σ:=Nat×Value) (fun (i,v3) h'=>Hs h0 h' [.sl v3 174 3 Qa (l.take i)]∧i≤l.length) (fun (i,v3)=>l.length - i) (fun (i,v3)=>[(0,v),(3,v3),(4,.int .i64 i)]) (0,.slice none 0 0) qw ?_ ?_
 ·exact ⟨S,zB0 _⟩
 clear S;rintro ⟨i,v3⟩ h ⟨S,g1⟩;have htl:(l.take i).length=i:=by simp;omega
 all_goals (repeat' (first|refine qg ?_|refine qh rfl ?_|refine qj ?_|refine qx ?_|refine ql ?_|(refine qc 3 ?_;refine mv ?_;refine mv ?_;refine zT S ?_;(first|(refine cS ?_ ?_<;>intro hc))<;>(refine qf ?_))))
 ·have hil:i<l.length:=by omega
  all_goals (repeat' (first|(refine qc 5 ?_;(iterate 3 refine mv ?_);refine jB S ?_;refine jA S ?_;(refine one 3 S ?_;clear S;intro u h S))))
  simp only [zA0] at *;refine app (y0:=l.getD i default) S rfl rfl ?_;clear S;intro v3 h S;(refine mv ?_;refine qf ?_);all_goals (repeat' (first|(refine qc 4 ?_;refine mv ?_;refine ad ?_;refine mv ?_;refine qf ?_)))
  refine ⟨(i+1,v3),?_,?_,qw⟩
  ·show l.length - (i+1)<l.length - i;omega
  ·refine ⟨?_,by (try dsimp only);omega⟩;dsimp only;rw [qK hil];exact S
 ·obtain rfl:i=l.length:=by omega
  rw [zD4] at S;all_goals (repeat' (first|(refine qc 6 ?_;refine mv ?_;refine mv ?_;refine qf ?_)))
  refine qi ⟨_,rfl,?_⟩;exact S
theorem qet {h0:AH} (w:WfH h0) (g:Zf) (rd:qY h0 g.tv.val 1 eS g.tg) (hl:g.tg.length≤8796093021952):Fn Tryz.prog Xh 126 [gV g] h0 (fun u h'=>∃ tv:SlV,u=gV { g with tv:=tv }∧Hs h0 h' [.sl tv.val 9 1 eS g.tg]):=by
 have S:=Hs.start w;obtain ⟨⟨n1,n2,n3,n4,n5,n6,n7,n8,n9⟩,n10⟩:=g;unfold gV;dsimp only at *;refine qF (by first|rfl) Tryz.func126 rfl rfl ?_;all_goals (repeat' (first|refine qg ?_|(refine qc 0 ?_;(refine bx S ?_;clear S;intro b h S);(refine al S ?_;clear S;intro b h S);refine qf ?_)))
 obtain ⟨b1,hnm⟩:∃ x,x=b:=⟨_,rfl⟩;subst hnm;all_goals (repeat' (first|(refine qc 1 ?_;refine vl ?_;refine lB S rfl rfl ?_)))
 (refine qo rfl rfl rfl rfl rfl ((qeq S.wf n10.val n9 (rd.ext w S.ext) hl).mono ?_);rintro v h x)<;>(replace S:=S.join1 x;clear x;obtain ⟨tv,rfl⟩:=S.sV v;refine vl ?_;(first|(refine sB S rfl rfl ?_;clear S;intro h S));refine qf ?_)
 all_goals (repeat' (first|refine qg ?_|(refine qc 2 ?_;refine lB S rfl rfl ?_;(first|(refine sB S rfl rfl ?_;clear S;intro h S));refine qf ?_)))
 refine qi ⟨_,jE S rfl (by first|exact .there .here) (by exact rfl) (by exact rfl),?_⟩;exact ⟨tv,rfl,S.only .here⟩
theorem qc0 {h0:AH} (w:WfH h0) (v:Value) (l:List Zf) (hr:qY h0 v 9 eG l) (ht:∀ i,i<l.length→qY h0 (l.getD i default).tv.val 1 eS (l.getD i default).tg∧(l.getD i default).tg.length≤8796093021952) (hl:l.length*112≤140737488351232):Fn Tryz.prog Xh 71 [v] h0 (fun u h'=>∃ (vg:SlV) (gs:List Zf),u=vg.val∧gs.map (·.toGu)=l.map (·.toGu)∧Hs h0 h' [tgO gs,.sl vg.val 125 9 eG gs]):=by
 have S:=Hs.start w;refine qF (by first|rfl) Tryz.func71 rfl rfl ?_;all_goals (repeat' (first|refine qg ?_|refine ql ?_|(refine qc 0 ?_;refine mv ?_;refine qf ?_)|(refine qc 1 ?_;refine mv ?_;refine qf ?_)|(refine qc 2 ?_;refine mv ?_;refine qf ?_)))
 have S:=((S.nilS (e:=125) (z:=9) (enc:=eG))).anyS (p:=fun h fp=>Star h (([]:List Zf).map qct) fp) fun h'=>trivial;replace S:Hs h0 h0 [tgO [],.sl (SlV.val ⟨none,0,0⟩) 125 9 eG []]:=S;refine qG (σ:=Nat×SlV×List Zf) (fun (i,vg,gs) h'=>Hs h0 h' [tgO gs,.sl vg.val 125 9 eG gs]∧i≤l.length∧gs.map (·.toGu)=(l.take i).map (·.toGu)) (fun (i,vg,gs)=>l.length - i) (fun (i,vg,gs)=>[(0,v),(3,vg.val),(4,.int .i64 i)]) (0,⟨none,0,0⟩,[]) qw ?_ ?_
 ·exact ⟨S,zB0 _,rfl⟩
 clear S;rintro ⟨i,vg,gs⟩ h ⟨S,g1,g2⟩;have hgs:gs.length=i:=by have:=congrArg List.length g2;simp at this;omega
 all_goals (repeat' (first|refine qg ?_|refine qh rfl ?_|refine qj ?_|refine qx ?_|refine ql ?_|(refine qc 3 ?_;refine mv ?_;refine mv ?_;refine zT S ?_;(first|(refine cS ?_ ?_<;>intro hc))<;>(refine qf ?_))))
 ·have hil:i<l.length:=by omega
  all_goals (repeat' (first|(refine qc 5 ?_;(iterate 3 refine mv ?_);refine jB S ?_;refine jA S ?_)))
  simp only [zA0];(refine qo rfl rfl rfl rfl rfl ((qet S.wf (l.getD i default) ((ht i hil).1.ext w S.ext) (ht i hil).2).mono ?_);rintro _ h ⟨tv,rfl,x⟩)<;>(replace S:=S.join1 x;clear x;(refine one 9 S ?_;clear S;intro u h S))
  refine app (y0:={ l.getD i default with tv:=tv }) S rfl rfl ?_;clear S;intro v3 h S;obtain ⟨vg',rfl⟩:=S.sV v3;(refine mv ?_;refine qf ?_);all_goals (repeat' (first|(refine qc 4 ?_;refine mv ?_;refine ad ?_;refine mv ?_;refine qf ?_)))
  refine ⟨(i+1,vg',gs ++ [{ l.getD i default with tv:=tv }]),?_,?_,qw⟩
  ·show l.length - (i+1)<l.length - i;omega
  ·replace S:Hs h0 h (.sl vg'.val 125 9 eG (gs ++ [{ l.getD i default with tv:=tv }]) :: .sl tv.val 9 1 eS (l.getD i default).tg :: tgO gs :: []):=S;have S:=(show Hs h0 h (.sl tv.val 9 1 eS (l.getD i default).tg :: tgO gs :: .sl vg'.val 125 9 eG (gs ++ [{ l.getD i default with tv:=tv }]) :: []) from S.pick)
   refine ⟨Hs.tgOapp (g:={ l.getD i default with tv:=tv }) S,by (try dsimp only);omega,?_⟩;dsimp only;rw [qK (by omega),zC9,zC9,g2];rfl
 ·obtain rfl:i=l.length:=by omega
  rw [zD4] at g2;all_goals (repeat' (first|(refine qc 6 ?_;refine mv ?_;refine mv ?_;refine qf ?_)))
  refine qi ⟨_,rfl,?_⟩;exact ⟨vg,gs,rfl,g2,S⟩
theorem qbR {h0:AH} (w:WfH h0) (v:Value) (l:List Int) (hr:qY h0 v 1 eI l) (hl:l.length*8≤140737488351232):Fn Tryz.prog Xh 73 [v] h0 (fun u h'=>Hs h0 h' [.sl u 3 1 eI l]):=by
 have S:=Hs.start w;refine qF (by first|rfl) Tryz.func73 rfl rfl ?_;all_goals (repeat' (first|refine qg ?_|refine ql ?_|(refine qc 0 ?_;refine mv ?_;refine qf ?_)|(refine qc 1 ?_;refine mv ?_;refine qf ?_)|(refine qc 2 ?_;refine mv ?_;refine qf ?_)))
 have S:=S.nilS (e:=3) (z:=1) (enc:=eI);refine qG (σ:=Nat×Value) (fun (i,v3) h'=>Hs h0 h' [.sl v3 3 1 eI (l.take i)]∧i≤l.length) (fun (i,v3)=>l.length - i) (fun (i,v3)=>[(0,v),(3,v3),(4,.int .i64 i)]) (0,.slice none 0 0) qw ?_ ?_
 ·exact ⟨S,zB0 _⟩
 clear S;rintro ⟨i,v3⟩ h ⟨S,g1⟩;have htl:(l.take i).length=i:=by simp;omega
 all_goals (repeat' (first|refine qg ?_|refine qh rfl ?_|refine qj ?_|refine qx ?_|refine ql ?_|(refine qc 3 ?_;refine mv ?_;refine mv ?_;refine zT S ?_;(first|(refine cS ?_ ?_<;>intro hc))<;>(refine qf ?_))))
 ·have hil:i<l.length:=by omega
  all_goals (repeat' (first|(refine qc 5 ?_;(iterate 3 refine mv ?_);refine jB S ?_;refine jA S ?_;(refine one 1 S ?_;clear S;intro u h S))))
  simp only [zA0] at *;refine app (y0:=l.getD i default) S rfl rfl ?_;clear S;intro v3 h S;(refine mv ?_;refine qf ?_);all_goals (repeat' (first|(refine qc 4 ?_;refine mv ?_;refine ad ?_;refine mv ?_;refine qf ?_)))
  refine ⟨(i+1,v3),?_,?_,qw⟩
  ·show l.length - (i+1)<l.length - i;omega
  ·refine ⟨?_,by (try dsimp only);omega⟩;dsimp only;rw [qK hil];exact S
 ·obtain rfl:i=l.length:=by omega
  rw [zD4] at S;all_goals (repeat' (first|(refine qc 6 ?_;refine mv ?_;refine mv ?_;refine qf ?_)))
  refine qi ⟨_,rfl,?_⟩;exact S
theorem qcZ {h0:AH} (w:WfH h0) (v:Value) (l:List Ru) (hr:qY h0 v 6 JL l) (hl:l.length*72≤140737488351232):Fn Tryz.prog Xh 74 [v] h0 (fun u h'=>Hs h0 h' [.sl u 155 6 JL l]):=by
 have S:=Hs.start w;refine qF (by first|rfl) Tryz.func74 rfl rfl ?_;all_goals (repeat' (first|refine qg ?_|refine ql ?_|(refine qc 0 ?_;refine mv ?_;refine qf ?_)|(refine qc 1 ?_;refine mv ?_;refine qf ?_)|(refine qc 2 ?_;refine mv ?_;refine qf ?_)))
 have S:=S.nilS (e:=155) (z:=6) (enc:=JL);refine qG (σ:=Nat×Value) (fun (i,v3) h'=>Hs h0 h' [.sl v3 155 6 JL (l.take i)]∧i≤l.length) (fun (i,v3)=>l.length - i) (fun (i,v3)=>[(0,v),(3,v3),(4,.int .i64 i)]) (0,.slice none 0 0) qw ?_ ?_
 ·exact ⟨S,zB0 _⟩
 clear S;rintro ⟨i,v3⟩ h ⟨S,g1⟩;have htl:(l.take i).length=i:=by simp;omega
 all_goals (repeat' (first|refine qg ?_|refine qh rfl ?_|refine qj ?_|refine qx ?_|refine ql ?_|(refine qc 3 ?_;refine mv ?_;refine mv ?_;refine zT S ?_;(first|(refine cS ?_ ?_<;>intro hc))<;>(refine qf ?_))))
 ·have hil:i<l.length:=by omega
  all_goals (repeat' (first|(refine qc 5 ?_;(iterate 3 refine mv ?_);refine jB S ?_;refine jA S ?_;(refine one 6 S ?_;clear S;intro u h S))))
  simp only [zA0] at *;refine app (y0:=l.getD i default) S rfl rfl ?_;clear S;intro v3 h S;(refine mv ?_;refine qf ?_);all_goals (repeat' (first|(refine qc 4 ?_;refine mv ?_;refine ad ?_;refine mv ?_;refine qf ?_)))
  refine ⟨(i+1,v3),?_,?_,qw⟩
  ·show l.length - (i+1)<l.length - i;omega
  ·refine ⟨?_,by (try dsimp only);omega⟩;dsimp only;rw [qK hil];exact S
 ·obtain rfl:i=l.length:=by omega
  rw [zD4] at S;all_goals (repeat' (first|(refine qc 6 ?_;refine mv ?_;refine mv ?_;refine qf ?_)))
  refine qi ⟨_,rfl,?_⟩;exact S
abbrev Vo (t:Tab):Rs:=.sl t.os.val 3 1 eI t.opn
theorem qcY {h0:AH} (w:WfH h0) (t:Tab) (rd:qY h0 t.os.val 1 eI t.opn) (hl:t.opn.length*8≤140737488351232):Fn Tryz.prog Xh 125 [ZZ t] h0 (fun u h'=>∃ os:SlV,u=ZZ { t with os:=os }∧Hs h0 h' [.sl os.val 3 1 eI t.opn]):=by
 have S:=Hs.start w;obtain ⟨n1,n2,n3,n4,n5,n6,n7,n8⟩:=t;dsimp only at *;refine qF (by first|rfl) Tryz.func125 rfl rfl ?_;all_goals (repeat' (first|refine qg ?_|(refine qc 0 ?_;(refine bx S ?_;clear S;intro b h S);(refine al S ?_;clear S;intro b h S);refine qf ?_)))
 obtain ⟨b1,hnm⟩:∃ x,x=b:=⟨_,rfl⟩;subst hnm;all_goals (repeat' (first|(refine qc 1 ?_;refine vl ?_;refine lB S rfl rfl ?_)))
 (refine qo rfl rfl rfl rfl rfl ((qbR S.wf n5.val n6 (rd.ext w S.ext) hl).mono ?_);rintro v h x)<;>(replace S:=S.join1 x;clear x;obtain ⟨os,rfl⟩:=S.sV v;refine vl ?_;(first|(refine sB S rfl rfl ?_;clear S;intro h S));refine qf ?_)
 all_goals (repeat' (first|refine qg ?_|(refine qc 2 ?_;refine lB S rfl rfl ?_;(first|(refine sB S rfl rfl ?_;clear S;intro h S));refine qf ?_)))
 refine qi ⟨_,jE S rfl (by first|exact .there .here) (by exact rfl) (by exact rfl),?_⟩;exact ⟨os,rfl,S.only .here⟩
theorem qbQ {h0:AH} (w:WfH h0) (v:Value) (l:List Tab) (hr:qY h0 v 7 eT l) (ht:∀ i,i<l.length→qY h0 (l.getD i default).os.val 1 eI (l.getD i default).opn∧(l.getD i default).opn.length*8≤140737488351232) (hl:l.length*80≤140737488351232) :
 Fn Tryz.prog Xh 70 [v] h0 (fun u h'=>∃ (vt:SlV) (ts:List Tab),u=vt.val∧ts.map (·.toC)=l.map (·.toC)∧Hs h0 h' [zY Vo ts,.sl vt.val 84 7 eT ts]):=by
 have S:=Hs.start w;refine qF (by first|rfl) Tryz.func70 rfl rfl ?_;all_goals (repeat' (first|refine qg ?_|refine ql ?_|(refine qc 0 ?_;refine mv ?_;refine qf ?_)|(refine qc 1 ?_;refine mv ?_;refine qf ?_)|(refine qc 2 ?_;refine mv ?_;refine qf ?_)))
 have S:=((S.nilS (e:=84) (z:=7) (enc:=eT))).owNil (f:=Vo);replace S:Hs h0 h0 [zY Vo [],.sl (SlV.val ⟨none,0,0⟩) 84 7 eT []]:=S;refine qG (σ:=Nat×SlV×List Tab) (fun (i,vt,ts) h'=>Hs h0 h' [zY Vo ts,.sl vt.val 84 7 eT ts]∧i≤l.length∧ts.map (·.toC)=(l.take i).map (·.toC)) (fun (i,vt,ts)=>l.length - i) (fun (i,vt,ts)=>[(0,v),(3,vt.val),(4,.int .i64 i)]) (0,⟨none,0,0⟩,[]) qw ?_ ?_
 ·exact ⟨S,zB0 _,rfl⟩
 clear S;rintro ⟨i,vt,ts⟩ h ⟨S,g1,g2⟩;have hgs:ts.length=i:=by have:=congrArg List.length g2;simp at this;omega
 all_goals (repeat' (first|refine qg ?_|refine qh rfl ?_|refine qj ?_|refine qx ?_|refine ql ?_|(refine qc 3 ?_;refine mv ?_;refine mv ?_;refine zT S ?_;(first|(refine cS ?_ ?_<;>intro hc))<;>(refine qf ?_))))
 ·have hil:i<l.length:=by omega
  all_goals (repeat' (first|(refine qc 5 ?_;(iterate 3 refine mv ?_);refine jB S ?_;refine jA S ?_)))
  simp only [zA0];(refine qo rfl rfl rfl rfl rfl ((qcY S.wf (l.getD i default) ((ht i hil).1.ext w S.ext) (ht i hil).2).mono ?_);rintro _ h ⟨os,rfl,x⟩)<;>(replace S:=S.join1 x;clear x;(refine one 7 S ?_;clear S;intro u h S))
  refine app (y0:={ l.getD i default with os:=os }) S rfl rfl ?_;clear S;intro v3 h S;obtain ⟨vt',rfl⟩:=S.sV v3;(refine mv ?_;refine qf ?_);all_goals (repeat' (first|(refine qc 4 ?_;refine mv ?_;refine ad ?_;refine mv ?_;refine qf ?_)))
  refine ⟨(i+1,vt',ts ++ [{ l.getD i default with os:=os }]),?_,?_,qw⟩
  ·show l.length - (i+1)<l.length - i;omega
  ·replace S:Hs h0 h (.sl vt'.val 84 7 eT (ts ++ [{ l.getD i default with os:=os }]) :: .sl os.val 3 1 eI (l.getD i default).opn :: zY Vo ts :: []):=S;have S:=(show Hs h0 h (.sl os.val 3 1 eI (l.getD i default).opn :: zY Vo ts :: .sl vt'.val 84 7 eT (ts ++ [{ l.getD i default with os:=os }]) :: []) from S.pick)
   refine ⟨Hs.owApp (f:=Vo) (g:={ l.getD i default with os:=os }) S,by (try dsimp only);omega,?_⟩;dsimp only;rw [qK (by omega),zC9,zC9,g2];rfl
 ·obtain rfl:i=l.length:=by omega
  rw [zD4] at g2;all_goals (repeat' (first|(refine qc 6 ?_;refine mv ?_;refine mv ?_;refine qf ?_)))
  refine qi ⟨_,rfl,?_⟩;exact ⟨vt,ts,rfl,g2,S⟩
end Go.Proofs.Xx
namespace Go.Proofs.Xx
open Go Go.Proofs
variable [Flag]
theorem Y8 {h0:AH} (w:WfH h0) (v u:Value) (l m:List Int) (rv:qY h0 v 1 eI l) (ru:qY h0 u 1 eI m) (hl:l.length≤9223372036854775807) (hm:m.length≤9223372036854775807):Fn Tryz.prog Xh 95 [v,u] h0 (fun x h'=>qI x (l=m)∧Hs h0 h' []):=by
 have S:=Hs.start w;refine qF (by first|rfl) Tryz.func95 rfl rfl ?_;all_goals (repeat' (first|refine qg ?_|refine qh rfl ?_|refine qj ?_|refine ql ?_|(refine qc 0 ?_;refine mv ?_;refine qf ?_)|(refine qc 1 ?_;refine mv ?_;refine zT S ?_;refine mv ?_;refine zT S ?_;(first|(refine cS ?_ ?_<;>intro hc))<;>(refine qf ?_))|(refine qc 2 ?_;refine mv ?_;refine qf ?_)|(refine qc 3 ?_;refine mv ?_;refine qf ?_)))
 ·refine qi ⟨_,rfl,?_⟩;exact ⟨.inr ⟨rfl,fun q=>by subst q;omega⟩,S⟩
 ·refine qG (σ:=Nat) (fun i h'=>Hs h0 h' []∧i≤l.length∧∀ j,j<i→l.getD j default=m.getD j default) (fun i=>l.length - i) (fun i=>[(0,v),(1,u),(5,.int .i64 i)]) 0 qw ?_ ?_
  ·exact ⟨S,zB0 _,fun j hj=>absurd hj (zB7 _)⟩
  clear S;rintro i h ⟨S,g1,g2⟩;all_goals (repeat' (first|refine qg ?_|refine qh rfl ?_|refine qj ?_|refine qx ?_|refine ql ?_|(refine qc 4 ?_;refine mv ?_;refine mv ?_;refine zT S ?_;(first|(refine cS ?_ ?_<;>intro hc))<;>(refine qf ?_))|(refine qc 5 ?_;refine mv ?_;refine ad ?_;refine mv ?_;refine qf ?_)|(refine qQ 6 ?_;refine mv ?_;refine mv ?_;refine jB S ?_;refine jA S ?_;refine mv ?_;refine mv ?_;refine jB S ?_;refine jA S ?_;(first|(refine cS ?_ ?_<;>intro hc))<;>(refine qf ?_))|(refine qc 7 ?_;refine mv ?_;refine qf ?_)|(refine qc 8 ?_;refine mv ?_;refine qf ?_)))
  all_goals (try simp only [zA0] at *)
  ·refine qi ⟨_,rfl,?_⟩;exact ⟨.inr ⟨rfl,fun q=>by subst q;exact hc rfl⟩,S⟩
  ·refine ⟨i+1,?_,?_,qw⟩
   ·show l.length - (i+1)<l.length - i;omega
   ·exact ⟨S,by omega,jr g2 (by omega)⟩
  ·refine qi ⟨_,rfl,?_⟩;exact ⟨.inl ⟨rfl,J3 (by omega) fun j hj=>g2 j (by omega)⟩,S⟩
theorem qfd (a b:Ru):(a.k == b.k && (a.w == b.w && (zu ⟨a.a.toArray⟩ ⟨b.a.toArray⟩ && (zu ⟨a.b.toArray⟩ ⟨b.b.toArray⟩ && (zu ⟨a.t.toArray⟩ ⟨b.t.toArray⟩ && (a.n == b.n && true))))))=true↔a=b:=by
 rw [jd,jd,jd];cases a;cases b
 simp
theorem yX {h0:AH} (w:WfH h0) (v u:Value) (l m:List Ru) (rv:qY h0 v 6 JL l) (ru:qY h0 u 6 JL m) (hl:l.length≤9223372036854775807) (hm:m.length≤9223372036854775807):Fn Tryz.prog Xh 107 [v,u] h0 (fun x h'=>qI x (l=m)∧Hs h0 h' []):=by
 have S:=Hs.start w;refine qF (by first|rfl) Tryz.func107 rfl rfl ?_;all_goals (repeat' (first|refine qg ?_|refine qh rfl ?_|refine qj ?_|refine ql ?_|(refine qc 0 ?_;refine mv ?_;refine qf ?_)|(refine qc 1 ?_;refine mv ?_;refine zT S ?_;refine mv ?_;refine zT S ?_;(first|(refine cS ?_ ?_<;>intro hc))<;>(refine qf ?_))|(refine qc 2 ?_;refine mv ?_;refine qf ?_)|(refine qc 3 ?_;refine mv ?_;refine qf ?_)))
 ·refine qi ⟨_,rfl,?_⟩;exact ⟨.inr ⟨rfl,fun q=>by subst q;exact hc rfl⟩,S⟩
 ·refine qG (σ:=Nat) (fun i h'=>Hs h0 h' []∧i≤l.length∧∀ j,j<i→l.getD j default=m.getD j default) (fun i=>l.length - i) (fun i=>[(0,v),(1,u),(5,.int .i64 i)]) 0 qw ?_ ?_
  ·exact ⟨S,zB0 _,fun j hj=>absurd hj (zB7 _)⟩
  clear S;rintro i h ⟨S,g1,g2⟩;all_goals (repeat' (first|refine qg ?_|refine qh rfl ?_|refine qj ?_|refine qx ?_|refine ql ?_|(refine qc 4 ?_;refine mv ?_;refine mv ?_;refine zT S ?_;(first|(refine cS ?_ ?_<;>intro hc))<;>(refine qf ?_))|(refine qc 5 ?_;refine mv ?_;refine ad ?_;refine mv ?_;refine qf ?_)|(refine qQ 6 ?_;refine mv ?_;refine mv ?_;refine jB S ?_;refine jA S ?_;refine mv ?_;refine mv ?_;refine jB S ?_;refine jA S ?_;(refine gE ?_ ?_<;>intro hc)<;>(refine qf ?_))|(refine qc 7 ?_;refine mv ?_;refine qf ?_)|(refine qc 8 ?_;refine mv ?_;refine qf ?_)))
  all_goals (try simp only [zA0] at *)
  ·refine ⟨i+1,?_,?_,qw⟩
   ·show l.length - (i+1)<l.length - i;omega
   ·exact ⟨S,by omega,jr g2 ((qfd _ _).1 hc)⟩
  ·refine qi ⟨_,rfl,?_⟩;exact ⟨.inr ⟨rfl,fun q=>by subst q;rw [(qfd _ _).2 rfl] at hc;cases hc⟩,S⟩
  ·refine qi ⟨_,rfl,?_⟩;exact ⟨.inl ⟨rfl,J3 (by omega) fun j hj=>g2 j (by omega)⟩,S⟩
theorem PU {h0:AH} (w:WfH h0) (g k:Tab) (rg:qY h0 g.os.val 1 eI g.opn) (rk:qY h0 k.os.val 1 eI k.opn) (hg:g.opn.length≤9223372036854775807) (hk:k.opn.length≤9223372036854775807):Fn Tryz.prog Xh 146 [ZZ g,ZZ k] h0 (fun x h'=>qI x (g.toC=k.toC)∧Hs h0 h' []):=by
 have S:=Hs.start w;obtain ⟨n1,n2,n3,n4,n5,n6,n7,n8⟩:=g;obtain ⟨m1,m2,m3,m4,m5,m6,m7,m8⟩:=k;dsimp only at *;refine qF (by first|rfl) Tryz.func146 rfl rfl ?_;all_goals (repeat' (first|refine qg ?_|(refine qc 0 ?_;(refine bx S ?_;clear S;intro b h S);(refine bx S ?_;clear S;intro b h S);refine mv ?_;refine qf ?_)|(refine qc 1 ?_;refine vl ?_;refine lB S rfl rfl ?_;refine vl ?_;refine lB S rfl rfl ?_;(refine tS ?_ ?_<;>intro hc)<;>(refine mv ?_;(first|refine off ?_|(refine vl ?_));(first|refine off ?_|(refine lB S rfl rfl ?_));(first|refine off ?_|(refine vl ?_));(first|refine off ?_|(refine lB S rfl rfl ?_));(first|refine off ?_|(first|(refine cS ?_ ?_<;>intro hc)))<;>(refine vl ?_;refine mv ?_;(first|refine off ?_|(refine vl ?_));(first|refine off ?_|(refine lB S rfl rfl ?_));(first|refine off ?_|(refine vl ?_));(first|refine off ?_|(refine lB S rfl rfl ?_));(first|refine off ?_|(first|(refine cS ?_ ?_<;>intro hc)))<;>(refine vl ?_;refine mv ?_;(first|refine off ?_|(refine vl ?_));(first|refine off ?_|(refine lB S rfl rfl ?_));(first|refine off ?_|(refine vl ?_));(first|refine off ?_|(refine lB S rfl rfl ?_));(first|refine off ?_|(first|(refine cS ?_ ?_<;>intro hc)))<;>(refine vl ?_;refine mv ?_;(first|refine off ?_|(refine vl ?_));(first|refine off ?_|(refine lB S rfl rfl ?_));(first|refine off ?_|(refine vl ?_));(first|refine off ?_|(refine lB S rfl rfl ?_));(first|refine off ?_|(first|(refine cS ?_ ?_<;>intro hc)))<;>(refine vl ?_;refine mv ?_;(first|refine off ?_|(refine vl ?_));(first|refine off ?_|(refine lB S rfl rfl ?_));(first|refine off ?_|(refine vl ?_));(first|refine off ?_|(refine lB S rfl rfl ?_));(first|refine off ?_|(first|(refine cS ?_ ?_<;>intro hc)))<;>(refine vl ?_;refine mv ?_;(first|refine off ?_|(refine vl ?_));(first|refine off ?_|(refine lB S rfl rfl ?_));(first|refine off ?_|(refine vl ?_));(first|refine off ?_|(refine lB S rfl rfl ?_));(first|(refine off ?_;refine vl ?_;refine mv ?_;refine qf ?_)|skip))))))))))
 ·(refine qo rfl rfl rfl rfl rfl ((Y8 S.wf n5.val m5.val n6 m6 (rg.ext w S.ext) (rk.ext w S.ext) hg hk).mono ?_);rintro _ h ⟨⟨rfl,z⟩|⟨rfl,z⟩,x⟩)<;>(replace S:=S.join0 x;clear x;refine vl ?_;refine mv ?_;refine qf ?_)
  ·all_goals (repeat' (fail))
   refine qi ⟨_,rfl,?_⟩;refine ⟨.inl ⟨rfl,?_⟩,S.drop⟩;simp only [TabC.mk.injEq];exact ⟨by assumption,by assumption,by assumption,by assumption,z,by assumption,by assumption⟩
  ·all_goals (repeat' (fail))
   refine qi ⟨_,rfl,?_⟩;refine ⟨.inr ⟨rfl,fun q=>?_⟩,S.drop⟩;simp only [TabC.mk.injEq] at q;exact z q.2.2.2.2.1
 all_goals
  refine qi ⟨_,rfl,?_⟩;refine ⟨.inr ⟨rfl,fun q=>?_⟩,S.drop⟩;simp only [TabC.mk.injEq] at q;exact absurd (by first|exact q.1|exact q.2.1|exact q.2.2.1|exact q.2.2.2.1|exact q.2.2.2.2.2.1|exact q.2.2.2.2.2.2) hc
theorem Gh {h0:AH} (w:WfH h0) (v u:Value) (gs ks:List Tab) (rv:qY h0 v 7 eT gs) (ru:qY h0 u 7 eT ks) (tv:∀ i,i<gs.length→qY h0 (gs.getD i default).os.val 1 eI (gs.getD i default).opn∧(gs.getD i default).opn.length≤9223372036854775807) (tu:∀ i,i<ks.length→qY h0 (ks.getD i default).os.val 1 eI (ks.getD i default).opn∧(ks.getD i default).opn.length≤9223372036854775807) (hl:gs.length≤9223372036854775807) (hm:ks.length≤9223372036854775807) :
 Fn Tryz.prog Xh 104 [v,u] h0 (fun x h'=>qI x (gs.map (·.toC)=ks.map (·.toC))∧Hs h0 h' []):=by
 have S:=Hs.start w;refine qF (by first|rfl) Tryz.func104 rfl rfl ?_;all_goals (repeat' (first|refine qg ?_|refine qh rfl ?_|refine qj ?_|refine ql ?_|(refine qc 0 ?_;refine mv ?_;refine qf ?_)|(refine qc 1 ?_;refine mv ?_;refine zT S ?_;refine mv ?_;refine zT S ?_;(first|(refine cS ?_ ?_<;>intro hc))<;>(refine qf ?_))|(refine qc 2 ?_;refine mv ?_;refine qf ?_)|(refine qc 3 ?_;refine mv ?_;refine qf ?_)))
 ·refine qi ⟨_,rfl,?_⟩;exact ⟨.inr ⟨rfl,fun q=>by have:=congrArg List.length q;simp at this;omega⟩,S⟩
 ·refine qG (σ:=Nat) (fun i h'=>Hs h0 h' []∧i≤gs.length∧∀ j,j<i→(gs.getD j default).toC=(ks.getD j default).toC) (fun i=>gs.length - i) (fun i=>[(0,v),(1,u),(5,.int .i64 i)]) 0 qw ?_ ?_
  ·exact ⟨S,zB0 _,fun j hj=>absurd hj (zB7 _)⟩
  clear S;rintro i h ⟨S,g1,g2⟩;all_goals (repeat' (first|refine qg ?_|refine qh rfl ?_|refine qj ?_|refine qx ?_|refine ql ?_|(refine qc 4 ?_;refine mv ?_;refine mv ?_;refine zT S ?_;(first|(refine cS ?_ ?_<;>intro hc))<;>(refine qf ?_))|(refine qc 8 ?_;refine mv ?_;refine qf ?_)))
  ·have e1:=tv i (by omega);have e2:=tu i (by omega);all_goals (repeat' (first|(refine qQ 6 ?_;refine mv ?_;refine mv ?_;refine jB S ?_;refine jA S ?_;refine mv ?_;refine mv ?_;refine jB S ?_;refine jA S ?_)))
   simp only [zA0];(refine qo rfl rfl rfl rfl rfl ((PU S.wf (gs.getD i default) (ks.getD i default) (e1.1.ext w S.ext) (e2.1.ext w S.ext) e1.2 e2.2).mono ?_);rintro _ h ⟨⟨rfl,z⟩|⟨rfl,z⟩,x⟩)<;>(replace S:=S.join0 x;clear x;refine vl ?_;refine qf ?_)
   ·all_goals (repeat' (first|refine qh rfl ?_|refine qj ?_|(refine qc 5 ?_;refine mv ?_;refine ad ?_;refine mv ?_;refine qf ?_)))
    refine ⟨i+1,?_,?_,qw⟩
    ·show gs.length - (i+1)<gs.length - i;omega
    ·exact ⟨S,by omega,jr g2 z⟩
   ·all_goals (repeat' (first|refine qg ?_|refine qh rfl ?_|(refine qc 7 ?_;refine mv ?_;refine qf ?_)))
    refine qi ⟨_,rfl,?_⟩;refine ⟨.inr ⟨rfl,fun q=>z ?_⟩,S⟩;rw [← zn (f:=fun g:Tab=>g.toC) (show i<gs.length by omega),← zn (f:=fun g:Tab=>g.toC) (show i<ks.length by omega),q]
  ·refine qi ⟨_,rfl,?_⟩;refine ⟨.inl ⟨rfl,J3 (by simp;omega) fun j hj=>?_⟩,S⟩;simp at hj;rw [zn (by omega),zn (by omega)];exact g2 j (by omega)
end Go.Proofs.Xx
namespace Go.Proofs.Xx
open Go Go.Proofs
def qg0 (L:List Int→Int) (n m k:Nat):Kz:=((List.range k).map fun i=>nI (qfz n m i)).foldl (qdO L) ([],-1)
variable [Flag]
end Go.Proofs.Xx
namespace Go.Proofs.Xx
open Go Go.Proofs
variable [Flag]
theorem JW {h0:AH} (w:WfH h0) (k:Int):Fn Tryz.prog Xh 206 [.int .u8 k] h0 (fun v h'=>qI v (1≤k∧k≤5)∧Hs h0 h' []):=by
 have S:=Hs.start w;refine qF (by first|rfl) Tryz.func206 rfl rfl ?_;all_goals (repeat' (first|refine qg ?_|(refine qc 0 ?_;refine mv ?_;refine qf ?_)|(refine qc 1 ?_;refine mv ?_;(first|(refine cS ?_ ?_<;>intro hc))<;>(refine mv ?_;(first|refine off ?_|refine mv ?_);(first|refine off ?_|(first|(refine cS ?_ ?_<;>intro hc)))<;>(refine vl ?_;refine mv ?_;(first|refine off ?_|refine mv ?_);(first|refine off ?_|(first|(refine cS ?_ ?_<;>intro hc)))<;>(refine vl ?_;refine mv ?_;(first|refine off ?_|refine mv ?_);(first|refine off ?_|(first|(refine cS ?_ ?_<;>intro hc)))<;>(refine vl ?_;refine mv ?_;(first|refine off ?_|refine mv ?_);(first|refine off ?_|(first|(refine cS ?_ ?_<;>intro hc)))<;>(refine vl ?_;refine mv ?_;refine qf ?_))))))))
 all_goals (refine qi ⟨_,rfl,?_⟩)
 all_goals (refine ⟨?_,S⟩;unfold qI)
 all_goals first|exact .inl ⟨rfl,by omega⟩|exact .inr ⟨rfl,by omega⟩
theorem pU {h0:AH} (w:WfH h0) (k:Int):Fn Tryz.prog Xh 207 [.int .u8 k] h0 (fun v h'=>qI v (k=6∨k=7∨k=10)∧Hs h0 h' []):=by
 have S:=Hs.start w;refine qF (by first|rfl) Tryz.func207 rfl rfl ?_;all_goals (repeat' (first|refine qg ?_|(refine qc 0 ?_;refine mv ?_;refine qf ?_)|(refine qc 1 ?_;refine mv ?_;(first|(refine cS ?_ ?_<;>intro hc))<;>(refine mv ?_;(first|refine off ?_|refine mv ?_);(first|refine off ?_|(first|(refine cS ?_ ?_<;>intro hc)))<;>(refine vl ?_;refine mv ?_;(first|refine off ?_|refine mv ?_);(first|refine off ?_|(first|(refine cS ?_ ?_<;>intro hc)))<;>(refine vl ?_;refine mv ?_;refine qf ?_))))))
 all_goals (refine qi ⟨_,rfl,?_⟩)
 all_goals (refine ⟨?_,S⟩;unfold qI)
 all_goals first|exact .inl ⟨rfl,by omega⟩|exact .inr ⟨rfl,by omega⟩
theorem VX {h0:AH} (w:WfH h0) (k:Int):Fn Tryz.prog Xh 209 [.int .u8 k] h0 (fun v h'=>qI v (k=1∨k=4∨k=7∨k=15∨k=16)∧Hs h0 h' []):=by
 have S:=Hs.start w;refine qF (by first|rfl) Tryz.func209 rfl rfl ?_;all_goals (repeat' (first|refine qg ?_|(refine qc 0 ?_;refine mv ?_;refine qf ?_)|(refine qc 1 ?_;refine mv ?_;(first|(refine cS ?_ ?_<;>intro hc))<;>(refine mv ?_;(first|refine off ?_|refine mv ?_);(first|refine off ?_|(first|(refine cS ?_ ?_<;>intro hc)))<;>(refine vl ?_;refine mv ?_;(first|refine off ?_|refine mv ?_);(first|refine off ?_|(first|(refine cS ?_ ?_<;>intro hc)))<;>(refine vl ?_;refine mv ?_;(first|refine off ?_|refine mv ?_);(first|refine off ?_|(first|(refine cS ?_ ?_<;>intro hc)))<;>(refine vl ?_;refine mv ?_;(first|refine off ?_|refine mv ?_);(first|refine off ?_|(first|(refine cS ?_ ?_<;>intro hc)))<;>(refine vl ?_;refine mv ?_;refine qf ?_))))))))
 all_goals (refine qi ⟨_,rfl,?_⟩)
 all_goals (refine ⟨?_,S⟩;unfold qI)
 all_goals first|exact .inl ⟨rfl,by omega⟩|exact .inr ⟨rfl,by omega⟩
theorem Xz {h0:AH} (w:WfH h0) (k:Int):Fn Tryz.prog Xh 208 [.int .u8 k] h0 (fun v h'=>∃ n:Int,v = .int .i64 n∧((((1≤k∧k≤5)∨k=10)∧n=0)∨((k=6∨k=7∨k=17)∧n=1)∨(¬ (1≤k∧k≤7)∧k≠10∧k≠17∧n=2))∧Hs h0 h' []):=by
 have S:=Hs.start w;refine qF (by first|rfl) Tryz.func208 rfl rfl ?_;all_goals (repeat' (first|refine qg ?_|(refine qc 0 ?_;refine mv ?_;refine qf ?_)|(refine qc 1 ?_;refine mv ?_)))
 (refine qo rfl rfl rfl rfl rfl ((JW S.wf k).mono ?_);rintro _ h ⟨⟨rfl,z⟩|⟨rfl,z⟩,x⟩)<;>(replace S:=S.join0 x;clear x;refine mv ?_;(first|refine off ?_|refine mv ?_);(first|refine off ?_|(first|(refine cS ?_ ?_<;>intro hc)))<;>(refine vl ?_;refine qf ?_))
 all_goals (repeat' (first|refine qg ?_|refine qh rfl ?_|refine qj ?_|(refine qc 2 ?_;refine mv ?_;refine qf ?_)|(refine qc 3 ?_;refine mv ?_;(first|(refine cS ?_ ?_<;>intro hc))<;>(refine mv ?_;(first|refine off ?_|refine mv ?_);(first|refine off ?_|(first|(refine cS ?_ ?_<;>intro hc)))<;>(refine vl ?_;refine mv ?_;(first|refine off ?_|refine mv ?_);(first|refine off ?_|(first|(refine cS ?_ ?_<;>intro hc)))<;>(refine vl ?_;refine qf ?_))))|(refine qc 4 ?_;refine mv ?_;refine qf ?_)|(refine qc 5 ?_;refine mv ?_;refine qf ?_)))
 all_goals (refine qi ⟨_,rfl,?_⟩)
 all_goals refine ⟨_,rfl,?_,S⟩
 all_goals omega
theorem kG {h0:AH} (w:WfH h0) (v:Value) (l:List Tab) (hr:qY h0 v 7 eT l) (hl:l.length≤9223372036854775807) (n:List UInt8):Fn Tryz.prog Xh 212 [v,str n] h0 (fun u h'=>((u = .int .i64 (tix l n)∧QI l n)∨(u = .int .i64 (-1)∧¬ QI l n))∧Hs h0 h' []):=by
 have S:=Hs.start w;refine qF (by first|rfl) Tryz.func212 rfl rfl ?_;all_goals (repeat' (first|refine qg ?_|refine ql ?_|(refine qc 0 ?_;refine mv ?_;refine qf ?_)|(refine qc 1 ?_;refine mv ?_;refine qf ?_)))
 refine qG (σ:=Nat) (fun i h'=>Hs h0 h' []∧i≤l.length∧∀ j,j<i→¬ (tb l j).name=n) (fun i=>l.length - i) (fun i=>[(0,v),(1,str n),(5,.int .i64 i)]) 0 qw ?_ ?_
 ·exact ⟨S,zB0 _,fun j hj=>absurd hj (zB7 _)⟩
 clear S;rintro i h ⟨S,g1,g2⟩;all_goals (repeat' (first|refine qg ?_|refine qh rfl ?_|refine qj ?_|refine qx ?_|refine ql ?_|(refine qc 2 ?_;refine mv ?_;refine mv ?_;refine zT S ?_;(first|(refine cS ?_ ?_<;>intro hc))<;>(refine qf ?_))|(refine qc 3 ?_;refine mv ?_;refine ad ?_;refine mv ?_;refine qf ?_)|(refine qc 4 ?_;refine mv ?_;refine mv ?_;refine jB S ?_;refine fB S ?_;refine jA S ?_;refine mv ?_;(refine tS ?_ ?_<;>intro hc)<;>(refine qf ?_))|(refine qc 5 ?_;refine mv ?_;refine mv ?_;refine qf ?_)|(refine qc 6 ?_;refine mv ?_;refine qf ?_)))
 all_goals (try simp only [zA0] at *)
 ·refine qi ⟨_,rfl,?_⟩;have hi:i<l.length:=by omega
  exact ⟨.inl ⟨by rw [VM hi hc g2];rfl,i,hi,hc⟩,S⟩
 ·refine ⟨i+1,?_,?_,qw⟩
  ·show l.length - (i+1)<l.length - i;omega
  ·refine ⟨S,by omega,fun j hj=>?_⟩;rcases zA7 j i with q|q
   ·exact g2 j q
   ·obtain rfl:j=i:=by omega
    exact hc
 ·refine qi ⟨_,rfl,?_⟩;exact ⟨.inr ⟨rfl,fun ⟨j,hj,he⟩=>g2 j (by omega) he⟩,S⟩
end Go.Proofs.Xx
namespace Go.Proofs.Xx
open Go Go.Proofs
variable [Flag]
theorem gq {h0:AH} (w:WfH h0) (s:List UInt8) (hs:s.length≤9223372036854775807):Fn Tryz.prog Xh 294 [str s] h0 (fun v h'=>qI v (Qg s)∧Hs h0 h' []):=by
 have S:=Hs.start w;refine qF (by first|rfl) Tryz.func294 rfl rfl ?_;all_goals (repeat' (first|refine qg ?_|refine qh rfl ?_|refine qj ?_|refine ql ?_|(refine qc 0 ?_;refine mv ?_;refine qf ?_)|(refine qc 1 ?_;refine mv ?_;refine tl ?_;(first|(refine cS ?_ ?_<;>intro hc))<;>(refine mv ?_;(first|refine off ?_|refine mv ?_);(first|refine off ?_|refine tl ?_);(first|refine off ?_|(first|(refine cS ?_ ?_<;>intro hc)))<;>(refine vl ?_;refine qf ?_)))|(refine qc 2 ?_;refine mv ?_;refine qf ?_)|(refine qc 3 ?_;refine mv ?_;refine qf ?_)))
 ·refine qi ⟨_,rfl,?_⟩;exact ⟨.inr ⟨rfl,fun q=>by have:=q.1;omega⟩,S.drop⟩
 ·refine qi ⟨_,rfl,?_⟩;exact ⟨.inr ⟨rfl,fun q=>by have:=q.2.1;omega⟩,S.drop⟩
 rename_i hc1
 refine qG (σ:=Nat) (fun i h'=>Hs h0 h' []∧i≤s.length∧∀ j,j<i→QO (s.getD j default)) (fun i=>s.length - i) (fun i=>[(0,str s),(3,.int .i64 i)]) 0 qw ?_ ?_
 ·exact ⟨S,zB0 _,fun j hj=>absurd hj (zB7 _)⟩
 clear S;rintro i h ⟨S,h1,h2⟩;all_goals (repeat' (first|refine qg ?_|refine qh rfl ?_|refine qj ?_|refine qx ?_|refine ql ?_|(refine qc 4 ?_;refine mv ?_;refine mv ?_;refine tl ?_;(first|(refine cS ?_ ?_<;>intro hc))<;>(refine qf ?_))|(refine qc 5 ?_;refine mv ?_;refine ad ?_;refine mv ?_;refine qf ?_)|(refine qc 6 ?_;refine mv ?_;refine mv ?_;refine ti ?_;(first|(refine cS ?_ ?_<;>intro hc))<;>(refine mv ?_;(first|refine off ?_|refine mv ?_);(first|refine off ?_|refine mv ?_);(first|refine off ?_|(refine ti ?_));(first|refine off ?_|(first|(refine cS ?_ ?_<;>intro hc)))<;>(refine vl ?_;refine qf ?_)))|(refine qc 7 ?_;refine mv ?_;refine qf ?_)|(refine qc 8 ?_;refine mv ?_;refine qf ?_)))
 all_goals (try simp only [zA0] at *)
 ·refine qi ⟨_,rfl,?_⟩;exact ⟨.inr ⟨rfl,fun q=>by have:=q.2.2 i (by omega);unfold QO at this;simp only [show (default:UInt8)=0 from rfl] at this;omega⟩,S.drop⟩
 ·refine qi ⟨_,rfl,?_⟩;exact ⟨.inr ⟨rfl,fun q=>by have:=q.2.2 i (by omega);unfold QO at this;simp only [show (default:UInt8)=0 from rfl] at this;omega⟩,S.drop⟩
 ·refine ⟨i+1,?_,?_,qw⟩
  ·show s.length - (i+1)<s.length - i;omega
  ·refine ⟨S,by omega,fun j hj=>?_⟩;rcases zA7 j i with q|q
   ·exact h2 j q
   ·have e:j=i:=by omega
    subst e;unfold QO;simp only [show (default:UInt8)=0 from rfl];omega
 all_goals (refine qi ⟨_,rfl,?_⟩)
 exact ⟨.inl ⟨rfl,by omega,by omega,fun j hj=>h2 j (by omega)⟩,S.drop⟩
theorem vJ {h0:AH} (w:WfH h0) (t:Tab) (r:TabR h0 t):Fn Tryz.prog Xh 255 [ZZ t] h0 (fun v h'=>v = .int .i64 (chk t)∧Hs h0 h' []):=by
 have S:=Hs.start w;have hts:=QH t;obtain ⟨hr,hnm,hol⟩:=r;refine qF (by first|rfl) Tryz.func255 rfl rfl ?_;all_goals (repeat' (first|refine qg ?_|(refine qc 0 ?_;(refine bx S ?_;clear S;intro b h S);refine mv ?_;refine qf ?_)|(refine qc 1 ?_;refine lB S rfl rfl ?_)))
 (refine qo rfl rfl rfl rfl rfl ((XA S.wf t).mono ?_);rintro _ h ⟨rfl,x⟩)<;>(replace S:=S.join0 x;clear x;refine mv ?_;refine qf ?_)
 all_goals (repeat' (first|refine qg ?_|(refine qc 2 ?_;refine vl ?_;refine lB S rfl rfl ?_)))
 (refine qo rfl rfl rfl rfl rfl ((gq S.wf t.name hnm).mono ?_);rintro _ h ⟨⟨rfl,hq⟩|⟨rfl,hq⟩,x⟩)<;>(replace S:=S.join0 x;clear x;refine vl ?_;refine qf ?_)
 all_goals (repeat' (first|refine qg ?_|refine qh rfl ?_|refine qj ?_|refine ql ?_|(refine qc 3 ?_;refine mv ?_;refine qf ?_)|(refine qc 4 ?_;refine mv ?_;(first|(refine cS ?_ ?_<;>intro hc))<;>(refine qf ?_))|(refine qc 5 ?_;refine mv ?_;refine qf ?_)|(refine qc 6 ?_;refine mv ?_;refine qf ?_)))
 ·refine qi ⟨_,rfl,?_⟩;exact ⟨by unfold chk;rw [if_neg (by simpa using hq),if_pos hc];rfl,S.drop⟩
 ·refine qG (σ:=Nat) (fun i h'=>Hs h0 h' [.blk b (ZZ t).cells.toList 84]∧i≤t.opn.length∧(∀ j,j<i→(0≤t.opn.getD j default∧t.opn.getD j default<zl t)∧(0<j→t.opn.getD (j - 1) default<t.opn.getD j default))) (fun i=>t.opn.length - i) (fun i=>[(1,.pointer (some ⟨b,0,none⟩)),(3,.int .i64 (zl t)),(4,.int .i64 i)]) 0 qw ?_ ?_
  ·exact ⟨S,zB0 _,fun j hj=>absurd hj (zB7 _)⟩
  clear S;rintro i h ⟨S,h1,h2⟩;all_goals (repeat' (first|refine qg ?_|refine qh rfl ?_|refine qj ?_|refine qx ?_|refine ql ?_|(refine qc 7 ?_;refine mv ?_;refine vl ?_;refine lB S rfl rfl ?_;refine zT S ?_;(first|(refine cS ?_ ?_<;>intro hc))<;>(refine qf ?_))|(refine qQ 9 ?_;refine vl ?_;refine lB S rfl rfl ?_;refine mv ?_;refine jB S ?_;refine jA S ?_;refine mv ?_;refine sb ?_)|(refine qc 11 ?_;refine vl ?_;refine lB S rfl rfl ?_)))
  ·(refine qo rfl rfl rfl rfl rfl ((jm _ _ _).mono ?_);rintro _ _ ⟨⟨rfl,hq3⟩|⟨rfl,hq3⟩,rfl⟩)<;>(refine vl ?_;refine mv ?_;(first|refine off ?_|refine mv ?_);(first|refine off ?_|(first|(refine cS ?_ ?_<;>intro hc)))<;>((first|refine off ?_|refine mv ?_);(first|refine off ?_|(refine vl ?_));(first|refine off ?_|(refine lB S rfl rfl ?_));(first|refine off ?_|refine mv ?_);(first|refine off ?_|(refine jB S ?_));(first|refine off ?_|(refine jA S ?_));(first|refine off ?_|(refine vl ?_));(first|refine off ?_|(refine lB S rfl rfl ?_));(first|refine off ?_|refine mv ?_);(first|refine off ?_|(refine sb ?_));(first|refine off ?_|(refine jB S ?_));(first|refine off ?_|(refine jA S ?_));(first|refine off ?_|(first|(refine cS ?_ ?_<;>intro hc)))<;>((first|refine off ?_|refine vl ?_);refine vl ?_;refine qf ?_)))
   all_goals (repeat' (first|refine qg ?_|refine qh rfl ?_|refine qj ?_|(refine qc 8 ?_;refine mv ?_;refine ad ?_;refine mv ?_;refine qf ?_)|(refine qc 10 ?_;refine mv ?_;refine qf ?_)))
   all_goals (try simp only [zA0] at *)
   ·refine qi ⟨_,rfl,?_⟩;refine ⟨?_,S.drop⟩;rw [show ((i:Int) - 1).toNat=i - 1 by omega] at hc;have:¬ Vm (zl t) t.opn:=fun q=>by have q1:=(q i (by omega)).2 (by omega);omega
    unfold chk;rw [if_neg (by simpa using hq),if_neg (by assumption),if_pos this];rfl
   ·refine ⟨i+1,?_,?_,qw⟩
    ·show t.opn.length - (i+1)<t.opn.length - i;omega
    ·rw [show ((i:Int) - 1).toNat=i - 1 by omega] at hc;refine ⟨S,by omega,fun j hj=>?_⟩;rcases zA7 j i with q|q
     ·exact h2 j q
     ·have e:j=i:=by omega
      subst e;exact ⟨by omega,fun q=>by omega⟩
   ·refine ⟨i+1,?_,?_,qw⟩
    ·show t.opn.length - (i+1)<t.opn.length - i;omega
    ·refine ⟨S,by omega,fun j hj=>?_⟩;have e:j=i:=by omega
     subst e;exact ⟨by omega,fun q=>by omega⟩
   ·refine qi ⟨_,rfl,?_⟩;refine ⟨?_,S.drop⟩;have:¬ Vm (zl t) t.opn:=fun q=>by have q1:=(q i (by omega)).1;omega
    unfold chk;rw [if_neg (by simpa using hq),if_neg (by assumption),if_pos this];rfl
  have hok:Vm (zl t) t.opn:=fun j hj=>h2 j (by omega);(refine qo rfl rfl rfl rfl rfl ((jm _ _ _).mono ?_);rintro _ _ ⟨⟨rfl,hq3⟩|⟨rfl,hq3⟩,rfl⟩)<;>(refine vl ?_;refine mv ?_;(first|refine off ?_|(refine vl ?_));(first|refine off ?_|(refine lB S rfl rfl ?_));(first|(refine off ?_;refine off ?_;refine vl ?_;refine qf ?_)|skip))
  any_goals ((refine qo rfl rfl rfl rfl rfl ((jm _ _ _).mono ?_);rintro _ _ ⟨⟨rfl,hq4⟩|⟨rfl,hq4⟩,rfl⟩)<;>((refine vl ?_);refine vl ?_;refine qf ?_))
  all_goals (repeat' (first|refine qg ?_|refine qh rfl ?_|refine qj ?_|(refine qc 12 ?_;refine mv ?_;refine qf ?_)|(refine qc 13 ?_;refine mv ?_;refine qf ?_)))
  all_goals
   refine qi ⟨_,rfl,?_⟩;refine ⟨?_,S.drop⟩;unfold chk;rw [if_neg (by simpa using hq),if_neg (by assumption),if_neg (by simpa using hok)];first
    | (rw [if_pos (by unfold qaE;omega)];rfl)
    | (rw [if_neg (by unfold qaE;omega)];rfl)
 ·refine qi ⟨_,rfl,?_⟩;exact ⟨by unfold chk;rw [if_pos (by simpa using hq)];rfl,S.drop⟩
theorem VZ {h0:AH} (w:WfH h0) (v:Value) (l:List Tab) (H:HallR h0 v l):Fn Tryz.prog Xh 203 [v] h0 (fun r h'=>∃ i e,r = .tuple #[.int .i64 i,.int .i64 e]∧ChkAll l i e∧Hs h0 h' []):=by
 have S:=Hs.start w;have hl:=H.len;have hr:=H.rd;refine qF (by first|rfl) Tryz.func203 rfl rfl ?_;all_goals (repeat' (first|refine qg ?_|refine qh rfl ?_|refine qj ?_|refine ql ?_|(refine qc 0 ?_;refine mv ?_;refine mv ?_;refine qf ?_)|(refine qc 1 ?_;refine mv ?_;refine zT S ?_;(first|(refine cS ?_ ?_<;>intro hc))<;>(refine qf ?_))|(refine qc 2 ?_;refine mv ?_;refine mv ?_;refine qf ?_)|(refine qc 3 ?_;refine mv ?_;refine qf ?_)))
 ·refine qi ⟨_,rfl,?_⟩;exact ⟨0,7,rfl,.inl ⟨by omega,rfl,rfl⟩,S⟩
 ·refine qG (σ:=Nat) (fun i h'=>Hs h0 h' []∧i≤l.length∧∀ j,j<i→QQ l j) (fun i=>l.length - i) (fun i=>[(0,v),(4,.int .i64 i)]) 0 qw ?_ ?_
  ·exact ⟨S,zB0 _,fun j hj=>absurd hj (zB7 _)⟩
  clear S;rintro i h ⟨S,h1,h2⟩;all_goals (repeat' (first|refine qg ?_|refine qh rfl ?_|refine qj ?_|refine qx ?_|refine ql ?_|(refine qc 4 ?_;refine mv ?_;refine mv ?_;refine zT S ?_;(first|(refine cS ?_ ?_<;>intro hc))<;>(refine qf ?_))|(refine qc 6 ?_;refine mv ?_;refine mv ?_;refine jB S ?_;refine jA S ?_)|(refine qc 14 ?_;refine mv ?_;refine mv ?_;refine qf ?_)))
  ·(try simp only [zA0] at *)
   have hi:i<l.length:=by omega
   (refine qo rfl rfl rfl rfl rfl ((vJ S.wf (tb l i) ((H.tab i hi).ext w S.ext)).mono ?_);rintro _ h ⟨rfl,x⟩)<;>(replace S:=S.join0 x;clear x;refine mv ?_;refine qf ?_)
   all_goals (repeat' (first|refine qg ?_|refine qh rfl ?_|refine qj ?_|refine ql ?_|(refine qc 7 ?_;refine mv ?_;(first|(refine cS ?_ ?_<;>intro hc))<;>(refine qf ?_))|(refine qc 8 ?_;(iterate 4 refine mv ?_);refine qf ?_)|(refine qc 9 ?_;refine mv ?_;refine qf ?_)))
   ·refine qi ⟨_,rfl,?_⟩;exact ⟨i,_,rfl,.inr ⟨by omega,.inl ⟨i,hi,rfl,h2,.inl ⟨by simpa using hc,rfl⟩⟩⟩,S.drop⟩
   ·have hc0:chk (tb l i)=0:=by simpa using hc
    refine qG (σ:=Nat) (fun k h'=>Hs h0 h' []∧k≤i∧∀ j,j<k→¬ (tb l j).name=(tb l i).name) (fun k=>i - k) (fun k=>[(0,v),(4,.int .i64 i),(6,.int .i64 k)]) 0 qw ?_ ?_
    ·exact ⟨S,zB0 _,fun j hj=>absurd hj (zB7 _)⟩
    clear S;rintro k h ⟨S,k1,k2⟩;all_goals (repeat' (first|refine qg ?_|refine qh rfl ?_|refine qj ?_|refine qx ?_|refine ql ?_|(refine qc 5 ?_;refine mv ?_;refine ad ?_;refine mv ?_;refine qf ?_)|(refine qc 10 ?_;refine mv ?_;refine mv ?_;(first|(refine cS ?_ ?_<;>intro hc))<;>(refine qf ?_))|(refine qc 11 ?_;refine mv ?_;refine ad ?_;refine mv ?_;refine qf ?_)|(refine qQ 12 ?_;refine mv ?_;refine mv ?_;refine jB S ?_;refine fB S ?_;refine jA S ?_;refine mv ?_;refine mv ?_;refine jB S ?_;refine fB S ?_;refine jA S ?_;(refine tS ?_ ?_<;>intro hc)<;>(refine qf ?_))|(refine qc 13 ?_;(iterate 3 refine mv ?_);refine qf ?_)))
    ·(try simp only [zA0] at *)
     refine qi ⟨_,rfl,?_⟩;exact ⟨i,5,rfl,.inr ⟨by omega,.inl ⟨i,hi,rfl,h2,.inr ⟨hc0,⟨k,by omega,by assumption⟩,rfl⟩⟩⟩,S⟩
    ·(try simp only [zA0] at *)
     refine ⟨k+1,?_,?_,qw⟩
     ·show i - (k+1)<i - k;omega
     ·refine ⟨S,by omega,fun j hj=>?_⟩;rcases zA7 j k with q|q
      ·exact k2 j q
      ·obtain rfl:j=k:=by omega
       assumption
    ·refine ⟨i+1,?_,?_,qw⟩
     ·show l.length - (i+1)<l.length - i;omega
     ·refine ⟨S,by omega,fun j hj=>?_⟩;rcases zA7 j i with q|q
      ·exact h2 j q
      ·obtain rfl:j=i:=by omega
       exact ⟨hc0,fun ⟨m,hm,he⟩=>k2 m (by omega) he⟩
  ·refine qi ⟨_,rfl,?_⟩;exact ⟨0,0,rfl,.inr ⟨by omega,.inr ⟨fun j hj=>h2 j (by omega),rfl,rfl⟩⟩,S⟩
theorem Yb {h0:AH} (w:WfH h0) (v:Value) (gs:List Zf) (hr:qY h0 v 9 eG gs) (hl:gs.length≤9223372036854775807) (n:List UInt8):Fn Tryz.prog Xh 210 [v,str n] h0 (fun u h'=>((∃ i:Nat,gat (gs.map (·.toGu)) n=some i∧i<gs.length∧u = .int .i64 i)∨(gat (gs.map (·.toGu)) n=none∧u = .int .i64 (-1)))∧Hs h0 h' []):=by
 have S:=Hs.start w;refine qF (by first|rfl) Tryz.func210 rfl rfl ?_;all_goals (repeat' (first|refine qg ?_|refine ql ?_|(refine qc 0 ?_;refine mv ?_;refine qf ?_)|(refine qc 1 ?_;refine mv ?_;refine qf ?_)))
 refine qG (σ:=Nat) (fun i h'=>Hs h0 h' []∧i≤gs.length∧∀ j,j<i→(gs.getD j default).name≠n) (fun i=>gs.length - i) (fun i=>[(0,v),(1,str n),(5,.int .i64 i)]) 0 qw ?_ ?_
 ·exact ⟨S,zB0 _,fun j hj=>absurd hj (zB7 _)⟩
 clear S;rintro i h ⟨S,g1,g2⟩;have e:∀ j,j<gs.length→((gs.map (fun g:Zf=>g.toGu)).getD j default).name=(gs.getD j default).name:=fun j hj=>by rw [zn (f:=fun g:Zf=>g.toGu) hj]
 all_goals (repeat' (first|refine qg ?_|refine qh rfl ?_|refine qj ?_|refine qx ?_|refine ql ?_|(refine qc 2 ?_;refine mv ?_;refine mv ?_;refine zT S ?_;(first|(refine cS ?_ ?_<;>intro hc))<;>(refine qf ?_))))
 ·have hil:i<gs.length:=by omega
  all_goals (repeat' (first|refine qg ?_|refine qh rfl ?_|refine qj ?_|(refine qc 4 ?_;refine mv ?_;refine mv ?_;refine jB S ?_;refine fB S ?_;refine jA S ?_;refine mv ?_;(refine tS ?_ ?_<;>intro hc)<;>(refine qf ?_))|(refine qc 5 ?_;refine mv ?_;refine mv ?_;refine qf ?_)))
  all_goals (try simp only [zA0] at *)
  ·refine qi ⟨_,rfl,?_⟩;refine ⟨.inl ⟨i,?_,hil,rfl⟩,S⟩;cases hq:gat (gs.map (·.toGu)) n with
   | none=>exact absurd (by rw [e i hil];exact hc) (JG.1 hq _ (qL (show i<(gs.map (·.toGu)).length by simp;exact hil)))
   | some k =>
    obtain ⟨h1,h2,h3⟩:=Yh hq;simp only [zC5] at h1;rw [e k h1] at h2;rcases zE6 i k with q|q|q
    ·exact absurd (by rw [e i hil];exact hc) (h3 i q)
    ·rw [q]
    ·exact absurd h2 (g2 k q)
  ·all_goals (repeat' (first|(refine qc 3 ?_;refine mv ?_;refine ad ?_;refine mv ?_;refine qf ?_)))
   refine ⟨i+1,?_,?_,qw⟩
   ·show gs.length - (i+1)<gs.length - i;omega
   ·exact ⟨S,by omega,jr g2 hc⟩
 ·skip
  all_goals (repeat' (first|(refine qc 6 ?_;refine mv ?_;refine qf ?_)))
  refine qi ⟨_,rfl,?_⟩;refine ⟨.inr ⟨JG.2 fun g hg=>?_,rfl⟩,S⟩;obtain ⟨j,hj,rfl⟩:=qR.1 hg;simp only [zC5] at hj;rw [e j hj];exact g2 j (by omega)
theorem qdS {r:Rl} {i:Nat} (h:¬ ((r.ts.getD i default).k=1∨(r.ts.getD i default).k=2)∨¬ jT (r.ts.getD i default).a (r.ts.getD i default).b∨(0<i∧Ze (r.ts.getD i default) (r.ts.getD (i - 1) default))):J9 r i=23:=by
 unfold J9;split
 ·rename_i q
  rcases h with h|h|h
  ·unfold Zg;rw [if_pos (.inl (by omega))]
  ·exact absurd q.1 h
  ·rcases q.2 with z|z
   ·omega
   ·exact absurd h.2 z
 ·rfl
structure TGd (r:Rl) (i:Nat):Prop where
 k:(r.ts.getD i default).k=1∨(r.ts.getD i default).k=2
 lt:jT (r.ts.getD i default).a (r.ts.getD i default).b
 pl:i=0∨¬ Ze (r.ts.getD i default) (r.ts.getD (i - 1) default)
theorem TGd.eq {r:Rl} {i:Nat} (g:TGd r i):J9 r i=(Zg ⟨r.us,r.ts.take i⟩ (r.ts.getD i default).a (r.ts.getD i default).b (r.ts.getD i default).k).2:=by
 unfold J9;rw [if_pos ⟨g.lt,g.pl⟩]
theorem TGd.nk {r:Rl} {i:Nat} (g:TGd r i):¬ (((r.ts.getD i default).k≠1∧(r.ts.getD i default).k≠2)∨(r.ts.getD i default).a=(r.ts.getD i default).b):=by
 rintro (q|q)
 ·have:=g.k;omega
 ·exact qa5 g.lt q
theorem TGd.e6 {r:Rl} {i:Nat} (g:TGd r i) (h:gat r.us (r.ts.getD i default).a=none∨gat r.us (r.ts.getD i default).b=none):J9 r i=6:=by
 rw [g.eq,KJ (r:=⟨r.us,r.ts.take i⟩) g.nk h]
theorem TGd.tied {r:Rl} {i:Nat} (g:TGd r i) (hi:i<r.ts.length) (hp:TS (r.ts.take i)):tied (r.ts.take i) (r.ts.getD i default).a (r.ts.getD i default).b↔(0<i∧¬ Ze (r.ts.getD (i - 1) default) (r.ts.getD i default)):=by
 unfold Xx.tied;rw [VF g.lt,VG g.lt];have hl:(r.ts.take i).length=i:=by simp;omega
 constructor
 ·rintro ⟨t,h1,h2,h3⟩;obtain ⟨j,j1,j2⟩:=qR.1 h1;rw [hl] at j1;rw [getD_take j1] at j2;refine ⟨by omega,fun q=>?_⟩;have hb:Ze t (r.ts.getD i default):=by
   rcases Nat.eq_or_lt_of_le (show j≤i - 1 by omega) with e|e
   ·rw [← j2,e];exact q
   ·have:=hp.lt e (by rw [hl];omega);rw [getD_take j1,getD_take (by omega),j2] at this;exact Q5 this q
  rcases hb with q|q
  ·rw [h2] at q;exact zS _ q
  ·rw [h3] at q;exact zS _ q.2
 ·rintro ⟨h0,h1⟩;rcases vW (r.ts.getD (i - 1) default) (r.ts.getD i default) with q|q|q
  ·exact absurd q h1
  ·refine ⟨r.ts.getD (i - 1) default,?_,q⟩;have:=qL (l:=r.ts.take i) (i:=i - 1) (by rw [hl];omega);rwa [getD_take (by omega)] at this
  ·exact absurd q (g.pl.resolve_left (by omega))
theorem TGd.e5 {r:Rl} {i:Nat} (g:TGd r i) (hi:i<r.ts.length) (hp:TS (r.ts.take i)) (h:¬ (gat r.us (r.ts.getD i default).a=none∨gat r.us (r.ts.getD i default).b=none)) (hb:0<i∧¬ Ze (r.ts.getD (i - 1) default) (r.ts.getD i default)):J9 r i=5:=by
 rw [g.eq,KL (r:=⟨r.us,r.ts.take i⟩) g.nk h ((g.tied hi hp).2 hb)]
theorem TGd.e7 {r:Rl} {i:Nat} (g:TGd r i) (hi:i<r.ts.length) (hp:TS (r.ts.take i)) (h:¬ (gat r.us (r.ts.getD i default).a=none∨gat r.us (r.ts.getD i default).b=none)) (hb:¬ (0<i∧¬ Ze (r.ts.getD (i - 1) default) (r.ts.getD i default))) (h7:256≤i):J9 r i=7:=by
 rw [g.eq,KI (r:=⟨r.us,r.ts.take i⟩) g.nk h (fun q=>hb ((g.tied hi hp).1 q)) (by simp;omega)]
theorem TGd.e0 {r:Rl} {i:Nat} (g:TGd r i) (hi:i<r.ts.length) (hp:TS (r.ts.take i)) (h:¬ (gat r.us (r.ts.getD i default).a=none∨gat r.us (r.ts.getD i default).b=none)) (hb:¬ (0<i∧¬ Ze (r.ts.getD (i - 1) default) (r.ts.getD i default))) (h7:¬ 256≤i):J9 r i=0:=by
 rw [g.eq,yJ (r:=⟨r.us,r.ts.take i⟩) g.nk h (fun q=>hb ((g.tied hi hp).1 q)) (by simp;omega)]
theorem yA {h0:AH} (w:WfH h0) (x y:Ti):Fn Tryz.prog Xh 257 [tiV x,tiV y] h0 (fun u h'=>qI u (Ze x y)∧Hs h0 h' []):=by
 have S:=Hs.start w;unfold tiV;refine qF (by first|rfl) Tryz.func257 rfl rfl ?_;all_goals (repeat' (first|refine qg ?_|(refine qc 0 ?_;(refine bx S ?_;clear S;intro b h S);(refine bx S ?_;clear S;intro b h S);refine mv ?_;refine qf ?_)|(refine qc 1 ?_;refine vl ?_;refine lB S rfl rfl ?_;refine vl ?_;refine lB S rfl rfl ?_;(refine tO ?_ ?_<;>intro hc)<;>(refine mv ?_;(first|refine off ?_|(refine vl ?_));(first|refine off ?_|(refine lB S rfl rfl ?_));(first|refine off ?_|(refine vl ?_));(first|refine off ?_|(refine lB S rfl rfl ?_));(first|refine off ?_|(refine tS ?_ ?_<;>intro hc))<;>((first|refine off ?_|refine mv ?_);(first|refine off ?_|(refine vl ?_));(first|refine off ?_|(refine lB S rfl rfl ?_));(first|refine off ?_|(refine vl ?_));(first|refine off ?_|(refine lB S rfl rfl ?_));(first|refine off ?_|(refine tO ?_ ?_<;>intro hc))<;>((first|refine off ?_|refine vl ?_);refine vl ?_;refine mv ?_;refine qf ?_))))))
 all_goals (refine qi ⟨_,rfl,?_⟩)
 all_goals first
  | exact ⟨.inl ⟨rfl,by unfold Ze;grind⟩,S.drop⟩
  | exact ⟨.inr ⟨rfl,by unfold Ze;grind⟩,S.drop⟩
theorem qaa {h0:AH} (w:WfH h0) (v:RlV) (r:Rl) (HR:RlOk h0 v r) (hcap:Qu v.vg.val) (hb:r.us.length≤200∧r.ts.length≤600):Fn Tryz.prog Xh 204 [v.val] h0 (fun u h'=>((u = .tuple #[.int .i64 0,.int .i64 0]∧VRl r)∨∃ i e,u = .tuple #[.int .i64 i,.int .i64 e]∧Bad r i e)∧Hs h0 h' []):=by
 have S:=Hs.start w;have hrg:=HR.rg;have hrt:=HR.rt;have hgl:=HR.len;unfold RlV.val;refine qF (by first|rfl) Tryz.func204 rfl rfl ?_;all_goals (repeat' (first|refine qg ?_|(refine qc 0 ?_;(refine bx S ?_;clear S;intro b h S);refine mv ?_;refine mv ?_;refine qf ?_)))
 obtain ⟨b1,hnm⟩:∃ x,x=b:=⟨_,rfl⟩;subst hnm;replace S:Hs h0 h (.blk b1 [v.vg.val,v.vt.val] 151 :: []):=S;all_goals (repeat' (first|refine ql ?_|(refine qc 1 ?_;refine mv ?_;refine qf ?_)))
 refine qG (σ:=Nat) (fun i h'=>Hs h0 h' [.blk b1 [v.vg.val,v.vt.val] 151]∧i≤r.us.length∧(∀ k,k<i→gE0 r.us k=0)) (fun i=>r.us.length - i) (fun i=>[(1,.pointer (some ⟨b1,0,none⟩)),(4,.int .i64 i)]) 0 qw ?_ ?_
 ·exact ⟨S,zB0 _,fun j hj=>absurd hj (zB7 _)⟩
 clear S;rintro i h ⟨S,g1,g2⟩;all_goals (repeat' (first|refine qg ?_|refine qh rfl ?_|refine qj ?_|refine qx ?_|refine ql ?_|(refine qc 2 ?_;refine mv ?_;refine vl ?_;refine lB S rfl rfl ?_;refine zT S ?_;(first|(refine cS ?_ ?_<;>intro hc))<;>(refine qf ?_))))
 ·have hil:i<v.gs.length:=by omega
  have hg:(v.gs.getD i default).toGu=r.us.getD i default:=HR.at_ hil;have hge:gE0 r.us i=(XM ⟨r.us.take i,[]⟩ (r.us.getD i default)).2:=rfl;have hbad:∀ e,gE0 r.us i=e→e≠0→Bad r i e:=fun e h1 h2=>⟨h2,.inl ⟨i,by omega,g2,h1,rfl⟩⟩
  all_goals (repeat' (first|(refine qc 4 ?_;refine vl ?_;refine lB S rfl rfl ?_;refine mv ?_;refine jB S ?_;refine jA S ?_)))
  simp only [zA0];(refine qo rfl rfl rfl rfl rfl ((kJ S.wf (v.gs.getD i default) ⟨(HR.tg i hil).1.ext w S.ext,(HR.tg i hil).2⟩).mono ?_);rintro _ h ⟨rfl,x⟩)<;>(replace S:=S.join0 x;clear x;refine mv ?_;refine qf ?_)
  rw [hg];all_goals (repeat' (first|refine qg ?_|refine qh rfl ?_|refine qj ?_|(refine qc 5 ?_;refine mv ?_;(first|(refine cS ?_ ?_<;>intro hc))<;>(refine qf ?_))))
  ·have hne:Qs (r.us.getD i default)≠0:=by assumption
   all_goals (repeat' (first|(refine qc 6 ?_;(iterate 4 refine mv ?_);refine qf ?_)))
   refine qi ⟨_,rfl,?_⟩;exact ⟨.inr ⟨_,_,rfl,hbad _ (by rw [hge,GU hne]) hne⟩,S.drop⟩
  ·have hz:Qs (r.us.getD i default)=0:=by omega
   have hnm:(v.gs.getD i default).name=(r.us.getD i default).name:=by rw [← hg]
   all_goals (repeat' (first|(refine qQ 7 ?_;refine vl ?_;refine lB S rfl rfl ?_;refine mv ?_)))
   refine su 0 i (hrg.ext w S.ext) hcap (fun va' ra' ca'=>?_);((refine vl ?_);refine lB S rfl rfl ?_;refine mv ?_;refine jB S ?_;refine fB S ?_;refine jA S ?_);simp only [zA0,hnm];have hmp:((v.gs.drop 0).take (i - 0)).map (·.toGu)=r.us.take i:=by rw [List.drop_zero,Nat.sub_zero,List.map_take,HR.us]
   have hll:((v.gs.drop 0).take (i - 0)).length≤9223372036854775807:=by simp;omega
   (refine qo rfl rfl rfl rfl rfl ((Yb S.wf va' ((v.gs.drop 0).take (i - 0)) ra' hll (r.us.getD i default).name).mono ?_);rintro _ h ⟨⟨j,j1,j2,rfl⟩|⟨j1,rfl⟩,x⟩)<;>(replace S:=S.join0 x;clear x;(first|refine cT ?_|refine cF ?_)<;>(refine qf ?_))
   all_goals rw [hmp] at j1
   ·all_goals (repeat' (first|refine qg ?_|refine qh rfl ?_|(refine qc 8 ?_;(iterate 3 refine mv ?_);refine qf ?_)))
    refine qi ⟨_,rfl,?_⟩;exact ⟨.inr ⟨_,_,rfl,hbad _ (by rw [hge,GX hz (by show gat (r.us.take i) _≠none;rw [j1];simp)]) (by decide)⟩,S.drop⟩
   ·skip
    all_goals (repeat' (first|refine qg ?_|refine qh rfl ?_|refine qj ?_|(refine qc 9 ?_;refine mv ?_;(first|(refine cS ?_ ?_<;>intro hc))<;>(refine qf ?_))))
    ·all_goals (repeat' (first|(refine qc 10 ?_;(iterate 3 refine mv ?_);refine qf ?_)))
     refine qi ⟨_,rfl,?_⟩;exact ⟨.inr ⟨_,_,rfl,hbad _ (by rw [hge,GV hz j1 (by show 64≤(r.us.take i).length;simp;omega)]) (by decide)⟩,S.drop⟩
    ·skip
     all_goals (repeat' (first|(refine qc 3 ?_;refine mv ?_;refine ad ?_;refine mv ?_;refine qf ?_)))
     refine ⟨i+1,?_,?_,qw⟩
     ·show r.us.length - (i+1)<r.us.length - i;omega
     ·exact ⟨S,by omega,jr g2 (by rw [hge,vX hz j1 (by show ¬ 64≤(r.us.take i).length;simp;omega)])⟩
 ·have hi:i=r.us.length:=by omega
  rw [hi] at g2;clear hi;all_goals (repeat' (first|refine ql ?_|(refine qc 11 ?_;refine mv ?_;refine qf ?_)))
  refine qG (σ:=Nat) (fun i h'=>Hs h0 h' [.blk b1 [v.vg.val,v.vt.val] 151]∧i≤r.ts.length∧(∀ k,k<i→J9 r k=0)) (fun i=>r.ts.length - i) (fun i=>[(1,.pointer (some ⟨b1,0,none⟩)),(6,.int .i64 i)]) 0 qw ?_ ?_
  ·exact ⟨S,zB0 _,fun j hj=>absurd hj (zB7 _)⟩
  clear S;rintro i h ⟨S,k1,k2⟩;all_goals (repeat' (first|refine qg ?_|refine qh rfl ?_|refine qj ?_|refine qx ?_|refine ql ?_|(refine qc 12 ?_;refine mv ?_;refine vl ?_;refine lB S rfl rfl ?_;refine zT S ?_;(first|(refine cS ?_ ?_<;>intro hc))<;>(refine qf ?_))))
  ·have hil:i<r.ts.length:=by omega
   have hts:=(yN k1 k2).1;have hbad:∀ e,J9 r i=e→e≠0→Bad r ((v.gs.length:Int)+i) e:=fun e h1 h2=>⟨h2,.inr ⟨g2,i,hil,k2,h1,by rw [hgl]⟩⟩
   all_goals (repeat' (first|refine qg ?_|(refine qc 14 ?_;refine vl ?_;refine lB S rfl rfl ?_;refine mv ?_;refine jB S ?_;refine jA S ?_;(refine al S ?_;clear S;intro b h S);(first|(refine sB S rfl rfl ?_;clear S;intro h S));refine qf ?_)))
   obtain ⟨b7,hnm⟩:∃ x,x=b:=⟨_,rfl⟩;subst hnm;simp only [zA0] at S;obtain ⟨t,ht⟩:∃ t,r.ts.getD i default=t:=⟨_,rfl⟩
   rw [ht] at S;replace S:Hs h0 h [.blk b7 [str t.a,str t.b,.int .u8 t.k] 174,.blk b1 [v.vg.val,v.vt.val] 151]:=S;all_goals (repeat' (first|refine qg ?_|(refine qc 15 ?_;refine vl ?_;refine lB S rfl rfl ?_;refine zT S ?_;refine mv ?_;refine ad ?_;refine mv ?_;refine qf ?_)))
   (repeat (refine qg ?_));first|refine zL (σ:=Unit) (fun _ h'=>Hs h0 h' [.blk b7 [str t.a,str t.b,.int .u8 t.k] 174,.blk b1 [v.vg.val,v.vt.val] 151]∧TGd r i) (fun _=>[(1,.pointer (some ⟨b1,0,none⟩)),(6,.int .i64 i),(7,.pointer (some ⟨b7,0,none⟩)),(8,.int .i64 ((v.gs.length:Int)+i))]) ?_ ?_
   ·have hpr:((i:Int) - 1).toNat=i - 1:=by omega
    all_goals (repeat' (first|refine qg ?_|refine qh rfl ?_|refine qj ?_|(refine qQ 16 ?_;refine vl ?_;refine lB S rfl rfl ?_;(first|(refine cS ?_ ?_<;>intro hc))<;>(refine mv ?_;(first|refine off ?_|(refine vl ?_));(first|refine off ?_|(refine lB S rfl rfl ?_));(first|refine off ?_|(first|(refine cS ?_ ?_<;>intro hc)))<;>(refine vl ?_;refine mv ?_;(first|refine off ?_|(refine vl ?_));(first|refine off ?_|(refine lB S rfl rfl ?_));(first|refine off ?_|(refine vl ?_));(first|refine off ?_|(refine lB S rfl rfl ?_));(first|refine off ?_|(refine tO ?_ ?_<;>intro hc))<;>(refine vl ?_;refine mv ?_;(first|refine off ?_|refine mv ?_);(first|refine off ?_|(first|(refine cS ?_ ?_<;>intro hc)))<;>((first|refine off ?_|refine mv ?_);(first|refine off ?_|(refine lB S rfl rfl ?_));(first|refine off ?_|(refine vl ?_));(first|refine off ?_|(refine lB S rfl rfl ?_));(first|refine off ?_|refine mv ?_);(first|refine off ?_|(refine sb ?_));(first|refine off ?_|(refine jB S ?_));(first|refine off ?_|(refine jA S ?_));(first|(refine off ?_;(first|refine off ?_|refine vl ?_);refine vl ?_;refine qf ?_)|skip))))))))
    all_goals first
     | exact ⟨(),⟨S,⟨by rw [ht];omega,by rw [ht];exact zF2.1 (by assumption),.inl (by omega)⟩⟩,(qw)⟩
     | skip
    all_goals (try simp only [hpr])
    all_goals (try ((refine qo rfl rfl rfl rfl rfl ((yA S.wf t (r.ts.getD (i - 1) default)).mono ?_);rintro _ h ⟨⟨rfl,z⟩|⟨rfl,z⟩,x⟩)<;>(replace S:=S.join0 x;clear x;refine vl ?_;refine vl ?_;refine qf ?_)))
    all_goals (all_goals (repeat' (first|refine qg ?_|refine qh rfl ?_|refine qj ?_|(refine qc 17 ?_;(iterate 3 refine mv ?_);refine qf ?_))))
    all_goals first
     | exact ⟨(),⟨S,⟨by rw [ht];omega,by rw [ht];exact zF2.1 (by assumption),.inr (by rw [ht];exact z)⟩⟩,(qw)⟩
     | (refine qi ⟨_,rfl,?_⟩;exact ⟨.inr ⟨_,_,rfl,hbad _ (qdS (by rw [ht];first|exact .inl (by omega)|exact .inr (.inl (by assumption))|exact .inr (.inr ⟨by omega,z⟩))) (by decide)⟩,S.drop⟩)
   clear S;rintro - h ⟨S,G⟩;all_goals (repeat' (first|refine qg ?_|(refine qc 18 ?_;refine vl ?_;refine lB S rfl rfl ?_;refine vl ?_;refine lB S rfl rfl ?_)))
   (refine qo rfl rfl rfl rfl rfl ((Yb S.wf v.vg.val v.gs (hrg.ext w S.ext) (by omega) t.a).mono ?_);rintro _ h ⟨⟨j,j1,j2,rfl⟩|⟨j1,rfl⟩,x⟩)<;>(replace S:=S.join0 x;clear x;(first|refine cT ?_|refine cF ?_)<;>(refine mv ?_;(first|refine off ?_|(refine vl ?_));(first|refine off ?_|(refine lB S rfl rfl ?_));(first|refine off ?_|(refine vl ?_));(first|refine off ?_|(refine lB S rfl rfl ?_));(first|(refine off ?_;(refine off ?_)<;>(refine vl ?_;refine qf ?_))|skip)))
   all_goals rw [HR.us] at j1
   rotate_left
   ·skip
    all_goals (repeat' (first|refine qg ?_|refine qh rfl ?_|(refine qc 19 ?_;(iterate 3 refine mv ?_);refine qf ?_)))
    refine qi ⟨_,rfl,?_⟩;exact ⟨.inr ⟨_,_,rfl,hbad _ (G.e6 (.inl (by rw [ht];exact j1))) (by decide)⟩,S.drop⟩
   all_goals (repeat' (fail))
   (refine qo rfl rfl rfl rfl rfl ((Yb S.wf v.vg.val v.gs (hrg.ext w S.ext) (by omega) t.b).mono ?_);rintro _ h ⟨⟨j',m1,m2,rfl⟩|⟨m1,rfl⟩,x⟩)<;>(replace S:=S.join0 x;clear x;(first|(first|refine cT ?_|refine cF ?_))<;>(refine vl ?_;refine qf ?_))
   all_goals rw [HR.us] at m1
   rotate_left
   ·skip
    all_goals (repeat' (first|refine qg ?_|refine qh rfl ?_|(refine qc 19 ?_;(iterate 3 refine mv ?_);refine qf ?_)))
    refine qi ⟨_,rfl,?_⟩;exact ⟨.inr ⟨_,_,rfl,hbad _ (G.e6 (.inr (by rw [ht];exact m1))) (by decide)⟩,S.drop⟩
   have hkn:¬ (gat r.us (r.ts.getD i default).a=none∨gat r.us (r.ts.getD i default).b=none):=by
    rw [ht,j1,m1];simp
   have hpr:((i:Int) - 1).toNat=i - 1:=by omega
   all_goals (repeat' (first|refine qg ?_|refine qh rfl ?_|refine qj ?_))
   (repeat (refine qg ?_));first|refine zL (σ:=Unit) (fun _ h'=>Hs h0 h' [.blk b7 [str t.a,str t.b,.int .u8 t.k] 174,.blk b1 [v.vg.val,v.vt.val] 151]∧¬ (0<i∧¬ Ze (r.ts.getD (i - 1) default) (r.ts.getD i default))) (fun _=>[(1,.pointer (some ⟨b1,0,none⟩)),(6,.int .i64 i),(7,.pointer (some ⟨b7,0,none⟩)),(8,.int .i64 ((v.gs.length:Int)+i))]) ?_ ?_
   ·all_goals (repeat' (first|refine qh rfl ?_|refine qj ?_|(refine qQ 20 ?_;refine mv ?_;(first|(refine cS ?_ ?_<;>intro hc))<;>(refine mv ?_;(first|refine off ?_|(refine vl ?_));(first|refine off ?_|(refine lB S rfl rfl ?_));(first|refine off ?_|refine mv ?_);(first|refine off ?_|(refine sb ?_));(first|refine off ?_|(refine jB S ?_));(first|refine off ?_|(refine jA S ?_));(first|refine off ?_|(refine lB S rfl rfl ?_));(first|(refine off ?_;refine off ?_;refine vl ?_;refine qf ?_)|skip)))))
    ·simp only [hpr];(refine qo rfl rfl rfl rfl rfl ((yA S.wf (r.ts.getD (i - 1) default) t).mono ?_);rintro _ h ⟨⟨rfl,z⟩|⟨rfl,z⟩,x⟩)<;>(replace S:=S.join0 x;clear x;refine vl ?_;refine vl ?_;refine qf ?_)
     ·all_goals (repeat' (first|refine qh rfl ?_|refine qj ?_))
      exact ⟨(),⟨S,fun q=>q.2 (by rw [ht];exact z)⟩,(qw)⟩
     ·skip
      all_goals (repeat' (first|refine qg ?_|refine qh rfl ?_|(refine qc 21 ?_;(iterate 3 refine mv ?_);refine qf ?_)))
      refine qi ⟨_,rfl,?_⟩;exact ⟨.inr ⟨_,_,rfl,hbad _ (G.e5 hil hts hkn ⟨by omega,by rw [ht];exact z⟩) (by decide)⟩,S.drop⟩
    ·exact ⟨(),⟨S,fun q=>by omega⟩,(qw)⟩
   clear S;rintro - h ⟨S,hb5⟩;all_goals (repeat' (first|refine qg ?_|refine qh rfl ?_|refine qj ?_|(refine qc 22 ?_;refine mv ?_;(first|(refine cS ?_ ?_<;>intro hc))<;>(refine qf ?_))))
   ·all_goals (repeat' (first|(refine qc 23 ?_;(iterate 3 refine mv ?_);refine qf ?_)))
    refine qi ⟨_,rfl,?_⟩;exact ⟨.inr ⟨_,_,rfl,hbad _ (G.e7 hil hts hkn hb5 (by omega)) (by decide)⟩,S.drop⟩
   ·skip
    all_goals (repeat' (first|(refine qc 13 ?_;refine mv ?_;refine ad ?_;refine mv ?_;refine qf ?_)))
    refine ⟨i+1,?_,?_,qw⟩
    ·show r.ts.length - (i+1)<r.ts.length - i;omega
    ·exact ⟨S.tail,by omega,jr k2 (G.e0 hil hts hkn hb5 (by omega))⟩
  ·have hi:i=r.ts.length:=by omega
   rw [hi] at k2;all_goals (repeat' (first|(refine qc 24 ?_;refine mv ?_;refine mv ?_;refine qf ?_)))
   refine qi ⟨_,rfl,?_⟩;exact ⟨.inl ⟨rfl,g2,k2⟩,S.drop⟩
end Go.Proofs.Xx
