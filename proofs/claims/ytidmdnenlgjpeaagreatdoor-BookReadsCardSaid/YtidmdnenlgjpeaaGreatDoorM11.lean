/-
  Rolls compared;a book's roll.
-/
import Derived.Test.YtidmdnenlgjpeaaGreatDoorM10
set_option linter.unusedSimpArgs false
set_option linter.unusedVariables false
set_option linter.unusedSectionVars false
set_option maxRecDepth 100000
set_option maxHeartbeats 4000000
namespace Go.Proofs.Xx
open Go Go.Proofs
section
variable {P:Program} {X:Extern} {sz:Nat} {L:Ks} {h h0:AH} {rs:List Rs} {ops:Array Oper} {os:List Oper} {o:Oper} {R:Ks→AH→Prop}
theorem bE {L1 L2:Ks} {x y:Operand} {ty ty2:TypeId} {a b:Bool} (w1:a=b→KO P X sz ops os L1 h R) (w2:¬ a=b→KO P X sz ops os L2 h R) (ho:o.op = .binOp .eql ty x y ty2:=by exact rfl) (hg:qC ops L.tree o.guard=some true:=by exact rfl) (hx:kA L x=some (.bool a):=by exact rfl) (hy:kA L y=some (.bool b):=by exact rfl) (hu:P.underlying ty=some .bool:=by exact rfl)
 (hp1:qP sz L o.dst (.bool true)=some L1:=by exact rfl) (hp2:qP sz L o.dst (.bool false)=some L2:=by exact rfl):KO P X sz ops (o :: os) L h R:=by
 by_cases p:a=b
 ·subst p;exact je ho hg hx hy (v:=.bool true) (by cases a<;>simp [QQ,hu]) hp1 (w1 rfl)
 ·exact je ho hg hx hy (v:=.bool false) (by cases a<;>cases b<;>first|exact absurd rfl p|simp [QQ,hu]) hp2 (w2 p)
end
theorem YA {α:Type} [Inhabited α] {l m:List α} (hl:l.length=m.length) (h:∀ i,i<l.length→l.getD i default=m.getD i default):l=m:=by
 apply List.ext_getElem hl
 intro i h1 h2
 have:=h i h1
 rwa [List.getD_eq_getElem?_getD,List.getD_eq_getElem?_getD,List.getElem?_eq_getElem h1,List.getElem?_eq_getElem h2] at this
theorem qdo (a b:Ti):(zQ ⟨a.a.toArray⟩ ⟨b.a.toArray⟩ && (zQ ⟨a.b.toArray⟩ ⟨b.b.toArray⟩ && (a.k == b.k && true)))=true↔a=b:=by
 rw [Q4,Q4]
 cases a;cases b
 simp
theorem Star.snoc {h:AH} {r:Rs} {fp:Fp} (hr:r.ok h fp):∀ {l:List Rs} {U:Fp},Star h l U→(∀ b,fp b→¬ U b)→Star h (l ++ [r]) (fun b=>U b∨fp b)
 | [],U,_,_=>⟨fp,hr,fun b hb=>.inr hb,trivial⟩
 | x :: l,U,⟨fx,h1,h2,h3⟩,hd=>⟨fx,h1,fun b hb=>.inl (h2 b hb),(Star.snoc hr h3 fun b hb q=>hd b hb q.1).mono fun b hb=>by
  rcases hb with hb|hb
  ·exact ⟨.inl hb.1,hb.2⟩
  ·exact ⟨.inr hb,fun q=>hd b hb (h2 b q)⟩⟩
abbrev qap (g:ZC):Rs:=.sl g.tv.val 9 1 eS g.tg
abbrev XA (gs:List ZC):Rs:=.any (fun h fp=>Star h (gs.map qap) fp)
theorem Hs.Ko {h0 h:AH} {rs:List Rs} {gs:List ZC} {g:ZC} (S:Hs h0 h (.sl g.tv.val 9 1 eS g.tg :: XA gs :: rs)):Hs h0 h (XA (gs ++ [g]) :: rs):=by
 obtain ⟨f1,k1,k2,f2,k3,k4,k5⟩:=S.sep
 refine ⟨S.ext,fun b=>f2 b∨f1 b,fun h' q=>?_,fun b hb=>?_,k5.mono fun b hb=>⟨trivial,fun q=>?_⟩⟩
 ·rw [List.map_append]
  exact Star.snoc (k1.local fun b hb=>q b (.inr hb)) (k3 h' fun b hb=>q b (.inl hb)) fun b hb q=>(k4 b q).2.2.2 hb
 ·rcases hb with hb|hb
  ·exact ⟨(k4 b hb).1,(k4 b hb).2.1,trivial⟩
  ·exact k2 b hb
 ·rcases q with q|q
  ·exact hb.2 q
  ·exact hb.1.2 q
theorem Star.get {h:AH} {r:Rs}:∀ {l:List Rs} {U:Fp},Star h l U→r∈l→∃ fp,r.ok h fp
 | x :: l,U,⟨fx,h1,h2,h3⟩,hr=>by
  rcases List.mem_cons.1 hr with rfl|hr
  ·exact ⟨fx,h1⟩
  ·exact Star.get h3 hr
theorem qcC {α:Type} {v:Value} {e:TypeId} {z:Nat} {enc:α→List Value} {l:List α} {h:AH} {fp:Fp} (k:(Rs.sl v e z enc l).ok h fp):Qr h v z enc l:=by
 rcases k with ⟨rfl,rfl⟩|⟨b,o,cc,slk,cap,h1,h2,h3,h4,-⟩
 ·exact .inl ⟨rfl,rfl,rfl⟩
 ·exact .inr ⟨b,o,_,cc,e,slk,false,h1,h2,h4⟩
abbrev Jz (v:RlV) (ts:List Ti):List Rs:=[.sl v.vg.val 24 9 eG v.gs,.sl v.vt.val 111 3 zW ts,XA v.gs]
theorem Hs.qed {h0 h:AH} {rs:List Rs} {v:RlV} {r:Rl} (S:Hs h0 h (Jz v r.ts ++ rs)) (hu:v.gs.map (·.toGu)=r.us) (h1:r.us.length≤9223372036854775807) (h2:r.ts.length≤9223372036854775807) (h3:∀ g∈r.us,g.tg.length≤9223372036854775807):RlOk h v r:=by
 obtain ⟨fp,k⟩:=Hs.qdN (p:=fun h fp=>Star h (v.gs.map qap) fp) S (.there (.there .here))
 refine ⟨Rd.Ze S .here,Rd.Ze S (.there .here),fun i hi=>⟨?_,?_⟩,hu,h1,h2⟩
 ·obtain ⟨fq,q⟩:=k.get (List.mem_map.2 ⟨_,qR hi,rfl⟩)
  exact qcC q
 ·exact h3 _ (by rw [← hu];exact List.mem_map.2 ⟨_,qR hi,rfl⟩)
variable [Flag]
theorem yT {h0:AH} (w:WfH h0) (v u:Value) (l m:List (List UInt8)) (rv:Qr h0 v 1 eS l) (ru:Qr h0 u 1 eS m) (hl:l.length≤9223372036854775807) (hm:m.length≤9223372036854775807):Fn Tryz.prog Xh 60 [v,u] h0 (fun x h'=>Z7 x (l=m)∧Hs h0 h' []):=by
 have S:=Hs.start w
 refine zD rfl Tryz.func60 rfl rfl ?_
 all_goals (repeat' (first|refine qA ?_|refine qw rfl ?_|refine qx ?_|refine qy ?_|refine qo ?_|refine qi ?_|refine qj ?_|(refine qg 0 ?_;refine mv ?_;refine qf ?_)|(refine qg 1 ?_;refine mv ?_;(first|refine Zq S ?_|refine Zp S rfl rfl ?_);refine mv ?_;(first|refine Zq S ?_|refine Zp S rfl rfl ?_);(first|refine cT ?_|refine cF ?_|(refine cS ?_ ?_<;>intro hc))<;>(refine qf ?_))|(refine qg 2 ?_;refine mv ?_;refine qf ?_)|(refine qg 3 ?_;refine mv ?_;refine qf ?_)))
 ·refine qH ⟨_,rfl,?_⟩
  exact ⟨.inr ⟨rfl,fun q=>by subst q;exact hc rfl⟩,S⟩
 ·refine zU (σ:=Nat) (fun i h'=>Hs h0 h' []∧i≤l.length∧∀ j,j<i→l.getD j default=m.getD j default) (fun i=>l.length - i) (fun i=>[(0,v),(1,u),(5,.int .i64 i)]) 0 zy ?_ ?_
  ·exact ⟨S,Nat.zero_le _,fun j hj=>absurd hj (Nat.not_lt_zero _)⟩
  clear S
  rintro i h ⟨S,g1,g2⟩
  all_goals (repeat' (first|refine qA ?_|refine qw rfl ?_|refine qx ?_|refine qy ?_|refine qo ?_|refine qi ?_|refine qj ?_|(refine qg 4 ?_;refine mv ?_;refine mv ?_;(first|refine Zq S ?_|refine Zp S rfl rfl ?_);(first|refine cT ?_|refine cF ?_|(refine cS ?_ ?_<;>intro hc))<;>(refine qf ?_))|(refine qg 5 ?_;refine mv ?_;(first|refine ad ?_|refine vl ?_);refine mv ?_;refine qf ?_)|(refine zZ 6 ?_;refine mv ?_;refine mv ?_;(first|refine zM S ?_|refine qW S rfl rfl ?_);(first|refine lB S rfl rfl ?_|refine qE S rfl rfl ?_|refine qO S ?_|refine lH S ?_);refine mv ?_;refine mv ?_;(first|refine zM S ?_|refine qW S rfl rfl ?_);(first|refine lB S rfl rfl ?_|refine qE S rfl rfl ?_|refine qO S ?_|refine lH S ?_);(refine tS ?_ ?_<;>intro hc)<;>(refine qf ?_))|(refine qg 7 ?_;refine mv ?_;refine qf ?_)|(refine qg 8 ?_;refine mv ?_;refine qf ?_)))
  all_goals (try simp only [Int.toNat_natCast] at *)
  ·refine ⟨i+1,?_,?_,zy⟩
   ·show l.length - (i+1)<l.length - i;omega
   ·exact ⟨S,by omega,Xt g2 hc⟩
  ·refine qH ⟨_,rfl,?_⟩
   exact ⟨.inr ⟨rfl,fun q=>by subst q;exact hc rfl⟩,S⟩
  ·refine qH ⟨_,rfl,?_⟩
   exact ⟨.inl ⟨rfl,YA (by omega) fun j hj=>g2 j (by omega)⟩,S⟩
theorem wS {h0:AH} (w:WfH h0) (v u:Value) (l m:List Ti) (rv:Qr h0 v 3 zW l) (ru:Qr h0 u 3 zW m) (hl:l.length≤9223372036854775807) (hm:m.length≤9223372036854775807):Fn Tryz.prog Xh 68 [v,u] h0 (fun x h'=>Z7 x (l=m)∧Hs h0 h' []):=by
 have S:=Hs.start w
 refine zD rfl Tryz.func68 rfl rfl ?_
 all_goals (repeat' (first|refine qA ?_|refine qw rfl ?_|refine qx ?_|refine qy ?_|refine qo ?_|refine qi ?_|refine qj ?_|(refine qg 0 ?_;refine mv ?_;refine qf ?_)|(refine qg 1 ?_;refine mv ?_;(first|refine Zq S ?_|refine Zp S rfl rfl ?_);refine mv ?_;(first|refine Zq S ?_|refine Zp S rfl rfl ?_);(first|refine cT ?_|refine cF ?_|(refine cS ?_ ?_<;>intro hc))<;>(refine qf ?_))|(refine qg 2 ?_;refine mv ?_;refine qf ?_)|(refine qg 3 ?_;refine mv ?_;refine qf ?_)))
 ·refine qH ⟨_,rfl,?_⟩
  exact ⟨.inr ⟨rfl,fun q=>by subst q;exact hc rfl⟩,S⟩
 ·refine zU (σ:=Nat) (fun i h'=>Hs h0 h' []∧i≤l.length∧∀ j,j<i→l.getD j default=m.getD j default) (fun i=>l.length - i) (fun i=>[(0,v),(1,u),(5,.int .i64 i)]) 0 zy ?_ ?_
  ·exact ⟨S,Nat.zero_le _,fun j hj=>absurd hj (Nat.not_lt_zero _)⟩
  clear S
  rintro i h ⟨S,g1,g2⟩
  all_goals (repeat' (first|refine qA ?_|refine qw rfl ?_|refine qx ?_|refine qy ?_|refine qo ?_|refine qi ?_|refine qj ?_|(refine qg 4 ?_;refine mv ?_;refine mv ?_;(first|refine Zq S ?_|refine Zp S rfl rfl ?_);(first|refine cT ?_|refine cF ?_|(refine cS ?_ ?_<;>intro hc))<;>(refine qf ?_))|(refine qg 5 ?_;refine mv ?_;(first|refine ad ?_|refine vl ?_);refine mv ?_;refine qf ?_)|(refine zZ 6 ?_;refine mv ?_;refine mv ?_;(first|refine zM S ?_|refine qW S rfl rfl ?_);(first|refine lB S rfl rfl ?_|refine qE S rfl rfl ?_|refine qO S ?_|refine lH S ?_);refine mv ?_;refine mv ?_;(first|refine zM S ?_|refine qW S rfl rfl ?_);(first|refine lB S rfl rfl ?_|refine qE S rfl rfl ?_|refine qO S ?_|refine lH S ?_);(refine gE ?_ ?_<;>intro hc)<;>(refine qf ?_))|(refine qg 7 ?_;refine mv ?_;refine qf ?_)|(refine qg 8 ?_;refine mv ?_;refine qf ?_)))
  all_goals (try simp only [Int.toNat_natCast] at *)
  ·refine ⟨i+1,?_,?_,zy⟩
   ·show l.length - (i+1)<l.length - i;omega
   ·exact ⟨S,by omega,Xt g2 ((qdo _ _).1 hc)⟩
  ·refine qH ⟨_,rfl,?_⟩
   exact ⟨.inr ⟨rfl,fun q=>by subst q;rw [(qdo _ _).2 rfl] at hc;cases hc⟩,S⟩
  ·refine qH ⟨_,rfl,?_⟩
   exact ⟨.inl ⟨rfl,YA (by omega) fun j hj=>g2 j (by omega)⟩,S⟩
theorem yU {h0:AH} (w:WfH h0) (g k:ZC) (rg:Qr h0 g.tv.val 1 eS g.tg) (rk:Qr h0 k.tv.val 1 eS k.tg) (hg:g.tg.length≤9223372036854775807) (hk:k.tg.length≤9223372036854775807):Fn Tryz.prog Xh 62 [gV g,gV k] h0 (fun x h'=>Z7 x (g.toGu=k.toGu)∧Hs h0 h' []):=by
 have S:=Hs.start w
 obtain ⟨⟨n1,n2,n3,n4,n5,n6,n7,n8,n9⟩,n10⟩:=g
 obtain ⟨⟨m1,m2,m3,m4,m5,m6,m7,m8,m9⟩,m10⟩:=k
 unfold gV
 dsimp only at *
 refine zD rfl Tryz.func62 rfl rfl ?_
 skip
 all_goals (repeat' (first|refine qA ?_|refine qw rfl ?_|refine qx ?_|refine qy ?_|refine qo ?_|refine qi ?_|refine qj ?_|(refine qg 0 ?_;(refine bx S ?_;clear S;intro b h S);(refine bx S ?_;clear S;intro b h S);refine mv ?_;refine qf ?_)|(refine qg 1 ?_;(first|refine vl ?_|refine fB S ?_|refine fS S rfl rfl ?_|refine fA ?_);(first|refine lB S rfl rfl ?_|refine qE S rfl rfl ?_|refine qO S ?_|refine lH S ?_);(first|refine vl ?_|refine fB S ?_|refine fS S rfl rfl ?_|refine fA ?_);(first|refine lB S rfl rfl ?_|refine qE S rfl rfl ?_|refine qO S ?_|refine lH S ?_);(refine tS ?_ ?_<;>intro hc)<;>(refine mv ?_;(first|refine off ?_|(first|refine vl ?_|refine fB S ?_|refine fS S rfl rfl ?_|refine fA ?_));(first|refine off ?_|(first|refine lB S rfl rfl ?_|refine qE S rfl rfl ?_|refine qO S ?_|refine lH S ?_));(first|refine off ?_|(first|refine vl ?_|refine fB S ?_|refine fS S rfl rfl ?_|refine fA ?_));(first|refine off ?_|(first|refine lB S rfl rfl ?_|refine qE S rfl rfl ?_|refine qO S ?_|refine lH S ?_));(first|refine off ?_|(refine tS ?_ ?_<;>intro hc))<;>(refine vl ?_;refine mv ?_;(first|refine off ?_|(first|refine vl ?_|refine fB S ?_|refine fS S rfl rfl ?_|refine fA ?_));(first|refine off ?_|(first|refine lB S rfl rfl ?_|refine qE S rfl rfl ?_|refine qO S ?_|refine lH S ?_));(first|refine off ?_|(first|refine vl ?_|refine fB S ?_|refine fS S rfl rfl ?_|refine fA ?_));(first|refine off ?_|(first|refine lB S rfl rfl ?_|refine qE S rfl rfl ?_|refine qO S ?_|refine lH S ?_));(first|refine off ?_|(refine tS ?_ ?_<;>intro hc))<;>(refine vl ?_;refine mv ?_;(first|refine off ?_|(first|refine vl ?_|refine fB S ?_|refine fS S rfl rfl ?_|refine fA ?_));(first|refine off ?_|(first|refine lB S rfl rfl ?_|refine qE S rfl rfl ?_|refine qO S ?_|refine lH S ?_));(first|refine off ?_|(first|refine vl ?_|refine fB S ?_|refine fS S rfl rfl ?_|refine fA ?_));(first|refine off ?_|(first|refine lB S rfl rfl ?_|refine qE S rfl rfl ?_|refine qO S ?_|refine lH S ?_));(first|refine off ?_|(first|refine cT ?_|refine cF ?_|(refine cS ?_ ?_<;>intro hc)))<;>(refine vl ?_;refine mv ?_;(first|refine off ?_|(first|refine vl ?_|refine fB S ?_|refine fS S rfl rfl ?_|refine fA ?_));(first|refine off ?_|(first|refine lB S rfl rfl ?_|refine qE S rfl rfl ?_|refine qO S ?_|refine lH S ?_));(first|refine off ?_|(first|refine vl ?_|refine fB S ?_|refine fS S rfl rfl ?_|refine fA ?_));(first|refine off ?_|(first|refine lB S rfl rfl ?_|refine qE S rfl rfl ?_|refine qO S ?_|refine lH S ?_));(first|refine off ?_|(first|refine cT ?_|refine cF ?_|(refine cS ?_ ?_<;>intro hc)))<;>(refine vl ?_;refine mv ?_;(first|refine off ?_|(first|refine vl ?_|refine fB S ?_|refine fS S rfl rfl ?_|refine fA ?_));(first|refine off ?_|(first|refine lB S rfl rfl ?_|refine qE S rfl rfl ?_|refine qO S ?_|refine lH S ?_));(first|refine off ?_|(first|refine vl ?_|refine fB S ?_|refine fS S rfl rfl ?_|refine fA ?_));(first|refine off ?_|(first|refine lB S rfl rfl ?_|refine qE S rfl rfl ?_|refine qO S ?_|refine lH S ?_));(first|refine off ?_|(refine tS ?_ ?_<;>intro hc))<;>(refine vl ?_;refine mv ?_;(first|refine off ?_|(first|refine vl ?_|refine fB S ?_|refine fS S rfl rfl ?_|refine fA ?_));(first|refine off ?_|(first|refine lB S rfl rfl ?_|refine qE S rfl rfl ?_|refine qO S ?_|refine lH S ?_));(first|refine off ?_|(first|refine vl ?_|refine fB S ?_|refine fS S rfl rfl ?_|refine fA ?_));(first|refine off ?_|(first|refine lB S rfl rfl ?_|refine qE S rfl rfl ?_|refine qO S ?_|refine lH S ?_));(first|refine off ?_|(refine bE ?_ ?_<;>intro hc))<;>(refine vl ?_;refine mv ?_;(first|refine off ?_|(first|refine vl ?_|refine fB S ?_|refine fS S rfl rfl ?_|refine fA ?_));(first|refine off ?_|(first|refine lB S rfl rfl ?_|refine qE S rfl rfl ?_|refine qO S ?_|refine lH S ?_));(first|refine off ?_|(first|refine vl ?_|refine fB S ?_|refine fS S rfl rfl ?_|refine fA ?_));(first|refine off ?_|(first|refine lB S rfl rfl ?_|refine qE S rfl rfl ?_|refine qO S ?_|refine lH S ?_));(first|refine off ?_|(refine bE ?_ ?_<;>intro hc))<;>(refine vl ?_;refine mv ?_;(first|refine off ?_|(first|refine vl ?_|refine fB S ?_|refine fS S rfl rfl ?_|refine fA ?_));(first|refine off ?_|(first|refine lB S rfl rfl ?_|refine qE S rfl rfl ?_|refine qO S ?_|refine lH S ?_));(first|refine off ?_|(first|refine vl ?_|refine fB S ?_|refine fS S rfl rfl ?_|refine fA ?_));(first|refine off ?_|(first|refine lB S rfl rfl ?_|refine qE S rfl rfl ?_|refine qO S ?_|refine lH S ?_));(first|(refine off ?_;refine vl ?_;refine mv ?_;refine qf ?_)|skip))))))))))))
 ·(refine qM rfl rfl rfl rfl rfl ((yT S.wf n10.val m10.val n9 m9 (rg.ext w S.ext) (rk.ext w S.ext) hg hk).mono ?_);rintro _ h ⟨⟨rfl,z⟩|⟨rfl,z⟩,x⟩)<;>(replace S:=S.zC x;clear x;refine vl ?_;refine mv ?_;refine qf ?_)
  ·all_goals (repeat' (first|refine qA ?_|refine qw rfl ?_|refine qx ?_|refine qy ?_|refine qo ?_|refine qi ?_|refine qj ?_))
   refine qH ⟨_,rfl,?_⟩
   refine ⟨.inl ⟨rfl,?_⟩,S.drop⟩
   simp only [Gu.mk.injEq]
   exact ⟨by assumption,by assumption,by assumption,by assumption,by assumption,by assumption,by assumption,by assumption,z⟩
  ·all_goals (repeat' (first|refine qA ?_|refine qw rfl ?_|refine qx ?_|refine qy ?_|refine qo ?_|refine qi ?_|refine qj ?_))
   refine qH ⟨_,rfl,?_⟩
   refine ⟨.inr ⟨rfl,fun q=>?_⟩,S.drop⟩
   simp only [Gu.mk.injEq] at q
   exact z q.2.2.2.2.2.2.2.2
 all_goals
  refine qH ⟨_,rfl,?_⟩
  refine ⟨.inr ⟨rfl,fun q=>?_⟩,S.drop⟩
  simp only [Gu.mk.injEq] at q
  exact absurd (by first|exact q.1|exact q.2.1|exact q.2.2.1|exact q.2.2.2.1|exact q.2.2.2.2.1|exact q.2.2.2.2.2.1|exact q.2.2.2.2.2.2.1|exact q.2.2.2.2.2.2.2.1) hc
theorem xq {h0:AH} (w:WfH h0) (v u:Value) (gs ks:List ZC) (rv:Qr h0 v 9 eG gs) (ru:Qr h0 u 9 eG ks) (tv:∀ i,i<gs.length→Qr h0 (gs.getD i default).tv.val 1 eS (gs.getD i default).tg∧(gs.getD i default).tg.length≤9223372036854775807) (tu:∀ i,i<ks.length→Qr h0 (ks.getD i default).tv.val 1 eS (ks.getD i default).tg∧(ks.getD i default).tg.length≤9223372036854775807) (hl:gs.length≤9223372036854775807) (hm:ks.length≤9223372036854775807) :
 Fn Tryz.prog Xh 67 [v,u] h0 (fun x h'=>Z7 x (gs.map (·.toGu)=ks.map (·.toGu))∧Hs h0 h' []):=by
 have S:=Hs.start w
 refine zD rfl Tryz.func67 rfl rfl ?_
 all_goals (repeat' (first|refine qA ?_|refine qw rfl ?_|refine qx ?_|refine qy ?_|refine qo ?_|refine qi ?_|refine qj ?_|(refine qg 0 ?_;refine mv ?_;refine qf ?_)|(refine qg 1 ?_;refine mv ?_;(first|refine Zq S ?_|refine Zp S rfl rfl ?_);refine mv ?_;(first|refine Zq S ?_|refine Zp S rfl rfl ?_);(first|refine cT ?_|refine cF ?_|(refine cS ?_ ?_<;>intro hc))<;>(refine qf ?_))|(refine qg 2 ?_;refine mv ?_;refine qf ?_)|(refine qg 3 ?_;refine mv ?_;refine qf ?_)))
 ·refine qH ⟨_,rfl,?_⟩
  exact ⟨.inr ⟨rfl,fun q=>by have:=congrArg List.length q;simp at this;omega⟩,S⟩
 ·refine zU (σ:=Nat) (fun i h'=>Hs h0 h' []∧i≤gs.length∧∀ j,j<i→(gs.getD j default).toGu=(ks.getD j default).toGu) (fun i=>gs.length - i) (fun i=>[(0,v),(1,u),(5,.int .i64 i)]) 0 zy ?_ ?_
  ·exact ⟨S,Nat.zero_le _,fun j hj=>absurd hj (Nat.not_lt_zero _)⟩
  clear S
  rintro i h ⟨S,g1,g2⟩
  all_goals (repeat' (first|refine qA ?_|refine qw rfl ?_|refine qx ?_|refine qy ?_|refine qo ?_|refine qi ?_|refine qj ?_|(refine qg 4 ?_;refine mv ?_;refine mv ?_;(first|refine Zq S ?_|refine Zp S rfl rfl ?_);(first|refine cT ?_|refine cF ?_|(refine cS ?_ ?_<;>intro hc))<;>(refine qf ?_))|(refine qg 8 ?_;refine mv ?_;refine qf ?_)))
  ·have e1:=tv i (by omega)
   have e2:=tu i (by omega)
   all_goals (repeat' (first|refine qA ?_|refine qw rfl ?_|refine qx ?_|refine qy ?_|refine qo ?_|refine qi ?_|refine qj ?_|(refine zZ 6 ?_;refine mv ?_;refine mv ?_;(first|refine zM S ?_|refine qW S rfl rfl ?_);(first|refine lB S rfl rfl ?_|refine qE S rfl rfl ?_|refine qO S ?_|refine lH S ?_);refine mv ?_;refine mv ?_;(first|refine zM S ?_|refine qW S rfl rfl ?_);(first|refine lB S rfl rfl ?_|refine qE S rfl rfl ?_|refine qO S ?_|refine lH S ?_))))
   simp only [Int.toNat_natCast]
   (refine qM rfl rfl rfl rfl rfl ((yU S.wf (gs.getD i default) (ks.getD i default) (e1.1.ext w S.ext) (e2.1.ext w S.ext) e1.2 e2.2).mono ?_);rintro _ h ⟨⟨rfl,z⟩|⟨rfl,z⟩,x⟩)<;>(replace S:=S.zC x;clear x;refine vl ?_;refine qf ?_)
   ·all_goals (repeat' (first|refine qA ?_|refine qw rfl ?_|refine qx ?_|refine qy ?_|refine qo ?_|refine qi ?_|refine qj ?_|(refine qg 4 ?_;refine mv ?_;refine mv ?_;(first|refine Zq S ?_|refine Zp S rfl rfl ?_);(first|refine cT ?_|refine cF ?_|(refine cS ?_ ?_<;>intro hc))<;>(refine qf ?_))|(refine qg 5 ?_;refine mv ?_;(first|refine ad ?_|refine vl ?_);refine mv ?_;refine qf ?_)|(refine zZ 6 ?_;refine mv ?_;refine mv ?_;(first|refine zM S ?_|refine qW S rfl rfl ?_);(first|refine lB S rfl rfl ?_|refine qE S rfl rfl ?_|refine qO S ?_|refine lH S ?_);refine mv ?_;refine mv ?_;(first|refine zM S ?_|refine qW S rfl rfl ?_);(first|refine lB S rfl rfl ?_|refine qE S rfl rfl ?_|refine qO S ?_|refine lH S ?_))|(refine qg 7 ?_;refine mv ?_;refine qf ?_)|(refine qg 8 ?_;refine mv ?_;refine qf ?_)))
    refine ⟨i+1,?_,?_,zy⟩
    ·show gs.length - (i+1)<gs.length - i;omega
    ·exact ⟨S,by omega,Xt g2 z⟩
   ·all_goals (repeat' (first|refine qA ?_|refine qw rfl ?_|refine qx ?_|refine qy ?_|refine qo ?_|refine qi ?_|refine qj ?_|(refine zZ 6 ?_;refine mv ?_;refine mv ?_;(first|refine zM S ?_|refine qW S rfl rfl ?_);(first|refine lB S rfl rfl ?_|refine qE S rfl rfl ?_|refine qO S ?_|refine lH S ?_);refine mv ?_;refine mv ?_;(first|refine zM S ?_|refine qW S rfl rfl ?_);(first|refine lB S rfl rfl ?_|refine qE S rfl rfl ?_|refine qO S ?_|refine lH S ?_))|(refine qg 7 ?_;refine mv ?_;refine qf ?_)))
    refine qH ⟨_,rfl,?_⟩
    refine ⟨.inr ⟨rfl,fun q=>z ?_⟩,S⟩
    rw [← zY (f:=fun g:ZC=>g.toGu) (show i<gs.length by omega),← zY (f:=fun g:ZC=>g.toGu) (show i<ks.length by omega),q]
  ·refine qH ⟨_,rfl,?_⟩
   refine ⟨.inl ⟨rfl,YA (by simp;omega) fun j hj=>?_⟩,S⟩
   simp at hj
   rw [zY (by omega),zY (by omega)];exact g2 j (by omega)
theorem Vk {h0:AH} (w:WfH h0) (v u:RlV) (r q:Rl) (hv:RlOk h0 v r) (hu:RlOk h0 u q):Fn Tryz.prog Xh 22 [v.val,u.val] h0 (fun x h'=>Z7 x (r=q)∧Hs h0 h' []):=by
 have S:=Hs.start w
 have e1:=hv.len
 have e2:=hu.len
 have l1:=hv.lg
 have l2:=hu.lg
 unfold RlV.val
 refine zD rfl Tryz.func22 rfl rfl ?_
 skip
 all_goals (repeat' (first|refine qA ?_|refine qw rfl ?_|refine qx ?_|refine qy ?_|refine qo ?_|refine qi ?_|refine qj ?_|(refine qg 0 ?_;(refine bx S ?_;clear S;intro b h S);(refine bx S ?_;clear S;intro b h S);refine mv ?_;refine qf ?_)|(refine qg 1 ?_;(first|refine vl ?_|refine fB S ?_|refine fS S rfl rfl ?_|refine fA ?_);(first|refine lB S rfl rfl ?_|refine qE S rfl rfl ?_|refine qO S ?_|refine lH S ?_);(first|refine vl ?_|refine fB S ?_|refine fS S rfl rfl ?_|refine fA ?_);(first|refine lB S rfl rfl ?_|refine qE S rfl rfl ?_|refine qO S ?_|refine lH S ?_))))
 (refine qM rfl rfl rfl rfl rfl ((xq S.wf v.vg.val u.vg.val v.gs u.gs (hv.rg.ext w S.ext) (hu.rg.ext w S.ext) (fun i hi=>⟨(hv.tg i hi).1.ext w S.ext,(hv.tg i hi).2⟩) (fun i hi=>⟨(hu.tg i hi).1.ext w S.ext,(hu.tg i hi).2⟩) (by omega) (by omega)).mono ?_);rintro _ h ⟨⟨rfl,z⟩|⟨rfl,z⟩,x⟩)<;>(replace S:=S.zC x;clear x;refine mv ?_;(first|refine off ?_|(first|refine vl ?_|refine fB S ?_|refine fS S rfl rfl ?_|refine fA ?_));(first|refine off ?_|(first|refine lB S rfl rfl ?_|refine qE S rfl rfl ?_|refine qO S ?_|refine lH S ?_));(first|refine off ?_|(first|refine vl ?_|refine fB S ?_|refine fS S rfl rfl ?_|refine fA ?_));(first|refine off ?_|(first|refine lB S rfl rfl ?_|refine qE S rfl rfl ?_|refine qO S ?_|refine lH S ?_));(first|(refine off ?_;refine vl ?_;refine mv ?_;refine qf ?_)|skip))
 ·(refine qM rfl rfl rfl rfl rfl ((wS S.wf v.vt.val u.vt.val r.ts q.ts (hv.rt.ext w S.ext) (hu.rt.ext w S.ext) hv.lt hu.lt).mono ?_);rintro _ h ⟨⟨rfl,z2⟩|⟨rfl,z2⟩,x⟩)<;>(replace S:=S.zC x;clear x;refine vl ?_;refine mv ?_;refine qf ?_)
  ·all_goals (repeat' (first|refine qA ?_|refine qw rfl ?_|refine qx ?_|refine qy ?_|refine qo ?_|refine qi ?_|refine qj ?_))
   refine qH ⟨_,rfl,?_⟩
   refine ⟨.inl ⟨rfl,?_⟩,S.drop⟩
   rw [hv.us,hu.us] at z
   cases r;cases q;simp only [Rl.mk.injEq];exact ⟨z,z2⟩
  ·all_goals (repeat' (first|refine qA ?_|refine qw rfl ?_|refine qx ?_|refine qy ?_|refine qo ?_|refine qi ?_|refine qj ?_))
   refine qH ⟨_,rfl,?_⟩
   exact ⟨.inr ⟨rfl,fun e=>z2 (by rw [e])⟩,S.drop⟩
 ·all_goals (repeat' (first|refine qA ?_|refine qw rfl ?_|refine qx ?_|refine qy ?_|refine qo ?_|refine qi ?_|refine qj ?_))
  refine qH ⟨_,rfl,?_⟩
  exact ⟨.inr ⟨rfl,fun e=>z (by rw [hv.us,hu.us,e])⟩,S.drop⟩
theorem qbF {h0:AH} (w:WfH h0) {p:Nat} {r:Rl} (B:BkRd h0 p r) (H:RO r):Fn Tryz.prog Xh 39 [.pointer (some ⟨p,0,none⟩)] h0 (fun u h'=>∃ v:RlV,u=v.val∧v.gs.map (·.toGu)=r.us∧Hs h0 h' (Jz v r.ts)):=by
 have S:=Hs.start w
 obtain ⟨s,B⟩:=B
 have hb:=B.bk
 have hrg:=B.rg
 have hgl:=B.len
 have h64:=H.l64
 have h256:=H.l256
 refine zD rfl Tryz.func39 rfl rfl ?_
 all_goals (repeat' (first|refine qA ?_|refine qw rfl ?_|refine qx ?_|refine qy ?_|refine qo ?_|refine qi ?_|refine qj ?_|(refine qg 0 ?_;(refine al S ?_;clear S;intro b h S);refine qf ?_)|(refine qg 1 ?_;refine mv ?_)))
 (refine qM rfl rfl rfl rfl rfl ((WU S.wf (S.ext.get w hb)).mono ?_);rintro _ h ⟨rfl,x⟩)<;>(replace S:=S.zC x;clear x;refine qf ?_)
 obtain ⟨b2,hnm⟩:∃ x,x=b:=⟨_,rfl⟩;subst hnm
 all_goals (repeat' (first|refine qA ?_|refine qw rfl ?_|refine qx ?_|refine qy ?_|refine qo ?_|refine qi ?_|refine qj ?_|(refine qg 2 ?_;refine vl ?_;(first|(refine sB S rfl rfl ?_;clear S;intro h S)|(refine jm S rfl rfl ?_;clear S;intro h S));refine qf ?_)|(refine qg 3 ?_;(refine al S ?_;clear S;intro b h S);refine qf ?_)))
 obtain ⟨b3,hnm⟩:∃ x,x=b:=⟨_,rfl⟩;subst hnm
 have S:=((S.YU (e:=24) (z:=9) (enc:=eG))).anyS (p:=fun h fp=>Star h (([]:List ZC).map qap) fp) fun h'=>trivial
 replace S:Hs h0 h [XA [],.sl (SlV.val ⟨none,0,0⟩) 24 9 eG [],.blk b3 [SlV.val ⟨none,0,0⟩,.slice none 0 0] 32,.blk b2 [.slice none 0 0,.slice none 0 0] 32]:=S
 all_goals (repeat' (first|refine qA ?_|refine qw rfl ?_|refine qx ?_|refine qy ?_|refine qo ?_|refine qi ?_|refine qj ?_|(refine qg 4 ?_;refine mv ?_;refine vl ?_;(first|refine vl ?_|refine fB S ?_|refine fS S rfl rfl ?_|refine fA ?_);(first|refine vl ?_|refine fB S ?_|refine fS S rfl rfl ?_|refine fA ?_);(first|refine lB S rfl rfl ?_|refine qE S rfl rfl ?_|refine qO S ?_|refine lH S ?_);(first|refine Zq S ?_|refine Zp S rfl rfl ?_);refine mv ?_;refine qf ?_)))
 refine zU (σ:=Nat×SlV×List ZC) (fun (i,vg,gs) h'=>Hs h0 h' [XA gs,.sl vg.val 24 9 eG gs,.blk b3 [vg.val,.slice none 0 0] 32,.blk b2 [.slice none 0 0,.slice none 0 0] 32]∧i≤r.us.length∧gs.map (·.toGu)=r.us.take i) (fun (i,vg,gs)=>r.us.length - i) (fun (i,vg,gs)=>[(0,.pointer (some ⟨p,0,none⟩)),(2,.pointer (some ⟨b2,0,none⟩)),(3,.pointer (some ⟨b3,0,none⟩)),(13,s.vg.val),(14,.int .i64 s.gs.length),(15,.int .i64 i)]) (0,⟨none,0,0⟩,[]) zy ?_ ?_
 ·exact ⟨S,Nat.zero_le _,rfl⟩
 clear S
 rintro ⟨i,vg,gs⟩ h ⟨S,g1,g2⟩
 all_goals (repeat' (first|refine qA ?_|refine qw rfl ?_|refine qx ?_|refine qy ?_|refine qo ?_|refine qi ?_|refine qj ?_|(refine qg 5 ?_;(first|refine cT ?_|refine cF ?_|(refine cS ?_ ?_<;>intro hc))<;>(refine qf ?_))))
 ·have hil:i<s.gs.length:=by omega
  have hg:=B.g hil
  have h4:=(YC (H.chk _ (qR (show i<r.us.length by omega)))).2.2.2.1
  have hl4:(s.gs.getD i default).tg.length≤1000000:=by rw [hg];omega
  have hgs:gs.length≤64:=by have:=congrArg List.length g2;simp at this;omega
  all_goals (repeat' (first|refine qA ?_|refine qw rfl ?_|refine qx ?_|refine qy ?_|refine qo ?_|refine qi ?_|refine qj ?_|(refine qg 6 ?_;(first|refine zM S ?_|refine qW S rfl rfl ?_);(first|refine lB S rfl rfl ?_|refine qE S rfl rfl ?_|refine qO S ?_|refine lH S ?_);(refine al S ?_;clear S;intro b h S);(first|(refine sB S rfl rfl ?_;clear S;intro h S)|(refine jm S rfl rfl ?_;clear S;intro h S));refine qf ?_)))
  simp only [Int.toNat_natCast] at S
  simp only [Int.toNat_natCast]
  replace S:Hs h0 h [.blk b (eG (s.gs.getD i default)) 24,XA gs,.sl vg.val 24 9 eG gs,.blk b3 [vg.val,.slice none 0 0] 32,.blk b2 [.slice none 0 0,.slice none 0 0] 32]:=S
  (repeat (refine qA ?_));refine Zm (id:=7) [(1,(0,2))] [some (b3)] ?_;refine qB ?_;(first|(refine vl ?_<;>refine qf ⟨⟨by (first|exact True.intro|exact Or.inl rfl|exact Or.inr rfl|exact Or.inr (congrArg some (qh _ _ _ _))|exact ⟨Or.inl rfl,rfl⟩|exact ⟨Or.inr rfl,rfl⟩),rfl⟩,?_⟩)|(refine fB S ?_<;>refine qf ⟨⟨by (first|exact True.intro|exact Or.inl rfl|exact Or.inr rfl|exact Or.inr (congrArg some (qh _ _ _ _))|exact ⟨Or.inl rfl,rfl⟩|exact ⟨Or.inr rfl,rfl⟩),rfl⟩,?_⟩)|(refine fS S rfl rfl ?_<;>refine qf ⟨⟨by (first|exact True.intro|exact Or.inl rfl|exact Or.inr rfl|exact Or.inr (congrArg some (qh _ _ _ _))|exact ⟨Or.inl rfl,rfl⟩|exact ⟨Or.inr rfl,rfl⟩),rfl⟩,?_⟩)|(refine fA ?_<;>refine qf ⟨⟨by (first|exact True.intro|exact Or.inl rfl|exact Or.inr rfl|exact Or.inr (congrArg some (qh _ _ _ _))|exact ⟨Or.inl rfl,rfl⟩|exact ⟨Or.inr rfl,rfl⟩),rfl⟩,?_⟩));refine qB ?_;(first|(refine lB S rfl rfl ?_<;>refine qf ⟨⟨by (first|exact True.intro|exact Or.inl rfl|exact Or.inr rfl|exact Or.inr (congrArg some (qh _ _ _ _))|exact ⟨Or.inl rfl,rfl⟩|exact ⟨Or.inr rfl,rfl⟩),rfl⟩,?_⟩)|(refine qE S rfl rfl ?_<;>refine qf ⟨⟨by (first|exact True.intro|exact Or.inl rfl|exact Or.inr rfl|exact Or.inr (congrArg some (qh _ _ _ _))|exact ⟨Or.inl rfl,rfl⟩|exact ⟨Or.inr rfl,rfl⟩),rfl⟩,?_⟩)|(refine qO S ?_<;>refine qf ⟨⟨by (first|exact True.intro|exact Or.inl rfl|exact Or.inr rfl|exact Or.inr (congrArg some (qh _ _ _ _))|exact ⟨Or.inl rfl,rfl⟩|exact ⟨Or.inr rfl,rfl⟩),rfl⟩,?_⟩)|(refine lH S ?_<;>refine qf ⟨⟨by (first|exact True.intro|exact Or.inl rfl|exact Or.inr rfl|exact Or.inr (congrArg some (qh _ _ _ _))|exact ⟨Or.inl rfl,rfl⟩|exact ⟨Or.inr rfl,rfl⟩),rfl⟩,?_⟩));refine qB ?_;(first|(refine lB S rfl rfl ?_<;>refine qf ⟨⟨by (first|exact True.intro|exact Or.inl rfl|exact Or.inr rfl|exact Or.inr (congrArg some (qh _ _ _ _))|exact ⟨Or.inl rfl,rfl⟩|exact ⟨Or.inr rfl,rfl⟩),rfl⟩,?_⟩)|(refine qE S rfl rfl ?_<;>refine qf ⟨⟨by (first|exact True.intro|exact Or.inl rfl|exact Or.inr rfl|exact Or.inr (congrArg some (qh _ _ _ _))|exact ⟨Or.inl rfl,rfl⟩|exact ⟨Or.inr rfl,rfl⟩),rfl⟩,?_⟩)|(refine qO S ?_<;>refine qf ⟨⟨by (first|exact True.intro|exact Or.inl rfl|exact Or.inr rfl|exact Or.inr (congrArg some (qh _ _ _ _))|exact ⟨Or.inl rfl,rfl⟩|exact ⟨Or.inr rfl,rfl⟩),rfl⟩,?_⟩)|(refine lH S ?_<;>refine qf ⟨⟨by (first|exact True.intro|exact Or.inl rfl|exact Or.inr rfl|exact Or.inr (congrArg some (qh _ _ _ _))|exact ⟨Or.inl rfl,rfl⟩|exact ⟨Or.inr rfl,rfl⟩),rfl⟩,?_⟩))
  ((refine qB ?_;first|refine qM rfl rfl rfl rfl rfl ((yC S.wf (s.gs.getD i default) ((B.tg i hil).ext w S.ext) hl4).mono ?_));rintro _ h ⟨tv,rfl,x⟩)<;>((refine qf ⟨⟨True.intro,?_⟩,?_⟩;(focus ((show keepsX _ _ _ _ _;simp only [keepsX];(repeat' (first|exact True.intro|refine And.intro ?_ ?_));all_goals (intro hw;first|exact True.intro|exact rfl|exact x.ext.old _ S.bB|exact x.ext.old _ (S.bR (by first|omega|grind))|exact x.ext.old _ (S.bX (by assumption) (by assumption) (by first|omega|grind))|exact x.ext.old _ (S.bY (by assumption) (by assumption))|(refine x.ext.old _ ?_;assumption)|exact absurd hw (by decide +kernel))))));replace S:=S.QY x;clear x;refine qB ?_;(first|((refine one 9 S ?_;have S0:=S;clear S;intro u h S);refine qf ⟨⟨True.intro,?_⟩,?_⟩;(focus ((show keepsX _ _ _ _ _;simp only [keepsX];(repeat' (first|exact True.intro|refine And.intro ?_ ?_));all_goals (intro hw;first|exact True.intro|exact (S.gB).trans (S0.gB).symm|exact absurd hw (by decide +kernel)))));clear S0)))
  refine qB ?_;refine app (y0:={ s.gs.getD i default with tv:=tv }) S rfl rfl ?_;have S0:=S;clear S;intro v h S;obtain ⟨vg',rfl⟩:=S.sV v;refine qf ⟨⟨True.intro,?_⟩,?_⟩;(focus ((show keepsX _ _ _ _ _;simp only [keepsX];(repeat' (first|exact True.intro|refine And.intro ?_ ?_));all_goals (intro hw;first|exact True.intro|exact (S.gB).trans (S0.gB).symm|exact absurd hw (by decide +kernel)))));clear S0;(refine qB ?_;(first|(refine vl ?_<;>refine qf ⟨⟨by (first|exact True.intro|exact Or.inl rfl|exact Or.inr rfl|exact Or.inr (congrArg some (qh _ _ _ _))|exact ⟨Or.inl rfl,rfl⟩|exact ⟨Or.inr rfl,rfl⟩),rfl⟩,?_⟩)|(refine fB S ?_<;>refine qf ⟨⟨by (first|exact True.intro|exact Or.inl rfl|exact Or.inr rfl|exact Or.inr (congrArg some (qh _ _ _ _))|exact ⟨Or.inl rfl,rfl⟩|exact ⟨Or.inr rfl,rfl⟩),rfl⟩,?_⟩)|(refine fS S rfl rfl ?_<;>refine qf ⟨⟨by (first|exact True.intro|exact Or.inl rfl|exact Or.inr rfl|exact Or.inr (congrArg some (qh _ _ _ _))|exact ⟨Or.inl rfl,rfl⟩|exact ⟨Or.inr rfl,rfl⟩),rfl⟩,?_⟩)|(refine fA ?_<;>refine qf ⟨⟨by (first|exact True.intro|exact Or.inl rfl|exact Or.inr rfl|exact Or.inr (congrArg some (qh _ _ _ _))|exact ⟨Or.inl rfl,rfl⟩|exact ⟨Or.inr rfl,rfl⟩),rfl⟩,?_⟩));refine qB ?_;(first|((refine sB S rfl rfl ?_;have S0:=S;clear S;intro h S);refine qf ⟨⟨True.intro,?_⟩,?_⟩;(focus ((show keepsX _ _ _ _ _;simp only [keepsX];(repeat' (first|exact True.intro|refine And.intro ?_ ?_));all_goals (intro hw;first|exact True.intro|exact (S.gB).trans (S0.gB).symm|exact absurd hw (by decide +kernel)))));clear S0)|((refine jm S rfl rfl ?_;have S0:=S;clear S;intro h S);refine qf ⟨⟨True.intro,?_⟩,?_⟩;(focus ((show keepsX _ _ _ _ _;simp only [keepsX];(repeat' (first|exact True.intro|refine And.intro ?_ ?_));all_goals (intro hw;first|exact True.intro|exact (S.gB).trans (S0.gB).symm|exact absurd hw (by decide +kernel)))));clear S0));refine JI ?_)
  all_goals (repeat' (first|refine qA ?_|refine qw rfl ?_|refine qx ?_|refine qy ?_|refine qo ?_|refine qi ?_|refine qj ?_|(refine qg 8 ?_;(first|refine ad ?_|refine vl ?_);refine mv ?_;refine qf ?_)))
  refine ⟨(i+1,vg',gs ++ [{ s.gs.getD i default with tv:=tv }]),?_,?_,zy⟩
  ·show r.us.length - (i+1)<r.us.length - i;omega
  ·replace S:Hs h0 h (.sl vg'.val 24 9 eG (gs ++ [{ s.gs.getD i default with tv:=tv }]) :: .sl tv.val 9 1 eS (s.gs.getD i default).tg :: .blk b (eG (s.gs.getD i default)) 24 :: XA gs :: .blk b3 [vg'.val,.slice none 0 0] 32 :: .blk b2 [.slice none 0 0,.slice none 0 0] 32 :: []):=S
   have S:=(show Hs h0 h (.sl tv.val 9 1 eS (s.gs.getD i default).tg :: XA gs :: .sl vg'.val 24 9 eG (gs ++ [{ s.gs.getD i default with tv:=tv }]) :: .blk b3 [vg'.val,.slice none 0 0] 32 :: .blk b2 [.slice none 0 0,.slice none 0 0] 32 :: []) from S.pick)
   refine ⟨Hs.Ko (g:={ s.gs.getD i default with tv:=tv }) S,by (try dsimp only);omega,?_⟩
   dsimp only
   rw [jL (by omega),List.map_append,g2,← hg];rfl
 ·obtain rfl:i=r.us.length:=by omega
  rw [List.take_length] at g2
  all_goals (repeat' (first|refine qA ?_|refine qw rfl ?_|refine qx ?_|refine qy ?_|refine qo ?_|refine qi ?_|refine qj ?_|(refine qg 9 ?_;refine mv ?_;refine vl ?_;(first|refine vl ?_|refine fB S ?_|refine fS S rfl rfl ?_|refine fA ?_);(first|refine vl ?_|refine fB S ?_|refine fS S rfl rfl ?_|refine fA ?_);(first|refine lB S rfl rfl ?_|refine qE S rfl rfl ?_|refine qO S ?_|refine lH S ?_))))
  (refine qM rfl rfl rfl rfl rfl ((PY S.wf s.vt.val r.ts (B.rt.ext w S.ext) (by omega)).mono ?_);rintro v h x)<;>(replace S:=S.QY x;clear x;obtain ⟨vt',rfl⟩:=S.sV v;(first|refine vl ?_|refine fB S ?_|refine fS S rfl rfl ?_|refine fA ?_);(first|(refine sB S rfl rfl ?_;clear S;intro h S)|(refine jm S rfl rfl ?_;clear S;intro h S));refine qf ?_)
  all_goals (repeat' (first|refine qA ?_|refine qw rfl ?_|refine qx ?_|refine qy ?_|refine qo ?_|refine qi ?_|refine qj ?_|(refine qg 5 ?_;(first|refine cT ?_|refine cF ?_|(refine cS ?_ ?_<;>intro hc))<;>(refine qf ?_))|(refine qg 6 ?_;(first|refine zM S ?_|refine qW S rfl rfl ?_);(first|refine lB S rfl rfl ?_|refine qE S rfl rfl ?_|refine qO S ?_|refine lH S ?_);(refine al S ?_;clear S;intro b h S);(first|(refine sB S rfl rfl ?_;clear S;intro h S)|(refine jm S rfl rfl ?_;clear S;intro h S));refine qf ?_)|(refine qg 8 ?_;(first|refine ad ?_|refine vl ?_);refine mv ?_;refine qf ?_)|(refine qg 9 ?_;refine mv ?_;refine vl ?_;(first|refine vl ?_|refine fB S ?_|refine fS S rfl rfl ?_|refine fA ?_);(first|refine vl ?_|refine fB S ?_|refine fS S rfl rfl ?_|refine fA ?_);(first|refine lB S rfl rfl ?_|refine qE S rfl rfl ?_|refine qO S ?_|refine lH S ?_))|(refine qg 10 ?_;(first|refine lB S rfl rfl ?_|refine qE S rfl rfl ?_|refine qO S ?_|refine lH S ?_);(first|(refine sB S rfl rfl ?_;clear S;intro h S)|(refine jm S rfl rfl ?_;clear S;intro h S));refine qf ?_)))
  refine qH ⟨_,qN S rfl (by first|exact .here|exact .there .here|exact .there (.there .here)|exact .there (.there (.there .here))|exact .there (.there (.there (.there .here)))|exact .there (.there (.there (.there (.there .here))))) (by exact rfl) (by exact rfl),?_⟩
  refine ⟨⟨vg,vt',gs⟩,rfl,g2,?_⟩
  exact (show Hs h0 h [.sl vg.val 24 9 eG gs,.sl vt'.val 111 3 zW r.ts,XA gs] from S.pick)
end Go.Proofs.Xx
namespace Go.Proofs.Xx
open Go Go.Proofs
structure Chg (h h':AH) (b:Nat) (o:jy):Prop where
 at_:h'.get b=some o
 old:∀ j,j≠b→j<h.next→h'.get j=h.get j
 next:h.next≤h'.next
 wf:WfH h'
theorem Chg.trans {h h' h'':AH} {b:Nat} {o o':jy} (c:Chg h h' b o) (d:Chg h' h'' b o'):Chg h h'' b o' :=
 ⟨d.at_,fun j hj hn=>(d.old j hj (Nat.lt_of_lt_of_le hn c.next)).trans (c.old j hj hn),Nat.le_trans c.next d.next,d.wf⟩
theorem Kz {c:List Value} {o:Nat} (h:o≤c.length):splice c o []=c:=by simp [splice]
section
variable {P:Program} {X:Extern} {sz:Nat} {L L':Ks} {h:AH} {ops:Array Oper} {os:List Oper} {o:Oper} {R:Ks→AH→Prop}
theorem rwa {x y:Operand} {ts tx e e2:TypeId} {zc new cc:List Value} {by_ b o' n cap m z:Nat} {slk:Option Nat} {u:Value} {d:Tmp} (hb:h.get b=some (.cells cc e2 slk false)) (wf:WfH h) (hr:Rd h u z m new)
 (w:∀ h',Chg h h' b (.cells (splice cc (o'+n*z) new) e2 slk false)→KO P X sz ops os (L.put d (.slice (some ⟨b,o',none⟩) (n+m) cap)) h' R)
 (ho:o.op = .call { callee:=.builtin .append,args:=#[x,y],argTypes:=#[ts,tx] }:=by exact rfl) (hg:qC ops L.tree o.guard=some true:=by exact rfl) (hx:kA L x=some (.slice (some ⟨b,o',none⟩) n cap):=by exact rfl) (hy:kA L y=some u:=by exact rfl)
 (hs:qV P ts=some e:=by exact rfl) (hz:zg P e=some zc:=by exact rfl) (hzl:zc.length=z:=by exact rfl) (hby:Qj P e=some (by_+1):=by exact rfl) (hxs:P.underlying tx=some (.slice e):=by exact rfl)
 (hc:n+m≤cap:=by omega) (hcc:o'+cap*z≤cc.length:=by assumption) (h1:new.all one? = true:=by assumption) (hsz:(m+1)*(by_+1)≤140737488355328:=by omega) (hdst:o.dst=some d:=by exact rfl) (hds:Nat.blt d sz=true:=by exact rfl):KO P X sz ops (o :: os) L h R:=by
 subst hzl
 have hlen:=hr.length
 have hfit:o'+n*zc.length+new.length≤cc.length:=by
  rw [hlen,Nat.add_assoc,← Nat.add_mul]
  exact Nat.le_trans (Nat.add_le_add_left (Nat.mul_le_mul_right _ hc) _) hcc
 have k2:Nat.beq new.length (m*zc.length)=true:=by rw [hlen];simp
 have hsrc:Xp zc.length u h=some (m,new):=hr.source
 have go:∀ h',jI P [ts,tx] (.slice (some ⟨b,o',none⟩) n cap) u h=some (.slice (some ⟨b,o',none⟩) (n+m) cap,h')→Chg h h' b (.cells (splice cc (o'+n*zc.length) new) e2 slk false)→KO P X sz ops (o :: os) L h R:=fun h' q1 q2=>by
  refine zA (v:=.slice (some ⟨b,o',none⟩) (n+m) cap) (h':=h') hg ?_ (by simp only [qP,hdst,hds]) (w h' q2)
  rw [ho]
  simp [jg,qK hx,qK hy,jo,jl,q1,Qg]
 cases m with
 | zero =>
  have hn:new=[]:=List.length_eq_zero_iff.1 (by omega)
  subst hn
  refine go h ?_ ⟨by rw [Kz (by simp at hfit;omega)];exact hb,fun _ _ _=>rfl,Nat.le_refl _,wf⟩
  simp only [jI,hs,hxs,hz,hby,hsrc,Nat.ble_eq_true_of_le hsz,h1,k2,Bool.and_self,hb,Nat.ble_eq_true_of_le (show n≤cap from hc),Nat.add_zero]
 | succ m =>
  refine go (h.put b (.cells (splice cc (o'+n*zc.length) new) e2 slk false)) ?_ ⟨by rw [AH.get_put,if_pos rfl],fun j hj _=>by rw [AH.get_put,if_neg hj],Nat.le_refl _,wf.put (wf.lt hb) _⟩
  simp only [jI,hs,hxs,hz,hby,hsrc,Nat.ble_eq_true_of_le hsz,h1,k2,Bool.and_self,hb,Nat.ble_eq_true_of_le hc,putCells,Nat.ble_eq_true_of_le hfit]
end
variable [Flag]
end Go.Proofs.Xx
namespace Go.Proofs.Xx
open Go Go.Proofs
def qd8 (ts:List Ti) (a b:List UInt8):List Ti:=ts.filter fun t=>!decide (t.a=jV a b∧t.b=jW a b)
open Classical in
noncomputable def qd7 (r:Rl) (a b:List UInt8):Rl×Int:=if tied r.ts a b then (⟨r.us,qd8 r.ts a b⟩,0) else (r,6)
variable [Flag]
end Go.Proofs.Xx
namespace Go.Proofs.Xx
open Go Go.Proofs
theorem YM (a b:List UInt8):jV a b=jV b a:=by
 unfold jV
 rcases ZH a b with h|h|h
 ·rw [if_neg (zV h),if_pos h]
 ·subst h;rfl
 ·rw [if_pos h,if_neg (zV h)]
theorem YN (a b:List UInt8):jW a b=jW b a:=by
 unfold jW
 rcases ZH a b with h|h|h
 ·rw [if_pos h,if_neg (zV h)]
 ·subst h;rfl
 ·rw [if_neg (zV h),if_pos h]
theorem qbD {a b:List UInt8} (h:a≠b):jE (jV a b) (jW a b)∧((jV a b=a∧jW a b=b)∨(jV a b=b∧jW a b=a)):=by
 rcases ZH a b with q|q|q
 ·rw [Jw q,Jy q];exact ⟨q,.inl ⟨rfl,rfl⟩⟩
 ·exact absurd q h
 ·rw [YM,YN,Jw q,Jy q];exact ⟨q,.inr ⟨rfl,rfl⟩⟩
theorem qcH {ts:List Ti} (hs:TS ts) (y:Ti):∃ i,Plc ts y i:=by
 induction ts with
 | nil=>exact ⟨0,Nat.le_refl _,fun j hj=>absurd hj (Nat.not_lt_zero _),fun j _ hj=>absurd hj (Nat.not_lt_zero _)⟩
 | cons x r ih =>
  by_cases h:Zl x y
  ·obtain ⟨i,i1,i2,i3⟩:=ih (List.pairwise_cons.1 hs).2
   refine ⟨i+1,by simp;exact i1,fun j hj=>?_,fun j h1 h2=>?_⟩
   ·cases j with
    | zero=>exact h
    | succ j=>exact i2 j (by omega)
   ·cases j with
    | zero=>omega
    | succ j=>exact i3 j (by omega) (by simp at h2;omega)
  ·refine ⟨0,Nat.zero_le _,fun j hj=>absurd hj (Nat.not_lt_zero _),fun j _ hj q=>h ?_⟩
   rcases Nat.eq_zero_or_pos j with z|z
   ·subst z;exact q
   ·exact QN (hs.lt z hj) q
theorem Plc.kind {ts:List Ti} {a b:List UInt8} {k k':Int} {i:Nat} (h:Plc ts ⟨a,b,k⟩ i):Plc ts ⟨a,b,k'⟩ i:=⟨h.1,h.2.1,h.2.2⟩
theorem qcA {ts:List Ti} {a b:List UInt8} {k:Int} (hs:TS ts) (hn:¬ tied ts a b):∃ i,i≤ts.length∧yX ts (jK a b k)=ts.take i ++ jK a b k :: ts.drop i∧TS (yX ts (jK a b k)):=by
 obtain ⟨i,hi⟩:=qcH hs ⟨jV a b,jW a b,0⟩
 have e:=V9 (t:=jK a b k) (hi.kind (k':=k))
 refine ⟨i,hi.1,e,?_⟩
 rw [e,TS,List.pairwise_append]
 refine ⟨List.Pairwise.sublist (List.take_sublist i ts) hs,List.pairwise_cons.2 ⟨fun y hy=>?_,List.Pairwise.sublist (List.drop_sublist i ts) hs⟩,fun x hx y hy=>?_⟩
 ·obtain ⟨j,hj,rfl⟩:=qX.1 hy
  simp only [List.length_drop] at hj
  have ej:(ts.drop i).getD j default=ts.getD (i+j) default:=by
   rw [List.getD_eq_getElem?_getD,List.getD_eq_getElem?_getD,List.getElem?_drop]
  rw [ej]
  rcases vN (ts.getD (i+j) default) (jK a b k) with q|q|q
  ·exact absurd q (hi.2.2 (i+j) (by omega) (by omega))
  ·exact absurd ⟨_,qR (show i+j<ts.length by omega),q⟩ hn
  ·exact q
 ·obtain ⟨j,hj,rfl⟩:=qX.1 hx
  simp only [List.length_take] at hj
  rw [getD_take (by omega)]
  have h1:=hi.2.1 j (by omega)
  rcases List.mem_cons.1 hy with rfl|hy
  ·exact h1
  ·obtain ⟨m,hm,rfl⟩:=qX.1 hy
   simp only [List.length_drop] at hm
   have ej:(ts.drop i).getD m default=ts.getD (i+m) default:=by
    rw [List.getD_eq_getElem?_getD,List.getD_eq_getElem?_getD,List.getElem?_drop]
   rw [ej]
   exact hs.lt (by omega) (by omega)
theorem RO.tie {r:Rl} (H:RO r) {a b:List UInt8} {k:Int} (h:(ZE r a b k).2=0):RO (ZE r a b k).1:=by
 obtain ⟨h1,h2,h3,h4,h5,h6,h7⟩:=pY h
 rw [h7]
 obtain ⟨i,hi,e,hs⟩:=qcA (k:=k) H.ts h5
 obtain ⟨m1,m2⟩:=qbD h2
 refine ⟨H.chk,H.nd,H.l64,hs,fun t ht=>?_,?_⟩
 ·simp only at ht
  rw [e] at ht
  have:t∈r.ts∨t=jK a b k:=by
   rcases List.mem_append.1 ht with q|q
   ·exact .inl (List.mem_of_mem_take q)
   ·rcases List.mem_cons.1 q with q|q
    ·exact .inr q
    ·exact .inl (List.mem_of_mem_drop q)
  rcases this with q|rfl
  ·exact H.tt t q
  ·refine ⟨m1,h1,?_⟩
   rcases m2 with ⟨e1,e2⟩|⟨e1,e2⟩
   ·show Xx.gat r.us (jV a b)≠none∧Xx.gat r.us (jW a b)≠none
    rw [e1,e2];exact ⟨h3,h4⟩
   ·show Xx.gat r.us (jV a b)≠none∧Xx.gat r.us (jW a b)≠none
    rw [e1,e2];exact ⟨h4,h3⟩
 ·simp only
  rw [e];simp;omega
def Xz (ts:List Ti) (a b:List UInt8):Option Ti:=ts.find? fun t=>decide (t.a=jV a b∧t.b=jW a b)
theorem gY (ts:List Ti) (a b:List UInt8):Xz ts a b=Xz ts b a:=by unfold Xz;rw [YM a b,YN a b]
theorem Jt {ts:List Ti} {a b:List UInt8} {t:Ti} (h:Xz ts a b=some t):t∈ts∧t.a=jV a b∧t.b=jW a b:=by
 have h1:=List.find?_some h
 exact ⟨List.mem_of_find?_eq_some h,by simpa using h1⟩
theorem gX {ts:List Ti} {a b:List UInt8} (h:Xz ts a b=none):¬ tied ts a b:=by
 rintro ⟨t,ht,h1,h2⟩
 have:=List.find?_eq_none.1 h t ht
 simp [h1,h2] at this
theorem VQ {ts:List Ti} {a b:List UInt8} {t:Ti} (hs:TS ts) (ht:t∈ts) (h1:t.a=jV a b) (h2:t.b=jW a b):Xz ts a b=some t:=by
 cases h:Xz ts a b with
 | none=>exact absurd ⟨t,ht,h1,h2⟩ (gX h)
 | some u =>
  obtain ⟨hu,u1,u2⟩:=Jt h
  obtain ⟨i,hi,rfl⟩:=qX.1 ht
  obtain ⟨j,hj,rfl⟩:=qX.1 hu
  rcases Nat.lt_trichotomy i j with q|q|q
  ·rcases hs.lt q hj with y|y
   ·rw [h1,u1] at y;exact absurd y (zL _)
   ·rw [h2,u2] at y;exact absurd y.2 (zL _)
  ·rw [q]
  ·rcases hs.lt q hi with y|y
   ·rw [h1,u1] at y;exact absurd y (zL _)
   ·rw [h2,u2] at y;exact absurd y.2 (zL _)
def tkd (o:Option Ti):Value:=match o with|some t=>.tuple #[.int .u8 t.k,.bool true]|none=>.tuple #[.int .u8 0,.bool false]
variable [Flag]
end Go.Proofs.Xx
namespace Go.Proofs.Xx
open Go Go.Proofs
theorem P7 {r:Rl} {a b:List UInt8} {t:Ti} (h:Xz r.ts a b=some t):adj r t.k a b:=by
 obtain ⟨h1,h2,h3⟩:=Jt h
 refine ⟨t,h1,rfl,?_⟩
 by_cases q:jE b a
 ·have e1:jV a b=b:=if_pos q
  have e2:jW a b=a:=if_neg (zV q)
  exact .inr ⟨by rw [h3,e2],by rw [h2,e1]⟩
 ·have e1:jV a b=a:=if_neg q
  refine .inl ⟨by rw [h2,e1],?_⟩
  rw [h3];unfold jW
  split
  ·rfl
  ·rename_i q2
   rcases JW q with e|e
   ·exact e
   ·exact absurd e q2
variable [Flag]
end Go.Proofs.Xx
namespace Go.Proofs.Xx
open Go Go.Proofs
variable [Flag]
end Go.Proofs.Xx
namespace Go.Proofs.Xx
open Go Go.Proofs
section
variable {P:Program} {X:Extern} {sz:Nat} {L L':Ks} {h h0:AH} {rs:List Rs} {ops:Array Oper} {os:List Oper} {o:Oper} {R:Ks→AH→Prop}
end
variable [Flag]
end Go.Proofs.Xx
namespace Go.Proofs.Xx
open Go Go.Proofs
def qdK (n:List UInt8) (t:Ti):Prop:=t.a=n∨t.b=n
instance (n:List UInt8) (t:Ti):Decidable (qdK n t):=inferInstanceAs (Decidable (_∨_))
def cvN (b:Nat):Value:=.func (.func 92) #[] #[.pointer (some ⟨b,0,none⟩)]
def qes (n:List UInt8) (t:Ti):Bool:=!decide (qdK n t)
variable [Flag]
end Go.Proofs.Xx
namespace Go.Proofs.Xx
open Go Go.Proofs
variable [Flag]
end Go.Proofs.Xx
namespace Go.Proofs.Xx
open Go Go.Proofs
def cvC (b:Nat):Value:=.func (.func 78) #[] #[.pointer (some ⟨b,0,none⟩)]
def qet (g:ZC) (t:List UInt8):Bool:=decide (t∈g.tg)
def qey (r:Rl) (a b:List UInt8):List (List UInt8):=match gat r.us a,gat r.us b with
 | some i,some j=>(r.us.getD i default).tg.filter fun t=>decide (t∈(r.us.getD j default).tg)
 | _,_=>[]
def spk (r:Rl) (a b:List UInt8):Prop:=∃ i j,gat r.us a=some i∧gat r.us b=some j∧∃ t,t∈(r.us.getD i default).tg∧t∈(r.us.getD j default).tg
theorem spk.symm {r:Rl} {a b:List UInt8} (h:spk r a b):spk r b a:=by
 obtain ⟨i,j,h1,h2,t,h3,h4⟩:=h
 exact ⟨j,i,h2,h1,t,h4,h3⟩
theorem spk.kn {r:Rl} {a b:List UInt8} (h:spk r a b):gat r.us a≠none∧gat r.us b≠none:=by
 obtain ⟨i,j,h1,h2,t,h3,h4⟩:=h
 rw [h1,h2];simp
variable [Flag]
end Go.Proofs.Xx
namespace Go.Proofs.Xx
open Go Go.Proofs
theorem SS.eq:∀ {l m:List (List UInt8)},SS l→SS m→(∀ x,x∈l↔x∈m)→l=m:=by
 intro l m hl hm h
 have le:l.length=m.length:=Nat.le_antisymm (QL hl.nodup fun x hx=>(h x).1 hx) (QL hm.nodup fun x hx=>(h x).2 hx)
 apply YA le
 intro i
 induction i using Nat.strongRecOn with
 | _ i ih =>
  intro hi
  have key:∀ {a b:List (List UInt8)},SS a→SS b→(∀ x,x∈a→x∈b)→i<a.length→(∀ j,j<i→j<a.length→a.getD j default=b.getD j default)→¬ jE (a.getD i default) (b.getD i default):=fun {a b} ha hb hab hi hj q=>by
   obtain ⟨j,j1,j2⟩:=qX.1 (hab _ (qR hi))
   rcases Nat.lt_or_ge j i with z|z
   ·have:=hj j z (by omega)
    have n:=ha j i z hi
    rw [this,j2] at n
    exact zL _ n
   ·have:=hb.le z j1
    rw [j2] at this
    exact this q
  have k1:=key hl hm (fun x=>(h x).1) hi fun j hj hj2=>ih j hj hj2
  have k2:=key hm hl (fun x=>(h x).2) (by omega) fun j hj hj2=>(ih j hj (by omega)).symm
  rcases JW k1 with q|q
  ·exact q.symm
  ·exact absurd q k2
def btw (t:Ti) (a b:List UInt8):Prop:=(t.a=a∧t.b=b)∨(t.a=b∧t.b=a)
theorem PZ {r:Rl} (H:RO r) {a b:List UInt8} {t:Ti} (ht:t∈r.ts) (h:btw t a b):Xz r.ts a b=some t:=by
 have hlt:=(H.tt t ht).1
 rcases h with ⟨rfl,rfl⟩|⟨rfl,rfl⟩
 ·exact VQ H.ts ht (Jw hlt).symm (Jy hlt).symm
 ·rw [gY];exact VQ H.ts ht (Jw hlt).symm (Jy hlt).symm
theorem pX {r:Rl} {a b:List UInt8} {t:Ti} (h:Xz r.ts a b=some t):btw t a b:=by
 obtain ⟨x,h1,h2,h3⟩:=P7 h
 obtain ⟨g1,g2,g3⟩:=Jt h
 unfold btw
 by_cases q:jE b a
 ·have e1:jV a b=b:=if_pos q
  have e2:jW a b=a:=if_neg (zV q)
  exact .inr ⟨by rw [g2,e1],by rw [g3,e2]⟩
 ·have e1:jV a b=a:=if_neg q
  refine .inl ⟨by rw [g2,e1],?_⟩
  rw [g3];unfold jW
  split
  ·rfl
  ·rename_i q2
   rcases JW q with e|e
   ·exact e
   ·exact absurd e q2
variable [Flag]
theorem V7 {h0:AH} (w:WfH h0) (v:Value) (gs:List ZC) (hr:Qr h0 v 9 eG gs) (hl:gs.length≤9223372036854775807) (n:List UInt8):Fn Tryz.prog Xh 80 [v,str n] h0 (fun u h'=>((∃ i:Nat,gat (gs.map (·.toGu)) n=some i∧i<gs.length∧u = .int .i64 i)∨(gat (gs.map (·.toGu)) n=none∧u = .int .i64 (-1)))∧Hs h0 h' []):=by
 have S:=Hs.start w
 refine zD rfl Tryz.func80 rfl rfl ?_
 all_goals (repeat' (first|refine qA ?_|refine qw rfl ?_|refine qx ?_|refine qy ?_|refine qo ?_|refine qi ?_|refine qj ?_|(refine qg 0 ?_;refine mv ?_;refine qf ?_)|(refine qg 1 ?_;refine mv ?_;refine qf ?_)))
 refine zU (σ:=Nat) (fun i h'=>Hs h0 h' []∧i≤gs.length∧∀ j,j<i→(gs.getD j default).name≠n) (fun i=>gs.length - i) (fun i=>[(0,v),(1,str n),(5,.int .i64 i)]) 0 zy ?_ ?_
 ·exact ⟨S,Nat.zero_le _,fun j hj=>absurd hj (Nat.not_lt_zero _)⟩
 clear S
 rintro i h ⟨S,g1,g2⟩
 have e:∀ j,j<gs.length→((gs.map (fun g:ZC=>g.toGu)).getD j default).name=(gs.getD j default).name:=fun j hj=>by rw [zY (f:=fun g:ZC=>g.toGu) hj]
 all_goals (repeat' (first|refine qA ?_|refine qw rfl ?_|refine qx ?_|refine qy ?_|refine qo ?_|refine qi ?_|refine qj ?_|(refine qg 2 ?_;refine mv ?_;refine mv ?_;(first|refine Zq S ?_|refine Zp S rfl rfl ?_);(first|refine cT ?_|refine cF ?_|(refine cS ?_ ?_<;>intro hc))<;>(refine qf ?_))))
 ·have hil:i<gs.length:=by omega
  all_goals (repeat' (first|refine qA ?_|refine qw rfl ?_|refine qx ?_|refine qy ?_|refine qo ?_|refine qi ?_|refine qj ?_|(refine qg 4 ?_;refine mv ?_;refine mv ?_;(first|refine zM S ?_|refine qW S rfl rfl ?_);(first|refine vl ?_|refine fB S ?_|refine fS S rfl rfl ?_|refine fA ?_);(first|refine lB S rfl rfl ?_|refine qE S rfl rfl ?_|refine qO S ?_|refine lH S ?_);refine mv ?_;(refine tS ?_ ?_<;>intro hc)<;>(refine qf ?_))|(refine qg 5 ?_;refine mv ?_;refine mv ?_;refine qf ?_)))
  all_goals (try simp only [Int.toNat_natCast] at *)
  ·refine qH ⟨_,rfl,?_⟩
   refine ⟨.inl ⟨i,?_,hil,rfl⟩,S⟩
   cases hq:gat (gs.map (·.toGu)) n with
   | none=>exact absurd (by rw [e i hil];exact hc) (QZ.1 hq _ (qR (show i<(gs.map (·.toGu)).length by simp;exact hil)))
   | some k =>
    obtain ⟨h1,h2,h3⟩:=Yt hq
    simp only [List.length_map] at h1
    rw [e k h1] at h2
    rcases Nat.lt_trichotomy i k with q|q|q
    ·exact absurd (by rw [e i hil];exact hc) (h3 i q)
    ·rw [q]
    ·exact absurd h2 (g2 k q)
  ·all_goals (repeat' (first|refine qA ?_|refine qw rfl ?_|refine qx ?_|refine qy ?_|refine qo ?_|refine qi ?_|refine qj ?_|(refine qg 3 ?_;refine mv ?_;(first|refine ad ?_|refine vl ?_);refine mv ?_;refine qf ?_)))
   refine ⟨i+1,?_,?_,zy⟩
   ·show gs.length - (i+1)<gs.length - i;omega
   ·exact ⟨S,by omega,Xt g2 hc⟩
 ·skip
  all_goals (repeat' (first|refine qA ?_|refine qw rfl ?_|refine qx ?_|refine qy ?_|refine qo ?_|refine qi ?_|refine qj ?_|(refine qg 6 ?_;refine mv ?_;refine qf ?_)))
  refine qH ⟨_,rfl,?_⟩
  refine ⟨.inr ⟨QZ.2 fun g hg=>?_,rfl⟩,S⟩
  obtain ⟨j,hj,rfl⟩:=qX.1 hg
  simp only [List.length_map] at hj
  rw [e j hj];exact g2 j (by omega)
theorem qbZ {h0:AH} (w:WfH h0) (v:Value) (ts:List Ti) (hr:Qr h0 v 3 zW ts) (hl:ts.length≤9223372036854775807) (a b:List UInt8):Fn Tryz.prog Xh 131 [v,str a,str b] h0 (fun u h'=>((∃ i:Nat,i<ts.length∧btw (ts.getD i default) a b∧(∀ j,j<i→¬ btw (ts.getD j default) a b)∧u = .int .i64 i)∨((∀ j,j<ts.length→¬ btw (ts.getD j default) a b)∧u = .int .i64 (-1)))∧Hs h0 h' []):=by
 have S:=Hs.start w
 refine zD rfl Tryz.func131 rfl rfl ?_
 all_goals (repeat' (first|refine qA ?_|refine qw rfl ?_|refine qx ?_|refine qy ?_|refine qo ?_|refine qi ?_|refine qj ?_|(refine qg 0 ?_;refine mv ?_;refine qf ?_)|(refine qg 1 ?_;refine mv ?_;refine qf ?_)))
 refine zU (σ:=Nat) (fun i h'=>Hs h0 h' []∧i≤ts.length∧∀ j,j<i→¬ btw (ts.getD j default) a b) (fun i=>ts.length - i) (fun i=>[(0,v),(1,str a),(2,str b),(7,.int .i64 i)]) 0 zy ?_ ?_
 ·exact ⟨S,Nat.zero_le _,fun j hj=>absurd hj (Nat.not_lt_zero _)⟩
 clear S
 rintro i h ⟨S,g1,g2⟩
 all_goals (repeat' (first|refine qA ?_|refine qw rfl ?_|refine qx ?_|refine qy ?_|refine qi ?_|refine qj ?_|(refine qg 2 ?_;refine mv ?_;refine mv ?_;(first|refine Zq S ?_|refine Zp S rfl rfl ?_);(first|refine cT ?_|refine cF ?_|(refine cS ?_ ?_<;>intro hc))<;>(refine qf ?_))))
 ·have hil:i<ts.length:=by omega
  (repeat (refine qA ?_));first|refine qcg (σ:=Unit) (fun _ h'=>Hs h0 h' []∧¬ btw (ts.getD i default) a b) (fun _=>[(0,v),(1,str a),(2,str b),(7,.int .i64 i)]) ?_ ?_|refine qcw (σ:=Unit) (fun _ h'=>Hs h0 h' []∧¬ btw (ts.getD i default) a b) (fun _=>[(0,v),(1,str a),(2,str b),(7,.int .i64 i)]) ?_ ?_
  ·all_goals (repeat' (first|refine qA ?_|refine qw rfl ?_|refine qx ?_|refine qy ?_|refine qo ?_|refine qi ?_|refine qj ?_|(refine qg 4 ?_;refine mv ?_;refine mv ?_;(first|refine zM S ?_|refine qW S rfl rfl ?_);(first|refine vl ?_|refine fB S ?_|refine fS S rfl rfl ?_|refine fA ?_);(first|refine lB S rfl rfl ?_|refine qE S rfl rfl ?_|refine qO S ?_|refine lH S ?_);refine mv ?_;(refine tS ?_ ?_<;>intro hc)<;>(refine mv ?_;(first|refine off ?_|refine mv ?_);(first|refine off ?_|refine mv ?_);(first|refine off ?_|(first|refine zM S ?_|refine qW S rfl rfl ?_));(first|refine off ?_|(first|refine vl ?_|refine fB S ?_|refine fS S rfl rfl ?_|refine fA ?_));(first|refine off ?_|(first|refine lB S rfl rfl ?_|refine qE S rfl rfl ?_|refine qO S ?_|refine lH S ?_));(first|refine off ?_|refine mv ?_);(first|refine off ?_|(refine tS ?_ ?_<;>intro hc))<;>(refine vl ?_;refine mv ?_;(first|refine off ?_|refine mv ?_);(first|refine off ?_|refine mv ?_);(first|refine off ?_|(first|refine zM S ?_|refine qW S rfl rfl ?_));(first|refine off ?_|(first|refine vl ?_|refine fB S ?_|refine fS S rfl rfl ?_|refine fA ?_));(first|refine off ?_|(first|refine lB S rfl rfl ?_|refine qE S rfl rfl ?_|refine qO S ?_|refine lH S ?_));(first|refine off ?_|refine mv ?_);(first|refine off ?_|(refine tS ?_ ?_<;>intro hc))<;>((first|refine off ?_|refine mv ?_);(first|refine off ?_|refine mv ?_);(first|refine off ?_|refine mv ?_);(first|refine off ?_|(first|refine zM S ?_|refine qW S rfl rfl ?_));(first|refine off ?_|(first|refine vl ?_|refine fB S ?_|refine fS S rfl rfl ?_|refine fA ?_));(first|refine off ?_|(first|refine lB S rfl rfl ?_|refine qE S rfl rfl ?_|refine qO S ?_|refine lH S ?_));(first|refine off ?_|refine mv ?_);(first|refine off ?_|(refine tS ?_ ?_<;>intro hc))<;>((first|refine off ?_|refine vl ?_);refine vl ?_;refine qf ?_)))))|(refine qg 5 ?_;refine mv ?_;refine mv ?_;refine qf ?_)))
   all_goals (try simp only [Int.toNat_natCast] at *)
   all_goals first
    | exact ⟨(),⟨S,by unfold btw;grind⟩,(zy)⟩
    | (refine qH ⟨_,rfl,?_⟩;exact ⟨.inl ⟨i,hil,by unfold btw;grind,g2,rfl⟩,S⟩)
  ·clear S
   rintro - h ⟨S,hb⟩
   skip
   all_goals (repeat' (first|refine qA ?_|refine qw rfl ?_|refine qx ?_|refine qy ?_|refine qo ?_|refine qi ?_|refine qj ?_|(refine qg 3 ?_;refine mv ?_;(first|refine ad ?_|refine vl ?_);refine mv ?_;refine qf ?_)))
   refine ⟨i+1,?_,?_,zy⟩
   ·show ts.length - (i+1)<ts.length - i;omega
   ·exact ⟨S,by omega,Xt g2 hb⟩
 ·skip
  all_goals (repeat' (first|refine qA ?_|refine qw rfl ?_|refine qx ?_|refine qy ?_|refine qo ?_|refine qi ?_|refine qj ?_|(refine qg 6 ?_;refine mv ?_;refine qf ?_)))
  refine qH ⟨_,rfl,?_⟩
  exact ⟨.inr ⟨fun j hj=>g2 j (by omega),rfl⟩,S⟩
theorem qaZ {h0:AH} (w:WfH h0) (v:Value) (l:List (List UInt8)) (hr:Qr h0 v 1 eS l) (hl:l.length≤8796093021952):Fn Tryz.prog Xh 124 [v] h0 (fun u h'=>Hs h0 h' [.sl u 9 1 eS l]):=by
 have S:=Hs.start w
 refine zD rfl Tryz.func124 rfl rfl ?_
 all_goals (repeat' (first|refine qA ?_|refine qw rfl ?_|refine qx ?_|refine qy ?_|refine qo ?_|refine qi ?_|refine qj ?_|(refine qg 0 ?_;refine mv ?_;refine qf ?_)|(refine qg 1 ?_;refine mv ?_;refine qf ?_)|(refine qg 2 ?_;refine mv ?_;refine qf ?_)))
 have S:=S.YU (e:=9) (z:=1) (enc:=eS)
 refine zU (σ:=Nat×Value) (fun (i,v3) h'=>Hs h0 h' [.sl v3 9 1 eS (l.take i)]∧i≤l.length) (fun (i,v3)=>l.length - i) (fun (i,v3)=>[(0,v),(3,v3),(4,.int .i64 i)]) (0,.slice none 0 0) zy ?_ ?_
 ·exact ⟨S,Nat.zero_le _⟩
 clear S
 rintro ⟨i,v3⟩ h ⟨S,g1⟩
 have htl:(l.take i).length≤8796093021952:=by simp;omega
 all_goals (repeat' (first|refine qA ?_|refine qw rfl ?_|refine qx ?_|refine qy ?_|refine qo ?_|refine qi ?_|refine qj ?_|(refine qg 3 ?_;refine mv ?_;refine mv ?_;(first|refine Zq S ?_|refine Zp S rfl rfl ?_);(first|refine cT ?_|refine cF ?_|(refine cS ?_ ?_<;>intro hc))<;>(refine qf ?_))))
 ·have hil:i<l.length:=by omega
  all_goals (repeat' (first|refine qA ?_|refine qw rfl ?_|refine qx ?_|refine qy ?_|refine qo ?_|refine qi ?_|refine qj ?_|(refine qg 5 ?_;(iterate 3 refine mv ?_);(first|refine zM S ?_|refine qW S rfl rfl ?_);(first|refine lB S rfl rfl ?_|refine qE S rfl rfl ?_|refine qO S ?_|refine lH S ?_);(refine one 1 S ?_;clear S;intro u h S))))
  simp only [Int.toNat_natCast] at *
  refine app (y0:=l.getD i default) S rfl rfl ?_;clear S;intro v3 h S;(refine mv ?_;refine qf ?_)
  all_goals (repeat' (first|refine qA ?_|refine qw rfl ?_|refine qx ?_|refine qy ?_|refine qo ?_|refine qi ?_|refine qj ?_|(refine qg 4 ?_;refine mv ?_;(first|refine ad ?_|refine vl ?_);refine mv ?_;refine qf ?_)))
  refine ⟨(i+1,v3),?_,?_,zy⟩
  ·show l.length - (i+1)<l.length - i;omega
  ·refine ⟨?_,by (try dsimp only);omega⟩
   dsimp only
   rw [jL hil];exact S
 ·obtain rfl:i=l.length:=by omega
  rw [List.take_length] at S
  skip
  all_goals (repeat' (first|refine qA ?_|refine qw rfl ?_|refine qx ?_|refine qy ?_|refine qo ?_|refine qi ?_|refine qj ?_|(refine qg 6 ?_;refine mv ?_;refine mv ?_;refine qf ?_)))
  refine qH ⟨_,rfl,?_⟩
  exact S
end Go.Proofs.Xx
namespace Go.Proofs.Xx
open Go Go.Proofs
structure TGd (r:Rl) (i:Nat):Prop where
 k:(r.ts.getD i default).k=1∨(r.ts.getD i default).k=2
 lt:jE (r.ts.getD i default).a (r.ts.getD i default).b
 pl:i=0∨¬ Zl (r.ts.getD i default) (r.ts.getD (i - 1) default)
theorem TGd.eq {r:Rl} {i:Nat} (g:TGd r i):tE0 r i=(ZE ⟨r.us,r.ts.take i⟩ (r.ts.getD i default).a (r.ts.getD i default).b (r.ts.getD i default).k).2:=by
 unfold tE0;rw [if_pos ⟨g.lt,g.pl⟩]
theorem TGd.nk {r:Rl} {i:Nat} (g:TGd r i):¬ (((r.ts.getD i default).k≠1∧(r.ts.getD i default).k≠2)∨(r.ts.getD i default).a=(r.ts.getD i default).b):=by
 rintro (q|q)
 ·have:=g.k;omega
 ·exact V3 g.lt q
theorem TGd.e6 {r:Rl} {i:Nat} (g:TGd r i) (h:gat r.us (r.ts.getD i default).a=none∨gat r.us (r.ts.getD i default).b=none):tE0 r i=6:=by
 rw [g.eq,VS (r:=⟨r.us,r.ts.take i⟩) g.nk h]
theorem TGd.tied {r:Rl} {i:Nat} (g:TGd r i) (hi:i<r.ts.length) (hp:TS (r.ts.take i)):tied (r.ts.take i) (r.ts.getD i default).a (r.ts.getD i default).b↔(0<i∧¬ Zl (r.ts.getD (i - 1) default) (r.ts.getD i default)):=by
 unfold Xx.tied
 rw [Jw g.lt,Jy g.lt]
 have hl:(r.ts.take i).length=i:=by simp;omega
 constructor
 ·rintro ⟨t,h1,h2,h3⟩
  obtain ⟨j,j1,j2⟩:=qX.1 h1
  rw [hl] at j1
  rw [getD_take j1] at j2
  refine ⟨by omega,fun q=>?_⟩
  have hb:Zl t (r.ts.getD i default):=by
   rcases Nat.eq_or_lt_of_le (show j≤i - 1 by omega) with e|e
   ·rw [← j2,e];exact q
   ·have:=hp.lt e (by rw [hl];omega)
    rw [getD_take j1,getD_take (by omega),j2] at this
    exact QN this q
  rcases hb with q|q
  ·rw [h2] at q;exact zL _ q
  ·rw [h3] at q;exact zL _ q.2
 ·rintro ⟨h0,h1⟩
  rcases vN (r.ts.getD (i - 1) default) (r.ts.getD i default) with q|q|q
  ·exact absurd q h1
  ·refine ⟨r.ts.getD (i - 1) default,?_,q⟩
   have:=qR (l:=r.ts.take i) (i:=i - 1) (by rw [hl];omega)
   rwa [getD_take (by omega)] at this
  ·exact absurd q (g.pl.resolve_left (by omega))
theorem TGd.e5 {r:Rl} {i:Nat} (g:TGd r i) (hi:i<r.ts.length) (hp:TS (r.ts.take i)) (h:¬ (gat r.us (r.ts.getD i default).a=none∨gat r.us (r.ts.getD i default).b=none)) (hb:0<i∧¬ Zl (r.ts.getD (i - 1) default) (r.ts.getD i default)):tE0 r i=5:=by
 rw [g.eq,yL (r:=⟨r.us,r.ts.take i⟩) g.nk h ((g.tied hi hp).2 hb)]
theorem TGd.e7 {r:Rl} {i:Nat} (g:TGd r i) (hi:i<r.ts.length) (hp:TS (r.ts.take i)) (h:¬ (gat r.us (r.ts.getD i default).a=none∨gat r.us (r.ts.getD i default).b=none)) (hb:¬ (0<i∧¬ Zl (r.ts.getD (i - 1) default) (r.ts.getD i default))) (h7:256≤i):tE0 r i=7:=by
 rw [g.eq,yK (r:=⟨r.us,r.ts.take i⟩) g.nk h (fun q=>hb ((g.tied hi hp).1 q)) (by simp;omega)]
theorem TGd.e0 {r:Rl} {i:Nat} (g:TGd r i) (hi:i<r.ts.length) (hp:TS (r.ts.take i)) (h:¬ (gat r.us (r.ts.getD i default).a=none∨gat r.us (r.ts.getD i default).b=none)) (hb:¬ (0<i∧¬ Zl (r.ts.getD (i - 1) default) (r.ts.getD i default))) (h7:¬ 256≤i):tE0 r i=0:=by
 rw [g.eq,yN (r:=⟨r.us,r.ts.take i⟩) g.nk h (fun q=>hb ((g.tied hi hp).1 q)) (by simp;omega)]
variable [Flag]
theorem P5 {h0:AH} (w:WfH h0) (x y:Ti):Fn Tryz.prog Xh 81 [tiV x,tiV y] h0 (fun u h'=>Z7 u (Zl x y)∧Hs h0 h' []):=by
 have S:=Hs.start w
 unfold tiV
 refine zD rfl Tryz.func81 rfl rfl ?_
 all_goals (repeat' (first|refine qA ?_|refine qw rfl ?_|refine qx ?_|refine qy ?_|refine qo ?_|refine qi ?_|refine qj ?_|(refine qg 0 ?_;(refine bx S ?_;clear S;intro b h S);(refine bx S ?_;clear S;intro b h S);refine mv ?_;refine qf ?_)|(refine qg 1 ?_;(first|refine vl ?_|refine fB S ?_|refine fS S rfl rfl ?_|refine fA ?_);(first|refine lB S rfl rfl ?_|refine qE S rfl rfl ?_|refine qO S ?_|refine lH S ?_);(first|refine vl ?_|refine fB S ?_|refine fS S rfl rfl ?_|refine fA ?_);(first|refine lB S rfl rfl ?_|refine qE S rfl rfl ?_|refine qO S ?_|refine lH S ?_);(refine tO ?_ ?_<;>intro hc)<;>(refine mv ?_;(first|refine off ?_|(first|refine vl ?_|refine fB S ?_|refine fS S rfl rfl ?_|refine fA ?_));(first|refine off ?_|(first|refine lB S rfl rfl ?_|refine qE S rfl rfl ?_|refine qO S ?_|refine lH S ?_));(first|refine off ?_|(first|refine vl ?_|refine fB S ?_|refine fS S rfl rfl ?_|refine fA ?_));(first|refine off ?_|(first|refine lB S rfl rfl ?_|refine qE S rfl rfl ?_|refine qO S ?_|refine lH S ?_));(first|refine off ?_|(refine tS ?_ ?_<;>intro hc))<;>((first|refine off ?_|refine mv ?_);(first|refine off ?_|(first|refine vl ?_|refine fB S ?_|refine fS S rfl rfl ?_|refine fA ?_));(first|refine off ?_|(first|refine lB S rfl rfl ?_|refine qE S rfl rfl ?_|refine qO S ?_|refine lH S ?_));(first|refine off ?_|(first|refine vl ?_|refine fB S ?_|refine fS S rfl rfl ?_|refine fA ?_));(first|refine off ?_|(first|refine lB S rfl rfl ?_|refine qE S rfl rfl ?_|refine qO S ?_|refine lH S ?_));(first|refine off ?_|(refine tO ?_ ?_<;>intro hc))<;>((first|refine off ?_|refine vl ?_);refine vl ?_;refine mv ?_;refine qf ?_))))))
 all_goals (refine qH ⟨_,rfl,?_⟩)
 all_goals first
  | exact ⟨.inl ⟨rfl,by unfold Zl;grind⟩,S.drop⟩
  | exact ⟨.inr ⟨rfl,by unfold Zl;grind⟩,S.drop⟩
end Go.Proofs.Xx
namespace Go.Proofs.Xx
open Go Go.Proofs
variable [Flag]
theorem qcT {h0:AH} (w:WfH h0) (v:Value) (l:List Ti) (hr:Qr h0 v 3 zW l) (hl:l.length*40≤140737488351232):Fn Tryz.prog Xh 99 [v] h0 (fun u h'=>Hs h0 h' [.sl u 111 3 zW l]):=by
 have S:=Hs.start w
 refine zD rfl Tryz.func99 rfl rfl ?_
 all_goals (repeat' (first|refine qA ?_|refine qw rfl ?_|refine qx ?_|refine qy ?_|refine qo ?_|refine qi ?_|refine qj ?_|(refine qg 0 ?_;refine mv ?_;refine qf ?_)|(refine qg 1 ?_;refine mv ?_;refine qf ?_)|(refine qg 2 ?_;refine mv ?_;refine qf ?_)))
 have S:=S.YU (e:=111) (z:=3) (enc:=zW)
 refine zU (σ:=Nat×Value) (fun (i,v3) h'=>Hs h0 h' [.sl v3 111 3 zW (l.take i)]∧i≤l.length) (fun (i,v3)=>l.length - i) (fun (i,v3)=>[(0,v),(3,v3),(4,.int .i64 i)]) (0,.slice none 0 0) zy ?_ ?_
 ·exact ⟨S,Nat.zero_le _⟩
 clear S
 rintro ⟨i,v3⟩ h ⟨S,g1⟩
 have htl:(l.take i).length=i:=by simp;omega
 all_goals (repeat' (first|refine qA ?_|refine qw rfl ?_|refine qx ?_|refine qy ?_|refine qo ?_|refine qi ?_|refine qj ?_|(refine qg 3 ?_;refine mv ?_;refine mv ?_;(first|refine Zq S ?_|refine Zp S rfl rfl ?_);(first|refine cT ?_|refine cF ?_|(refine cS ?_ ?_<;>intro hc))<;>(refine qf ?_))))
 ·have hil:i<l.length:=by omega
  all_goals (repeat' (first|refine qA ?_|refine qw rfl ?_|refine qx ?_|refine qy ?_|refine qo ?_|refine qi ?_|refine qj ?_|(refine qg 5 ?_;(iterate 3 refine mv ?_);(first|refine zM S ?_|refine qW S rfl rfl ?_);(first|refine lB S rfl rfl ?_|refine qE S rfl rfl ?_|refine qO S ?_|refine lH S ?_);(refine one 3 S ?_;clear S;intro u h S))))
  simp only [Int.toNat_natCast] at *
  refine app (y0:=l.getD i default) S rfl rfl ?_;clear S;intro v3 h S;(refine mv ?_;refine qf ?_)
  all_goals (repeat' (first|refine qA ?_|refine qw rfl ?_|refine qx ?_|refine qy ?_|refine qo ?_|refine qi ?_|refine qj ?_|(refine qg 4 ?_;refine mv ?_;(first|refine ad ?_|refine vl ?_);refine mv ?_;refine qf ?_)))
  refine ⟨(i+1,v3),?_,?_,zy⟩
  ·show l.length - (i+1)<l.length - i;omega
  ·refine ⟨?_,by (try dsimp only);omega⟩
   dsimp only
   rw [jL hil];exact S
 ·obtain rfl:i=l.length:=by omega
  rw [List.take_length] at S
  skip
  all_goals (repeat' (first|refine qA ?_|refine qw rfl ?_|refine qx ?_|refine qy ?_|refine qo ?_|refine qi ?_|refine qj ?_|(refine qg 6 ?_;refine mv ?_;refine mv ?_;refine qf ?_)))
  refine qH ⟨_,rfl,?_⟩
  exact S
theorem qa3 {h0:AH} (w:WfH h0) (g:ZC) (rd:Qr h0 g.tv.val 1 eS g.tg) (hl:g.tg.length≤8796093021952):Fn Tryz.prog Xh 103 [gV g] h0 (fun u h'=>∃ tv:SlV,u=gV { g with tv:=tv }∧Hs h0 h' [.sl tv.val 9 1 eS g.tg]):=by
 have S:=Hs.start w
 obtain ⟨⟨n1,n2,n3,n4,n5,n6,n7,n8,n9⟩,n10⟩:=g
 unfold gV
 dsimp only at *
 refine zD rfl Tryz.func103 rfl rfl ?_
 all_goals (repeat' (first|refine qA ?_|refine qw rfl ?_|refine qx ?_|refine qy ?_|refine qo ?_|refine qi ?_|refine qj ?_|(refine qg 0 ?_;(refine bx S ?_;clear S;intro b h S);(refine al S ?_;clear S;intro b h S);refine qf ?_)))
 obtain ⟨b1,hnm⟩:∃ x,x=b:=⟨_,rfl⟩;subst hnm
 all_goals (repeat' (first|refine qA ?_|refine qw rfl ?_|refine qx ?_|refine qy ?_|refine qo ?_|refine qi ?_|refine qj ?_|(refine qg 1 ?_;(first|refine vl ?_|refine fB S ?_|refine fS S rfl rfl ?_|refine fA ?_);(first|refine lB S rfl rfl ?_|refine qE S rfl rfl ?_|refine qO S ?_|refine lH S ?_))))
 (refine qM rfl rfl rfl rfl rfl ((qaZ S.wf n10.val n9 (rd.ext w S.ext) hl).mono ?_);rintro v h x)<;>(replace S:=S.QY x;clear x;obtain ⟨tv,rfl⟩:=S.sV v;(first|refine vl ?_|refine fB S ?_|refine fS S rfl rfl ?_|refine fA ?_);(first|(refine sB S rfl rfl ?_;clear S;intro h S)|(refine jm S rfl rfl ?_;clear S;intro h S));refine qf ?_)
 all_goals (repeat' (first|refine qA ?_|refine qw rfl ?_|refine qx ?_|refine qy ?_|refine qo ?_|refine qi ?_|refine qj ?_|(refine qg 0 ?_;(refine bx S ?_;clear S;intro b h S);(refine al S ?_;clear S;intro b h S);refine qf ?_)|(refine qg 1 ?_;(first|refine vl ?_|refine fB S ?_|refine fS S rfl rfl ?_|refine fA ?_);(first|refine lB S rfl rfl ?_|refine qE S rfl rfl ?_|refine qO S ?_|refine lH S ?_))|(refine qg 2 ?_;(first|refine lB S rfl rfl ?_|refine qE S rfl rfl ?_|refine qO S ?_|refine lH S ?_);(first|(refine sB S rfl rfl ?_;clear S;intro h S)|(refine jm S rfl rfl ?_;clear S;intro h S));refine qf ?_)))
 refine qH ⟨_,qN S rfl (by first|exact .here|exact .there .here|exact .there (.there .here)|exact .there (.there (.there .here))|exact .there (.there (.there (.there .here)))|exact .there (.there (.there (.there (.there .here))))) (by exact rfl) (by exact rfl),?_⟩
 exact ⟨tv,rfl,S.only .here⟩
theorem pg {h0:AH} (w:WfH h0) (v:Value) (l:List ZC) (hr:Qr h0 v 9 eG l) (ht:∀ i,i<l.length→Qr h0 (l.getD i default).tv.val 1 eS (l.getD i default).tg∧(l.getD i default).tg.length≤8796093021952) (hl:l.length*112≤140737488351232):Fn Tryz.prog Xh 98 [v] h0 (fun u h'=>∃ (vg:SlV) (gs:List ZC),u=vg.val∧gs.map (·.toGu)=l.map (·.toGu)∧Hs h0 h' [XA gs,.sl vg.val 24 9 eG gs]):=by
 have S:=Hs.start w
 refine zD rfl Tryz.func98 rfl rfl ?_
 all_goals (repeat' (first|refine qA ?_|refine qw rfl ?_|refine qx ?_|refine qy ?_|refine qo ?_|refine qi ?_|refine qj ?_|(refine qg 0 ?_;refine mv ?_;refine qf ?_)|(refine qg 1 ?_;refine mv ?_;refine qf ?_)|(refine qg 2 ?_;refine mv ?_;refine qf ?_)))
 have S:=((S.YU (e:=24) (z:=9) (enc:=eG))).anyS (p:=fun h fp=>Star h (([]:List ZC).map qap) fp) fun h'=>trivial
 replace S:Hs h0 h0 [XA [],.sl (SlV.val ⟨none,0,0⟩) 24 9 eG []]:=S
 refine zU (σ:=Nat×SlV×List ZC) (fun (i,vg,gs) h'=>Hs h0 h' [XA gs,.sl vg.val 24 9 eG gs]∧i≤l.length∧gs.map (·.toGu)=(l.take i).map (·.toGu)) (fun (i,vg,gs)=>l.length - i) (fun (i,vg,gs)=>[(0,v),(3,vg.val),(4,.int .i64 i)]) (0,⟨none,0,0⟩,[]) zy ?_ ?_
 ·exact ⟨S,Nat.zero_le _,rfl⟩
 clear S
 rintro ⟨i,vg,gs⟩ h ⟨S,g1,g2⟩
 have hgs:gs.length=i:=by have:=congrArg List.length g2;simp at this;omega
 all_goals (repeat' (first|refine qA ?_|refine qw rfl ?_|refine qx ?_|refine qy ?_|refine qo ?_|refine qi ?_|refine qj ?_|(refine qg 3 ?_;refine mv ?_;refine mv ?_;(first|refine Zq S ?_|refine Zp S rfl rfl ?_);(first|refine cT ?_|refine cF ?_|(refine cS ?_ ?_<;>intro hc))<;>(refine qf ?_))))
 ·have hil:i<l.length:=by omega
  all_goals (repeat' (first|refine qA ?_|refine qw rfl ?_|refine qx ?_|refine qy ?_|refine qo ?_|refine qi ?_|refine qj ?_|(refine qg 5 ?_;(iterate 3 refine mv ?_);(first|refine zM S ?_|refine qW S rfl rfl ?_);(first|refine lB S rfl rfl ?_|refine qE S rfl rfl ?_|refine qO S ?_|refine lH S ?_))))
  simp only [Int.toNat_natCast]
  (refine qM rfl rfl rfl rfl rfl ((qa3 S.wf (l.getD i default) ((ht i hil).1.ext w S.ext) (ht i hil).2).mono ?_);rintro _ h ⟨tv,rfl,x⟩)<;>(replace S:=S.QY x;clear x;(refine one 9 S ?_;clear S;intro u h S))
  refine app (y0:={ l.getD i default with tv:=tv }) S rfl rfl ?_;clear S;intro v3 h S;obtain ⟨vg',rfl⟩:=S.sV v3;(refine mv ?_;refine qf ?_)
  all_goals (repeat' (first|refine qA ?_|refine qw rfl ?_|refine qx ?_|refine qy ?_|refine qo ?_|refine qi ?_|refine qj ?_|(refine qg 4 ?_;refine mv ?_;(first|refine ad ?_|refine vl ?_);refine mv ?_;refine qf ?_)))
  refine ⟨(i+1,vg',gs ++ [{ l.getD i default with tv:=tv }]),?_,?_,zy⟩
  ·show l.length - (i+1)<l.length - i;omega
  ·replace S:Hs h0 h (.sl vg'.val 24 9 eG (gs ++ [{ l.getD i default with tv:=tv }]) :: .sl tv.val 9 1 eS (l.getD i default).tg :: XA gs :: []):=S
   have S:=(show Hs h0 h (.sl tv.val 9 1 eS (l.getD i default).tg :: XA gs :: .sl vg'.val 24 9 eG (gs ++ [{ l.getD i default with tv:=tv }]) :: []) from S.pick)
   refine ⟨Hs.Ko (g:={ l.getD i default with tv:=tv }) S,by (try dsimp only);omega,?_⟩
   dsimp only
   rw [jL (by omega),List.map_append,List.map_append,g2];rfl
 ·obtain rfl:i=l.length:=by omega
  rw [List.take_length] at g2
  skip
  all_goals (repeat' (first|refine qA ?_|refine qw rfl ?_|refine qx ?_|refine qy ?_|refine qo ?_|refine qi ?_|refine qj ?_|(refine qg 6 ?_;refine mv ?_;refine mv ?_;refine qf ?_)))
  refine qH ⟨_,rfl,?_⟩
  exact ⟨vg,gs,rfl,g2,S⟩
structure RlFit (h:AH) (v:RlV) (r:Rl):Prop where
 ok:RlOk h v r
 tg:∀ i,i<v.gs.length→(v.gs.getD i default).tg.length≤8796093021952
 lg:r.us.length*112≤140737488351232
 lt:r.ts.length*40≤140737488351232
theorem RlFit.ext {h h':AH} {v:RlV} {r:Rl} (a:RlFit h v r) (w:WfH h) (x:Ext h h'):RlFit h' v r:=⟨a.ok.ext w x,a.tg,a.lg,a.lt⟩
theorem qa1 {h0:AH} (w:WfH h0) (v:RlV) (r:Rl) (H:RlFit h0 v r):Fn Tryz.prog Xh 43 [v.val] h0 (fun u h'=>∃ v':RlV,u=v'.val∧v'.gs.map (·.toGu)=r.us∧Hs h0 h' (Jz v' r.ts)):=by
 have S:=Hs.start w
 have hgl:=H.ok.len
 have hlg:=H.lg
 unfold RlV.val
 refine zD rfl Tryz.func43 rfl rfl ?_
 all_goals (repeat' (first|refine qA ?_|refine qw rfl ?_|refine qx ?_|refine qy ?_|refine qo ?_|refine qi ?_|refine qj ?_|(refine qg 0 ?_;(refine bx S ?_;clear S;intro b h S);(refine al S ?_;clear S;intro b h S);refine qf ?_)))
 obtain ⟨b2,hnm⟩:∃ x,x=b:=⟨_,rfl⟩;subst hnm
 obtain ⟨b1,hnm⟩:∃ x,x=b:=⟨_,rfl⟩;subst hnm
 (repeat (refine qA ?_));refine Zm (id:=1) [(4,(0,1))] [some (b1)] ?_;refine qB ?_;(first|(refine vl ?_<;>refine qf ⟨⟨by (first|exact True.intro|exact Or.inl rfl|exact Or.inr rfl|exact Or.inr (congrArg some (qh _ _ _ _))|exact ⟨Or.inl rfl,rfl⟩|exact ⟨Or.inr rfl,rfl⟩),rfl⟩,?_⟩)|(refine fB S ?_<;>refine qf ⟨⟨by (first|exact True.intro|exact Or.inl rfl|exact Or.inr rfl|exact Or.inr (congrArg some (qh _ _ _ _))|exact ⟨Or.inl rfl,rfl⟩|exact ⟨Or.inr rfl,rfl⟩),rfl⟩,?_⟩)|(refine fS S rfl rfl ?_<;>refine qf ⟨⟨by (first|exact True.intro|exact Or.inl rfl|exact Or.inr rfl|exact Or.inr (congrArg some (qh _ _ _ _))|exact ⟨Or.inl rfl,rfl⟩|exact ⟨Or.inr rfl,rfl⟩),rfl⟩,?_⟩)|(refine fA ?_<;>refine qf ⟨⟨by (first|exact True.intro|exact Or.inl rfl|exact Or.inr rfl|exact Or.inr (congrArg some (qh _ _ _ _))|exact ⟨Or.inl rfl,rfl⟩|exact ⟨Or.inr rfl,rfl⟩),rfl⟩,?_⟩));refine qB ?_;(first|(refine lB S rfl rfl ?_<;>refine qf ⟨⟨by (first|exact True.intro|exact Or.inl rfl|exact Or.inr rfl|exact Or.inr (congrArg some (qh _ _ _ _))|exact ⟨Or.inl rfl,rfl⟩|exact ⟨Or.inr rfl,rfl⟩),rfl⟩,?_⟩)|(refine qE S rfl rfl ?_<;>refine qf ⟨⟨by (first|exact True.intro|exact Or.inl rfl|exact Or.inr rfl|exact Or.inr (congrArg some (qh _ _ _ _))|exact ⟨Or.inl rfl,rfl⟩|exact ⟨Or.inr rfl,rfl⟩),rfl⟩,?_⟩)|(refine qO S ?_<;>refine qf ⟨⟨by (first|exact True.intro|exact Or.inl rfl|exact Or.inr rfl|exact Or.inr (congrArg some (qh _ _ _ _))|exact ⟨Or.inl rfl,rfl⟩|exact ⟨Or.inr rfl,rfl⟩),rfl⟩,?_⟩)|(refine lH S ?_<;>refine qf ⟨⟨by (first|exact True.intro|exact Or.inl rfl|exact Or.inr rfl|exact Or.inr (congrArg some (qh _ _ _ _))|exact ⟨Or.inl rfl,rfl⟩|exact ⟨Or.inr rfl,rfl⟩),rfl⟩,?_⟩))
 ((refine qB ?_;first|refine qM rfl rfl rfl rfl rfl ((pg S.wf v.vg.val v.gs (H.ok.rg.ext w S.ext) (fun i hi=>⟨(H.ok.tg i hi).1.ext w S.ext,H.tg i hi⟩) (by omega)).mono ?_));rintro _ h ⟨vg,gs,rfl,g2,x⟩)<;>((refine qf ⟨⟨True.intro,?_⟩,?_⟩;(focus ((show keepsX _ _ _ _ _;simp only [keepsX];(repeat' (first|exact True.intro|refine And.intro ?_ ?_));all_goals (intro hw;first|exact True.intro|exact rfl|exact x.ext.old _ S.bB|exact x.ext.old _ (S.bR (by first|omega|grind))|exact x.ext.old _ (S.bX (by assumption) (by assumption) (by first|omega|grind))|exact x.ext.old _ (S.bY (by assumption) (by assumption))|(refine x.ext.old _ ?_;assumption)|exact absurd hw (by decide +kernel))))));replace S:=S.qct x;clear x;refine qB ?_;(first|(refine vl ?_<;>refine qf ⟨⟨by (first|exact True.intro|exact Or.inl rfl|exact Or.inr rfl|exact Or.inr (congrArg some (qh _ _ _ _))|exact ⟨Or.inl rfl,rfl⟩|exact ⟨Or.inr rfl,rfl⟩),rfl⟩,?_⟩)|(refine fB S ?_<;>refine qf ⟨⟨by (first|exact True.intro|exact Or.inl rfl|exact Or.inr rfl|exact Or.inr (congrArg some (qh _ _ _ _))|exact ⟨Or.inl rfl,rfl⟩|exact ⟨Or.inr rfl,rfl⟩),rfl⟩,?_⟩)|(refine fS S rfl rfl ?_<;>refine qf ⟨⟨by (first|exact True.intro|exact Or.inl rfl|exact Or.inr rfl|exact Or.inr (congrArg some (qh _ _ _ _))|exact ⟨Or.inl rfl,rfl⟩|exact ⟨Or.inr rfl,rfl⟩),rfl⟩,?_⟩)|(refine fA ?_<;>refine qf ⟨⟨by (first|exact True.intro|exact Or.inl rfl|exact Or.inr rfl|exact Or.inr (congrArg some (qh _ _ _ _))|exact ⟨Or.inl rfl,rfl⟩|exact ⟨Or.inr rfl,rfl⟩),rfl⟩,?_⟩));refine qB ?_;(first|(refine lB S rfl rfl ?_<;>refine qf ⟨⟨by (first|exact True.intro|exact Or.inl rfl|exact Or.inr rfl|exact Or.inr (congrArg some (qh _ _ _ _))|exact ⟨Or.inl rfl,rfl⟩|exact ⟨Or.inr rfl,rfl⟩),rfl⟩,?_⟩)|(refine qE S rfl rfl ?_<;>refine qf ⟨⟨by (first|exact True.intro|exact Or.inl rfl|exact Or.inr rfl|exact Or.inr (congrArg some (qh _ _ _ _))|exact ⟨Or.inl rfl,rfl⟩|exact ⟨Or.inr rfl,rfl⟩),rfl⟩,?_⟩)|(refine qO S ?_<;>refine qf ⟨⟨by (first|exact True.intro|exact Or.inl rfl|exact Or.inr rfl|exact Or.inr (congrArg some (qh _ _ _ _))|exact ⟨Or.inl rfl,rfl⟩|exact ⟨Or.inr rfl,rfl⟩),rfl⟩,?_⟩)|(refine lH S ?_<;>refine qf ⟨⟨by (first|exact True.intro|exact Or.inl rfl|exact Or.inr rfl|exact Or.inr (congrArg some (qh _ _ _ _))|exact ⟨Or.inl rfl,rfl⟩|exact ⟨Or.inr rfl,rfl⟩),rfl⟩,?_⟩)))
 ((refine qB ?_;first|refine qM rfl rfl rfl rfl rfl ((qcT S.wf v.vt.val r.ts (H.ok.rt.ext w S.ext) H.lt).mono ?_));rintro u h x)<;>((refine qf ⟨⟨True.intro,?_⟩,?_⟩;(focus ((show keepsX _ _ _ _ _;simp only [keepsX];(repeat' (first|exact True.intro|refine And.intro ?_ ?_));all_goals (intro hw;first|exact True.intro|exact rfl|exact x.ext.old _ S.bB|exact x.ext.old _ (S.bR (by first|omega|grind))|exact x.ext.old _ (S.bX (by assumption) (by assumption) (by first|omega|grind))|exact x.ext.old _ (S.bY (by assumption) (by assumption))|(refine x.ext.old _ ?_;assumption)|exact absurd hw (by decide +kernel))))));replace S:=S.QY x;clear x;obtain ⟨vt',rfl⟩:=S.sV u;refine qB ?_;(first|(refine vl ?_<;>refine qf ⟨⟨by (first|exact True.intro|exact Or.inl rfl|exact Or.inr rfl|exact Or.inr (congrArg some (qh _ _ _ _))|exact ⟨Or.inl rfl,rfl⟩|exact ⟨Or.inr rfl,rfl⟩),rfl⟩,?_⟩));refine qB ?_;(first|((refine sB S rfl rfl ?_;have S0:=S;clear S;intro h S);refine qf ⟨⟨True.intro,?_⟩,?_⟩;(focus ((show keepsX _ _ _ _ _;simp only [keepsX];(repeat' (first|exact True.intro|refine And.intro ?_ ?_));all_goals (intro hw;first|exact True.intro|exact (S.gB).trans (S0.gB).symm|exact absurd hw (by decide +kernel)))));clear S0)|((refine jm S rfl rfl ?_;have S0:=S;clear S;intro h S);refine qf ⟨⟨True.intro,?_⟩,?_⟩;(focus ((show keepsX _ _ _ _ _;simp only [keepsX];(repeat' (first|exact True.intro|refine And.intro ?_ ?_));all_goals (intro hw;first|exact True.intro|exact (S.gB).trans (S0.gB).symm|exact absurd hw (by decide +kernel)))));clear S0));refine JI ?_)
 all_goals (repeat' (first|refine qA ?_|refine qw rfl ?_|refine qx ?_|refine qy ?_|refine qo ?_|refine qi ?_|refine qj ?_|(refine qg 0 ?_;(refine bx S ?_;clear S;intro b h S);(refine al S ?_;clear S;intro b h S);refine qf ?_)))
 refine qH ⟨_,qN S rfl (by first|exact .here|exact .there .here|exact .there (.there .here)|exact .there (.there (.there .here))|exact .there (.there (.there (.there .here)))|exact .there (.there (.there (.there (.there .here))))) (by exact rfl) (by exact rfl),?_⟩
 refine ⟨⟨vg,vt',gs⟩,rfl,g2.trans H.ok.us,?_⟩
 exact (show Hs h0 h [.sl vg.val 24 9 eG gs,.sl vt'.val 111 3 zW r.ts,XA gs] from S.pick)
end Go.Proofs.Xx
