/-
  A part of a slice that is only read.
-/
import Derived.Test.YtnponmgkfkdkaaaGreatDoorM5
import Derived.Test.YtnponmgkfkdkaaaGreatDoorM4
import Derived.Test.YtnponmgkfkdkaaaGreatDoorM3
import Derived.Laws.Externs
import Derived.Lib.Bytealg
import Derived.Lib.Overlaps
import Derived.Shelf.Strings.Search2
import Derived.Shelf.Strconv.Itoa1
import Derived.Test.YtnponmgkfkdkaaaGreatDoorProg
import Derived.KernelRfl
set_option linter.unusedSectionVars false
set_option linter.unusedSimpArgs false
set_option linter.unusedVariables false
set_option maxRecDepth 100000
namespace Go.Proofs.Xx
open Go
section
variable {P:Program} {X:Extern} {sz:Nat} {L:Ks} {h h0:AH} {rs:List Rs} {ops:Array Oper} {os:List Oper} {o:Oper} {R:Ks→AH→Prop}
theorem G9 {α:Type} {ty:TypeId} {v:Value} {z a b:Nat} {enc:α→List Value} {l:List α} {vlo vhi:Option Value} (hr:zl h v z enc l) (hc:Qn v) (hz:∀ x,(enc x).length=z) (hu:Zn P ty=some z)
 (h1:zi vlo 0=some a) (h2:zi vhi l.length=some b) (hab:a≤b∧b≤l.length):∃ v',zH P ty v vlo vhi none h=some v'∧zl h v' z enc ((l.drop a).take (b - a))∧Qn v':=by
 have hue:∃ e',P.underlying ty=some (.slice e')∧zI P e'=some z:=by
  unfold Zn at hu;split at hu
  ·exact ⟨_,by assumption,hu⟩
  ·cases hu
 obtain ⟨e',hu1,hu2⟩:=hue;have hlen:((l.drop a).take (b - a)).length=b - a:=by simp;omega
 have hfl:∀ m:List α,(m.flatMap enc).length=m.length*z:=qX hz;unfold zl at hr ⊢;rw [hlen];rcases hr with ⟨rfl,g1,g2⟩|⟨b',o',cap,cc,e,s,q,rfl,g1,g2⟩
 ·rw [g1] at hab h2;obtain rfl:b=0:=by omega
  obtain rfl:a=0:=by omega
  refine ⟨.slice none 0 0,?_,.inl ⟨rfl,rfl,by simp⟩,zA3 _⟩;simp only [zH,hu1,hu2,h1,h2]
 ·have hcap:l.length≤cap:=hc;have t1:Nat.ble a b=true:=zB3 hab.1;have t2:Nat.ble b cap=true:=zB3 (by omega);have sub:=Qx (i:=a*z) (m:=(b - a)*z) g2 (by rw [← zE1];exact zD3 z (by omega));have hd:(l.flatMap enc).drop (a*z)=(l.drop a).flatMap enc:=by
   have e:l.flatMap enc=(l.take a).flatMap enc ++ (l.drop a).flatMap enc:=by rw [← List.flatMap_append,zH0]
   rw [e,List.drop_left' (by rw [hfl,zA9,zE5 (by omega)])]
  have ht:((l.drop a).flatMap enc).take ((b - a)*z)=((l.drop a).take (b - a)).flatMap enc:=by
   have e:(l.drop a).flatMap enc=((l.drop a).take (b - a)).flatMap enc ++ ((l.drop a).drop (b - a)).flatMap enc:=by rw [← List.flatMap_append,zH0]
   rw [e,List.take_left' (by rw [hfl,hlen])]
  rw [hd,ht] at sub;cases hk:(s.isNone && Nat.beq a cap) with
  | false =>
   refine ⟨.slice (some ⟨b',o'+a*z,none⟩) (b - a) (cap - a),?_,.inr ⟨b',o'+a*z,cap - a,cc,e,s,q,rfl,g1,sub⟩,by show b - a≤cap - a;omega⟩;simp only [zH,hu1,hu2,g1,h1,h2,t1,t2,hk,zF9]
  | true =>
   have hac:a=cap:=by rw [zA8] at hk;exact zA6 hk.2
   have hba:b - a=0:=by omega
   refine ⟨.slice (some ⟨b',o',none⟩) (b - a) (cap - a),?_,.inr ⟨b',o',cap - a,cc,e,s,q,rfl,g1,?_⟩,by show b - a≤cap - a;omega⟩
   ·simp only [zH,hu1,hu2,g1,h1,h2,t1,t2,hk,zF9]
   ·rw [hba];simp [zn]
theorem su {α:Type} {x:Operand} {lo hi:Option Operand} {vlo vhi:Option Value} {ty:TypeId} {v:Value} {z:Nat} {enc:α→List Value} {l:List α} {d:Tmp} (a b:Nat) (hr:zl h v z enc l) (hc:Qn v)
 (w:∀ v',zl h v' z enc ((l.drop a).take (b - a))→Qn v'→KO P X sz ops os (L.put d v') h R) (ho:o.op = .slice ty x lo hi none:=by exact rfl) (hx:kA L x=some v:=by exact rfl) (hg:qo ops L.tree o.guard=some true:=by exact rfl)
 (hlo:jd L.tree lo=some vlo:=by exact rfl) (hhi:jd L.tree hi=some vhi:=by exact rfl) (hz:∀ x,(enc x).length=z:=by intro _;rfl) (hu:Zn P ty=some z:=by exact rfl)
 (h1:zi vlo 0=some a:=by exact rfl) (h2:zi vhi l.length=some b:=by exact rfl) (hab:a≤b∧b≤l.length:=by first|omega|grind) (hdst:o.dst=some d:=by exact rfl) (hds:Nat.blt d sz=true:=by exact rfl):KO P X sz ops (o :: os) L h R:=by
 obtain ⟨v',e1,e2,e3⟩:=G9 hr hc hz hu h1 h2 hab;refine zo (v:=v') (h':=h) hg ?_ (by simp only [qG,hdst,hds]) (w v' e2 e3);rw [ho];simp only [zX,qE hx,hlo,hhi,show jd L.tree none=some none from rfl,e1,qM,je]
theorem lH {L':Ks} {x:Operand} {ty e:TypeId} {b k:Nat} {c:List Value} {v:Value} {q:Option Nat} {r:Bool} (S:Hs h0 h rs) (w:KO P X sz ops os L' h R) (ho:o.op = .load ty x:=by exact rfl) (hx:kA L x=some (.pointer (some ⟨b,k,none⟩)):=by exact rfl)
 (hb:h0.get b=some (.cells c e q r):=by assumption) (wf:WfH h0:=by assumption) (hg:qo ops L.tree o.guard=some true:=by exact rfl) (hv:Jn P ty c k=some v:=by exact rfl) (hp:qG sz L o.dst v=some L':=by exact rfl):KO P X sz ops (o :: os) L h R :=
 GH ho hg hx (by rw [Z7 (S.ext.get wf hb)];exact hv) hp w
end
end Go.Proofs.Xx
namespace Go.Proofs.Xx
open Go
section
variable {P:Program} {h:AH}
theorem AR.xq {n:Nat} {t:TypeId} {r:List Value} (a:AR P h n t r) (hu:P.underlying t=some .string):∃ s:List UInt8,r=[str s]∧s.length≤maxLen:=by
 cases n with
 | zero=>exact a.elim
 | succ n =>
  unfold AR at a;rw [hu] at a;split at a
  all_goals (first|exact a.elim|(rename_i q _;cases q;done)|(rename_i q;cases q;done)|skip)
  rename_i s q
  exact ⟨s.data.toList,by rw [qdn],by simpa using a⟩
theorem AR.VF {n:Nat} {t:TypeId} {r:List Value} {k:IntKind} (a:AR P h n t r) (hu:P.underlying t=some (.int k)):∃ x:Int,r=[.int k x]∧(Lit.int k x).wf=true:=by
 cases n with
 | zero=>exact a.elim
 | succ n =>
  unfold AR at a;rw [hu] at a;split at a
  all_goals (first|exact a.elim|(rename_i q _;cases q;done)|(rename_i q;cases q;done)|skip)
  rename_i k0 k' x q
  cases q
  obtain ⟨rfl,h2⟩:=a;exact ⟨x,rfl,h2⟩
theorem AR.YM {n:Nat} {t:TypeId} {r:List Value} {fs:Array Field} {m:List (Nat×TypeId)} {z:Nat} (a:AR P h n t r) (hu:P.underlying t=some (.struct fs)) (hm:fs.toList.map (fun f=>(f.offset,f.type))=m) (hz:P.cellsOf t=z) :
 ∃ n',r.length=z∧∀ p∈m,AR P h n' p.2 ((r.drop p.1).take (P.cellsOf p.2)):=by
 cases n with
 | zero=>exact a.elim
 | succ n =>
  unfold AR at a;rw [hu] at a;replace a:r.length=P.cellsOf t∧∀ fd∈fs.toList,AR P h n fd.type ((r.drop fd.offset).take (P.cellsOf fd.type)):=a;refine ⟨n,by rw [a.1,hz],fun p hp=>?_⟩;rw [← hm,zF1] at hp;obtain ⟨fd,hf,rfl⟩:=hp;exact a.2 fd hf
theorem pieces {α:Type} {z:Nat} {enc:α→List Value} {good:α→Prop}:∀ (n:Nat) (c:List Value),c.length=n*z→(∀ i,i<n→∃ y,(c.drop (i*z)).take z=enc y∧good y)→∃ l:List α,l.length=n∧c=l.flatMap enc∧∀ y∈l,good y
 | 0,c,hc,_=>⟨[],rfl,by rw [Nat.zero_mul] at hc;rw [zE9.1 hc];rfl,fun y q=>by cases q⟩
 | n+1,c,hc,hk=>by
  rw [zE1,Nat.one_mul] at hc;obtain ⟨y,h1,h2⟩:=hk 0 (by omega);obtain ⟨l,l1,l2,l3⟩:=pieces (z:=z) (enc:=enc) (good:=good) n (c.drop z) (by rw [zB4,hc];omega) (fun i hi=>by
   obtain ⟨y,q1,q2⟩:=hk (i+1) (by omega);refine ⟨y,?_,q2⟩;rw [List.drop_drop,← q1,zE1,Nat.one_mul,Nat.add_comm z])
  rw [Nat.zero_mul,List.drop_zero] at h1;refine ⟨y :: l,by simp [l1],?_,fun x q=>?_⟩
  ·rw [zG2,← h1,← l2,zH0]
  ·rcases zE8.1 q with rfl|q
   ·exact h2
   ·exact l3 x q
theorem AR.JD {α:Type} [Inhabited α] {n:Nat} {t e:TypeId} {r:List Value} {z:Nat} (enc:α→List Value) (good:α→Prop) (a:AR P h n t r) (hu:P.underlying t=some (.slice e)) (hz:P.cellsOf e=z) (hk:∀ n cs,AR P h n e cs→∃ y,cs=enc y∧good y) :
 ∃ v l,r=[v]∧zl h v z enc l∧(l.length≤maxLen∧l.length*P.bytesOf e≤reachBytes)∧Qn v∧∀ i,i<l.length→good (l.getD i default):=by
 cases n with
 | zero=>exact a.elim
 | succ n =>
  unfold AR at a;rw [hu] at a;split at a
  all_goals (first|exact a.elim|(rename_i q _;cases q;done)|(rename_i q;cases q;done)|skip)
  rename_i e' v q
  cases q
  obtain ⟨k,c,h1,h2,hc,h3⟩:=a;rw [hz] at h1 h3;obtain ⟨l,l1,l2,l3⟩:=pieces (enc:=enc) (good:=good) k c h1.length (fun i hi=>hk n _ (h3 i hi));subst l1 l2;refine ⟨v,l,rfl,h1,h2,hc,fun i hi=>?_⟩;rw [zA2,zA4 hi];exact l3 _ (List.getElem_mem hi)
end
end Go.Proofs.Xx
namespace Go.Proofs.Xx
open Go
section
variable {P:Program} {X:Extern} {inR:Bool} {sz:Nat} {L:Ks} {h h0:AH} {rs:List Rs} {ops:Array Oper} {os:List Oper} {o:Oper} {R:Ks→AH→Prop} {Q:KQ}
theorem qae {id j1:Nat} {c1:List Value} {e1:TypeId} {rd:List (Nat×Nat×Nat)} (bl:Nat→List (Option Nat)) (S:Hs h0 h rs) (ho1:HintOk P ops sz L h j1 c1 e1)
 (w:∀ b1 h',Hs h0 h' (.blk b1 c1 e1 :: rs)→KOX P X sz ops [j1] [(j1,b1)] rd (bl b1) 0 ops.toList L h' (Q .norm)) (hd:Wx ops [j1] rd=true:=by decide +kernel) (hn:∀ b1,rd.length=(bl b1).length:=by intro _;rfl):K P X inR sz (.region id ops true) L h Q :=
 qbW (j:=j1) (r:=[]) [.cells c1 e1 none false] rd (bl h.next) ⟨⟨c1,e1,ho1,rfl⟩,trivial⟩ (w h.next _ (S.add c1 e1)) (hn _) hd
theorem qeO {id j1 j2:Nat} {c1 c2:List Value} {e1 e2:TypeId} {rd:List (Nat×Nat×Nat)} (bl:Nat→Nat→List (Option Nat)) (S:Hs h0 h rs) (ho1:HintOk P ops sz L h j1 c1 e1) (ho2:HintOk P ops sz L h j2 c2 e2)
 (w:∀ b1 b2 h',Hs h0 h' (.blk b2 c2 e2 :: .blk b1 c1 e1 :: rs)→KOX P X sz ops [j1,j2] [(j1,b1),(j2,b2)] rd (bl b1 b2) 0 ops.toList L h' (Q .norm)) (hd:Wx ops [j1,j2] rd=true:=by decide +kernel) (hn:∀ b1 b2,rd.length=(bl b1 b2).length:=by intro _ _;rfl):K P X inR sz (.region id ops true) L h Q :=
 qbW (j:=j1) (r:=[j2]) [.cells c1 e1 none false,.cells c2 e2 none false] rd (bl h.next (h.next+1)) ⟨⟨c1,e1,ho1,rfl⟩,⟨c2,e2,ho2,rfl⟩,trivial⟩ (w h.next (h.next+1) _ ((S.add c1 e1).add c2 e2)) (hn _ _) hd
theorem fl {fls:List Nat} {ids:List (Nat×Nat)} {rd:List (Nat×Nat×Nat)} {bl:List (Option Nat)} {i b:Nat} {L':Ks} {x:Option Nat} {c:List Value} {e:TypeId} (S:Hs h0 h rs) (hi:Ql ids i=some b) (hf:jW P L.tree o.op=some (x,c,e)) (hb:h.get b=some (.cells c e none false)) (w:KOX P X sz ops fls ids rd bl (i+1) os L' h R)
 (hbl:Zl rd bl i=some (some b):=by exact rfl) (hc:qH ops fls i=false:=by decide +kernel) (hg:qo ops L.tree o.guard=some true:=by exact rfl) (hp:qG sz L o.dst (Qk x b)=some L':=by exact rfl):KOX P X sz ops fls ids rd bl i (o :: os) L h R:=qi1 hi hf hb hbl hc hg hp w
theorem Hs.qhh {b z:Nat} {c:List Value} {e:TypeId} {α:Type} (enc:α→List Value) (l:List α) (S:Hs h0 h (.blk b c e :: rs)) (hc:c=l.flatMap enc:=by rfl) (hz:c.length=l.length*z:=by rfl):Hs h0 h (.sl (.slice (some ⟨b,0,none⟩) l.length l.length) e z enc l :: rs) :=
 S.same .here fun fp k=>.inr ⟨b,0,c,none,l.length,rfl,k.1,k.2,by rw [← hz,← hc,jf],⟨zA3 _,by omega⟩,.inl rfl⟩
theorem th {α:Type} {x hi:Operand} {ty e:TypeId} {v vh:Value} {z:Nat} {enc:α→List Value} {l:List α} {f:Rs→List Rs} {dd:List Rs} {d:Tmp} (b:Nat) (S:Hs h0 h rs) (ho:o.op = .slice ty x none (some hi) none) (hx:kA L x=some v) [i:HasS rs v α e z enc l f dd]
 (w:∀ v',Hs h0 h (f (.rd v' z enc (l.take b)))→KO P X sz ops os (L.put d v') h R) (hg:qo ops L.tree o.guard=some true:=by exact rfl) (hhi:kA L hi=some vh:=by exact rfl) (hbo:zi (some vh) l.length=some b:=by exact rfl) (hb:b≤l.length:=by first|omega|grind)
 (hz:∀ x,(enc x).length=z:=by intro _;rfl) (hu:Zn P ty=some z:=by exact rfl) (hdst:o.dst=some d:=by exact rfl) (hds:Nat.blt d sz=true:=by exact rfl):KO P X sz ops (o :: os) L h R:=by
 obtain ⟨fp,k1,k2,-⟩:=(i.ut (.sl v e z enc l)).ok (h':=h) S.ext.next (zA3 _) S.sep
 have hue:∃ e',P.underlying ty=some (.slice e')∧zI P e'=some z:=by
  unfold Zn at hu;split at hu
  ·exact ⟨_,by assumption,hu⟩
  ·cases hu
 obtain ⟨e',hu1,hu2⟩:=hue;have hhi':ja L.tree hi=some vh:=qE hhi;have go:∀ v',zH P ty v none (some vh) none h=some v'→(∀ fq,(Rs.sl v e z enc l).ok h fq→(Rs.rd v' z enc (l.take b)).ok h fq)→KO P X sz ops (o :: os) L h R:=fun v' q1 q2=>by
  refine zo (v:=v') (h':=h) hg ?_ (by simp only [qG,hdst,hds]) (w v' (S.same (i.ut _) q2));rw [ho];simp only [zX,qE hx,jd,hhi',q1,qM,je]
 have h0b:zi none 0=some 0:=rfl;rcases k1 with ⟨rfl,rfl⟩|⟨bb,o',cc,slk,cap,g1,g2,g3,g4,g5,g6⟩
 ·obtain rfl:b=0:=by simpa using hb
  refine go (.slice none 0 0) ?_ fun fq q=>.inl ⟨rfl,by simp⟩;have:zi (some vh) 0=some 0:=hbo;simp only [zH,hu1,hu2,this,h0b]
 ·subst g1;have t1:Nat.ble 0 b=true:=by simp
  have t2:Nat.ble b cap=true:=zB3 (zD0 hb g5.1);have hlen:(l.take b).length=b:=by simp;omega
  have sub:=Qx (i:=0) (m:=b*z) g4 (by rw [zG1];exact zD3 z hb);rw [List.drop_zero,← QN hz,Nat.add_zero] at sub;have fin:∀ c2,(Rs.rd (.slice (some ⟨bb,o',none⟩) (b - 0) c2) z enc (l.take b)).ok h fp:=fun c2 =>
   .inr ⟨bb,o',c2,cc,e,slk,false,by rw [hlen,Nat.sub_zero],g2,g3,by rw [hlen];exact sub⟩
  have key:∀ c2,∀ fq,(Rs.sl (.slice (some ⟨bb,o',none⟩) l.length cap) e z enc l).ok h fq→(Rs.rd (.slice (some ⟨bb,o',none⟩) (b - 0) c2) z enc (l.take b)).ok h fq:=fun c2 fq q=>by
   rcases q with ⟨q1,-⟩|⟨b2,o2,cc2,sl2,cap2,q1,q2,q3,-⟩
   ·cases q1
   ·cases q1
    exact .inr ⟨bb,o',c2,cc,e,slk,false,by rw [hlen,Nat.sub_zero],g2,q3,by rw [hlen];exact sub⟩
  cases hk:(slk.isNone && Nat.beq 0 cap) with
  | false =>
   refine go (.slice (some ⟨bb,o',none⟩) (b - 0) (cap - 0)) ?_ (key _);simp only [zH,hu1,hu2,g2,h0b,hbo,t1,t2,hk,zF9,Nat.zero_mul,Nat.add_zero]
  | true =>
   refine go (.slice (some ⟨bb,o',none⟩) (b - 0) (cap - 0)) ?_ (key _);simp only [zH,hu1,hu2,g2,h0b,hbo,t1,t2,hk,zF9]
theorem nw {α:Type} {ty e:TypeId} {zc:List Value} {d:Tmp} (z:Nat) (enc:α→List Value) (S:Hs h0 h rs) (w:∀ u h',Hs h0 h' (.sl u e z enc [] :: rs)→KO P X sz ops os (L.put d u) h' R) (ho:o.op = .buildSlice ty 0 #[]:=by exact rfl) (hg:qo ops L.tree o.guard=some true:=by exact rfl)
 (hs:qQ P ty=some e:=by exact rfl) (hz:qV P e=some zc:=by exact rfl) (hdst:o.dst=some d:=by exact rfl) (hds:Nat.blt d sz=true:=by exact rfl):KO P X sz ops (o :: os) L h R :=
 VX ho hg (show Xo L (#[]:Array (Nat×Operand)).toList=some [] by rfl) (qhd hs hz h) (by simp only [qG,hdst,hds]) (w (.slice (some ⟨h.next,0,none⟩) 0 0) _ ((S.add [] e).qhh (z:=z) enc [] rfl (by simp)))
theorem apd {α:Type} {x y:Operand} {ts tx e:TypeId} {zc:List Value} {by_ z:Nat} {enc:α→List Value} {l l2:List α} {f:Rs→List Rs} {dd:List Rs} {v u:Value} {d:Tmp} (S:Hs h0 h rs) (ho:o.op = .call { callee:=.builtin .append,args:=#[x,y],argTypes:=#[ts,tx] }) (hx:kA L x=some v) [i:HasS rs v α e z enc l f dd]
 (hr:zl h u z enc l2) (w:∀ v' h',Hs h0 h' (.sl v' e z enc (l ++ l2) :: dd)→KO P X sz ops os (L.put d v') h' R) (h1:∀ y∈l2,(enc y).all one? = true:=by intro _ _;rfl) (hg:qo ops L.tree o.guard=some true:=by exact rfl) (hy:kA L y=some u:=by exact rfl) (hs:qQ P ts=some e:=by exact rfl) (hz:qV P e=some zc:=by exact rfl) (hzl:zc.length=z:=by exact rfl) (hb:Qh P e=some (by_+1):=by exact rfl) (hxs:(qQ P tx).isSome=true:=by exact rfl)
 (hlen:∀ y,(enc y).length=z:=by intro _;rfl) (hsz:(l.length+l2.length+1)*(by_+1)≤140737488355328:=by first|omega|(simp only [List.length_nil];omega)|grind) (hdst:o.dst=some d:=by exact rfl) (hds:Nat.blt d sz=true:=by exact rfl):KO P X sz ops (o :: os) L h R:=Pv S ho hg hx hy i.dt hr hs hz hzl hb hxs h1 hlen hsz hdst hds w
theorem fB {L':Ks} {x:Operand} {ty:TypeId} {fs:Array Field} {fd:Field} {v:Value} {z k off f m n:Nat} {c:List Value} (S:Hs h0 h rs) (w:KO P X sz ops os L' h R) (ho:o.op = .fieldAddr ty x f:=by exact rfl) (hg:qo ops L.tree o.guard=some true:=by exact rfl)
 (hx:kA L x=some (yG v z k off):=by exact rfl) (hu:P.underlying ty=some (.struct fs):=by exact rfl) (hf:fs[f]? = some fd:=by exact rfl) (hm:zI P fd.type=some (m+1):=by exact rfl) (hr:Rd h0 v z n c:=by assumption) (wf:WfH h0:=by assumption) (hk:k<n:=by first|omega|grind)
 (hp:qG sz L o.dst (yG v z k (off+fd.offset))=some L':=by exact rfl):KO P X sz ops (o :: os) L h R:=qie ho hg hx hu hf hm (hr.ext wf S.ext) hk hp w
end
end Go.Proofs.Xx
namespace Go.Proofs.Xx
open Go
section
variable {P:Program} {X:Extern} {inR:Bool} {sz:Nat} {L:Ks} {h h0:AH} {rs:List Rs} {ops:Array Oper} {os:List Oper} {o:Oper} {R:Ks→AH→Prop} {Q:KQ}
theorem wrap_u64 {n:Int} (h:0≤n∧n≤18446744073709551615):IntKind.u64.wrap n=n:=Gg (by simpa [IntKind.min,IntKind.max,IntKind.signed,IntKind.bits] using h)
theorem VZ (n:Int):0≤IntKind.u64.wrap n∧IntKind.u64.wrap n≤18446744073709551615:=by
 simp only [IntKind.wrap,IntKind.signed,IntKind.bits];simp
 omega
theorem cW {L':Ks} {x:Operand} {s d:TypeId} {k k2:IntKind} {a:Int} (w:KO P X sz ops os L' h R) (ho:o.op = .convert s d x:=by exact rfl) (hg:qo ops L.tree o.guard=some true:=by exact rfl) (hx:kA L x=some (.int k a):=by exact rfl) (hs:P.underlying s=some (.int k2):=by exact rfl) (hd:P.underlying d=some (.int .u64):=by exact rfl)
 (hb:0≤a∧a≤18446744073709551615:=by first|omega|grind) (hp:qG sz L o.dst (.int .u64 a)=some L':=by exact rfl):KO P X sz ops (o :: os) L h R :=
 zo hg (by rw [ho];simp only [zX,qE hx,zY,hs,hd,wrap_u64 hb]) hp w
theorem sR {L':Ks} {x y:Operand} {ty ty2:TypeId} {k k2:IntKind} {a b:Int} (w:KO P X sz ops os L' h R) (ho:o.op = .binOp .shr ty x y ty2:=by exact rfl) (hg:qo ops L.tree o.guard=some true:=by exact rfl) (hx:kA L x=some (.int k a):=by exact rfl) (hy:kA L y=some (.int k2 b):=by exact rfl)
 (hb:decide (b<0)=false:=by exact rfl) (hp:qG sz L o.dst (.int k (a / (2 ^ (min b.toNat k.bits):Nat)))=some L':=by exact rfl):KO P X sz ops (o :: os) L h R :=
 zN ho hg hx hy (by
  simp only [jP,hb];rw [Int.fdiv_eq_ediv_of_nonneg _ (by exact_mod_cast zB0 _)];norm_cast) hp w
theorem sL {L':Ks} {x y:Operand} {ty ty2:TypeId} {k2:IntKind} {a b:Int} (w:KO P X sz ops os L' h R) (ho:o.op = .binOp .shl ty x y ty2:=by exact rfl) (hg:qo ops L.tree o.guard=some true:=by exact rfl) (hx:kA L x=some (.int .u64 a):=by exact rfl) (hy:kA L y=some (.int k2 b):=by exact rfl)
 (hb:0≤b∧b≤62:=by omega) (ha:0≤a∧a≤1:=by omega) (hp:qG sz L o.dst (.int .u64 (a*2 ^ b.toNat))=some L':=by exact rfl):KO P X sz ops (o :: os) L h R :=
 zN ho hg hx hy (by
  have e1:decide (b<0)=false:=decide_eq_false (by omega);have e2:min b.toNat (IntKind.bits .u64)=b.toNat:=zE5 (by show b.toNat≤64;omega);have e3:(2:Int) ^ b.toNat≤2 ^ 62:=by
   have:(2:Nat) ^ b.toNat≤2 ^ 62:=Nat.pow_le_pow_right (by omega) (by omega);exact_mod_cast this
  have e4:(0:Int)<2 ^ b.toNat:=by
   have:0<(2:Nat) ^ b.toNat:=Nat.pos_of_ne_zero (by simp);exact_mod_cast this
  simp only [jP,e1,e2];rw [wrap_u64];have:a=0∨a=1:=by omega
  rcases this with rfl|rfl
  ·omega
  ·omega) hp w
theorem aW {op:BinOp} {x y:Operand} {ty ty2:TypeId} {k2:IntKind} {a b:Int} {d:Tmp} (w:∀ r:Int,0≤r→r≤18446744073709551615→KO P X sz ops os (L.put d (.int .u64 r)) h R) (ho:o.op = .binOp op ty x y ty2:=by exact rfl) (hg:qo ops L.tree o.guard=some true:=by exact rfl) (hx:kA L x=some (.int .u64 a):=by exact rfl) (hy:kA L y=some (.int k2 b):=by exact rfl)
 (hop:(match op,k2 with|.shl,_=>decide (b<0)=false|.xor,.u64=>true=true|.add,.u64=>true=true|.sub,.u64=>true=true|.mul,.u64=>true=true | _,_=>False):=by exact rfl) (hd:o.dst=some d:=by exact rfl) (hs:Nat.blt d sz=true:=by exact rfl):KO P X sz ops (o :: os) L h R:=by
 have go:∀ n,jP P op ty (.int .u64 a) (.int k2 b)=some (.int .u64 (IntKind.u64.wrap n))→KO P X sz ops (o :: os) L h R:=fun n e =>
  zN ho hg hx hy e (by simp only [qG,hd,hs]) (w _ (VZ n).1 (VZ n).2)
 cases op<;>cases k2<;>first|(exact go _ (by simp only [jP,hop];rfl))|(exact go _ (by simp only [jP,decide_true];rfl))|(exact hop.elim)
theorem aM {x y:Operand} {ty ty2:TypeId} {a b:Int} {d:Tmp} (w:∀ r:Int,0≤r→r≤b→KO P X sz ops os (L.put d (.int .u64 r)) h R) (ho:o.op = .binOp .and ty x y ty2:=by exact rfl) (hg:qo ops L.tree o.guard=some true:=by exact rfl) (hx:kA L x=some (.int .u64 a):=by exact rfl) (hy:kA L y=some (.int .u64 b):=by exact rfl)
 (hb:0≤b∧b≤18446744073709551615:=by omega) (hd:o.dst=some d:=by exact rfl) (hs:Nat.blt d sz=true:=by exact rfl):KO P X sz ops (o :: os) L h R:=by
 obtain ⟨m,rfl⟩:=zH3 hb.1;have hm:m<2 ^ 64:=by omega
 have e1:(BitVec.ofInt 64 (m:Int)).toNat=m:=by
  rw [BitVec.ofInt_natCast,BitVec.toNat_ofNat,Nat.mod_eq_of_lt hm]
 have e2:((BitVec.ofInt 64 a &&& BitVec.ofInt 64 (m:Int)).toNat)≤m:=by
  rw [BitVec.toNat_and,e1];exact Nat.and_le_right
 generalize hr:(BitVec.ofInt 64 a &&& BitVec.ofInt 64 (m:Int)).toNat=r at e2
 refine zN ho hg hx hy (v:=.int .u64 (r:Int)) ?_ (by simp only [qG,hd,hs];rfl) (w _ (by omega) (by omega));simp only [jP,decide_true];show some (Value.int .u64 (IntKind.u64.wrap ((BitVec.ofInt 64 a &&& BitVec.ofInt 64 (m:Int)).toNat:Int)))=_
 rw [hr,wrap_u64 (by constructor<;>omega)]
theorem sW {L':Ks} {x y:Operand} {ty ty2:TypeId} {a b:Int} (w:KO P X sz ops os L' h R) (ho:o.op = .binOp .sub ty x y ty2:=by exact rfl) (hg:qo ops L.tree o.guard=some true:=by exact rfl) (hx:kA L x=some (.int .u64 a):=by exact rfl) (hy:kA L y=some (.int .u64 b):=by exact rfl)
 (hb:0≤a - b∧a - b≤18446744073709551615:=by omega) (hp:qG sz L o.dst (.int .u64 (a - b))=some L':=by exact rfl):KO P X sz ops (o :: os) L h R :=
 zN ho hg hx hy (by simp only [jP,decide_true,wrap_u64 hb]) hp w
def qfz {σ:Type} (I:σ→AH→Prop) (sl:σ→Ks) (Q:KQ):KQ
 | .norm,L',h'=>∃ s,I s h'∧Ks.le (sl s) L'
 | x,L',h'=>Q x L' h'
theorem XE {σ:Type} {a b:Code} (I:σ→AH→Prop) (sl:σ→Ks) (w1:K P X inR sz a L h (qfz I sl Q)) (w2:∀ s h',I s h'→K P X inR sz b (sl s) h' Q):K P X inR sz (.seq a b) L h Q :=
 qg (w1.mono fun x L' h' q=>by
  cases x with
  | norm=>obtain ⟨s,q1,q2⟩:=q;exact (w2 s h' q1).le q2
  | exit id=>exact q
  | ret=>exact q)
theorem sR1 {L':Ks} {x y:Operand} {ty ty2:TypeId} {k2:IntKind} {a:Int} (w:KO P X sz ops os L' h R) (ho:o.op = .binOp .shr ty x y ty2:=by exact rfl) (hg:qo ops L.tree o.guard=some true:=by exact rfl) (hx:kA L x=some (.int .u64 a):=by exact rfl) (hy:kA L y=some (.int k2 1):=by exact rfl)
 (hp:qG sz L o.dst (.int .u64 (a / 2))=some L':=by exact rfl):KO P X sz ops (o :: os) L h R:=sR (b:=1) w ho hg hx hy rfl (by rw [show (2 ^ (min (1:Int).toNat (IntKind.bits .u64)):Nat)=2 by rfl];exact hp)
theorem qR {L':Ks} {x i:Operand} {ty:TypeId} {v:Value} {ik:IntKind} {a:Int} {α:Type} {z:Nat} {enc:α→List Value} {l:List α} (S:Hs h0 h rs) (ho:o.op = .indexAddr ty x i) (hx:kA L x=some v) [k:HasR rs v α z enc l] (w:KO P X sz ops os L' h R) (hg:qo ops L.tree o.guard=some true:=by exact rfl) (hi:kA L i=some (.int ik a):=by exact rfl) (hu:Zn P ty=some z:=by exact rfl)
 (ha:0≤a∧a<l.length:=by first|omega|(simp only [zF5,zB2,zC4,List.length_nil];omega)|grind) (hp:qG sz L o.dst (yG v z a.toNat 0)=some L':=by exact rfl):KO P X sz ops (o :: os) L h R:=qf7 ho hg hx hi hu (k.rd S) ha hp w
theorem zu {α:Type} [Inhabited α] {L':Ks} {x:Operand} {ty:TypeId} {v u:Value} {z' z k off:Nat} {enc:α→List Value} {l:List α} (S:Hs h0 h rs) (ho:o.op = .load ty x) (hx:kA L x=some (yG v z' k off)) [i:HasR rs v α z enc l] (w:KO P X sz ops os L' h R) (hzz:z'=z:=by exact rfl) (hg:qo ops L.tree o.guard=some true:=by exact rfl)
 (hz:∀ x,(enc x).length=z:=by intro _;rfl) (hk:k<l.length:=by first|omega|(simp only [zF5,zB2,zC4,List.length_nil];omega)|grind) (hv:Jn P ty (enc (l.getD k default)) off=some u:=by exact rfl) (hp:qG sz L o.dst u=some L':=by exact rfl):KO P X sz ops (o :: os) L h R:=by
 subst hzz;exact qf6 ho hg hx (i.rd S) hz hk hv hp w
theorem XK {α:Type} [Inhabited α] {L':Ks} {x yo:Operand} {ty e:TypeId} {v u:Value} {z' z k off:Nat} {enc:α→List Value} {l:List α} {f:Rs→List Rs} {d:List Rs} {y:α} (S:Hs h0 h rs) (ho:o.op = .store ty x yo) (hx:kA L x=some (yG v z' k off)) [i:HasS rs v α e z enc l f d] (w:∀ h',Hs h0 h' (f (.sl v e z enc (l.set k y)))→KO P X sz ops os L' h' R)
 (hzz:z'=z:=by exact rfl) (hg:qo ops L.tree o.guard=some true:=by exact rfl) (hy:kA L yo=some u:=by exact rfl) (hz:∀ x,(enc x).length=z:=by intro _;rfl) (hk:k<l.length:=by first|omega|(simp only [zF5,zB2,zC4,List.length_nil];omega)|grind) (hv:Z9 P ty (enc (l.getD k default)) off u=some (enc y):=by exact rfl) (hp:qG sz L o.dst (.tuple #[])=some L':=by exact rfl):KO P X sz ops (o :: os) L h R:=by
 subst hzz;exact qia S ho hg hx hy (i.ut _) hz hk hv hp w
end
end Go.Proofs.Xx
namespace Go.Proofs.Xx
open Go
def IsView (v v2:Value) (z k n:Nat):Prop:=∃ b o cap c2,v = .slice (some ⟨b,o,none⟩) n cap∧v2 = .slice (some ⟨b,o+k*z,none⟩) (n - k) c2
theorem IsView.el {v v2:Value} {z k n:Nat} (V:IsView v v2 z k n) (j off:Nat):yG v2 z j off=yG v z (k+j) off:=by
 obtain ⟨b,o,cap,c2,rfl,rfl⟩:=V;simp only [yG];rw [show o+k*z+j*z+off=o+(k+j)*z+off by rw [zE1];omega]
theorem IsView.rd {α:Type} {v v2:Value} {z k:Nat} {h:AH} {enc:α→List Value} {l:List α} (V:IsView v v2 z k l.length) (r:zl h v z enc l) (hz:∀ x,(enc x).length=z) (hk:k≤l.length):zl h v2 z enc (l.drop k):=by
 obtain ⟨b,o,cap,c2,rfl,rfl⟩:=V;rcases r with ⟨q,-⟩|⟨b',o',cap,cc,e,s,q,e1,h1,h2⟩
 ·cases q
 ·cases e1
  have hkz:k*z≤l.length*z:=zD3 z hk;have hsub:k*z+(l.length - k)*z=l.length*z:=by rw [← zE1];congr 1;omega
  refine .inr ⟨b,o+k*z,c2,cc,e,s,q,by rw [zB4],h1,?_⟩;rw [zB4,QO hz,Qx h2 (by omega),zF8];rw [zB4,qX hz];omega
section
variable {P:Program} {X:Extern} {inR:Bool} {sz:Nat} {L:Ks} {h h0:AH} {rs:List Rs} {ops:Array Oper} {os:List Oper} {o:Oper} {R:Ks→AH→Prop} {Q:KQ}
theorem cl {α:Type} {x:Operand} {ty e e':TypeId} {v v2:Value} {z k:Nat} {enc:α→List Value} {l:List α} {f:Rs→List Rs} {dd:List Rs} (y0:α) (S:Hs h0 h rs) (V:IsView v v2 z k l.length) (ho:o.op = .call { callee:=.builtin .clear,args:=#[x],argTypes:=#[ty] }) (hx:kA L x=some v2) [i:HasS rs v α e z enc l f dd]
 (w:∀ h',Hs h0 h' (f (.sl v e z enc (l.take k ++ List.replicate (l.length - k) y0)))→KO P X sz ops os L h' R) (hu:P.underlying ty=some (.slice e'):=by exact rfl) (hz0:qV P e'=some (enc y0):=by exact rfl) (h1:(enc y0).all one? = true:=by exact rfl)
 (hz:∀ x,(enc x).length=z:=by intro _;rfl) (hk:k<l.length:=by omega) (hzz:0<z:=by decide) (hg:qo ops L.tree o.guard=some true:=by exact rfl) (hdst:o.dst=none:=by exact rfl):KO P X sz ops (o :: os) L h R:=by
 obtain ⟨b,o',cap,c2,rfl,rfl⟩:=V;obtain ⟨fp,k1,k2,-⟩:=(i.ut (.sl (.slice (some ⟨b,o',none⟩) l.length cap) e z enc l)).ok (h':=h) S.ext.next (zA3 _) S.sep
 rcases k1 with ⟨q,-⟩|⟨b',o2,cc,slk,cap2,g1,g2,g3,g4,g5,g6⟩
 ·cases q
 cases g1
 have hrow:zg (enc y0) (l.length - k)=(List.replicate (l.length - k) y0).flatMap enc:=J8 rfl _;have hrl:((List.replicate (l.length - k) y0).flatMap enc).length=(l.length - k)*z:=by rw [qX hz];simp
 have hkz:k*z+(l.length - k)*z=l.length*z:=by rw [← zE1];congr 1;omega
 obtain ⟨he,hlen⟩:l.flatMap enc=(cc.drop o').take (l.length*z)∧o'+l.length*z≤cc.length:=by
  rcases QU g4 with q|⟨q1,q2⟩
  ·exact q
  ·exfalso
   have:l.length*z=0:=q1;have:=Nat.mul_pos (show 0<l.length by omega) hzz;omega
 have hall:((List.replicate (l.length - k) y0).flatMap enc).all one? = true:=by
  rw [zC8];intro u hu;rw [zG9] at hu;obtain ⟨y,hy,hu⟩:=hu;rw [List.mem_replicate] at hy;rw [hy.2] at hu;exact zC8.1 h1 u hu
 have hput:putCells h b (o'+k*z) cc e slk (zg (enc y0) (l.length - k))=some (h.put b (.cells (splice cc (o'+k*z) ((List.replicate (l.length - k) y0).flatMap enc)) e slk false)):=by
  rw [hrow];unfold putCells;rw [hall,zB3 (by rw [hrl];omega)];rfl
 obtain ⟨m,hm⟩:∃ m,l.length - k=m+1:=⟨l.length - k - 1,by omega⟩
 have hclear:yV P ty (.slice (some ⟨b,o'+k*z,none⟩) (l.length - k) c2) h=some (h.put b (.cells (splice cc (o'+k*z) ((List.replicate (l.length - k) y0).flatMap enc)) e slk false)):=by
  rw [hm] at hput ⊢;simp only [yV,hu,hz0,g2,hput]
 refine zo (v:=.tuple #[]) (h':=h.put b (.cells (splice cc (o'+k*z) ((List.replicate (l.length - k) y0).flatMap enc)) e slk false)) hg ?_ (by simp only [qG,hdst]) (w _ ?_)
 ·rw [ho];simp only [zX,jA,qE hx,jk,hclear]
 ·have hsp:splice cc (o'+k*z) ((List.replicate (l.length - k) y0).flatMap enc)=splice cc (o'+k*z+0) ((List.replicate (l.length - k) y0).flatMap enc):=rfl;have hin:=wH (cc:=cc) (uc:=(List.replicate (l.length - k) y0).flatMap enc) (o:=o') (n:=l.length*z) (a:=k*z) (z:=(l.length - k)*z) (off:=0) hlen (by omega) (by rw [hrl];omega);have hfl:((l.take k ++ List.replicate (l.length - k) y0).flatMap enc)=splice ((cc.drop o').take (l.length*z)) (k*z) (splice ((((cc.drop o').take (l.length*z)).drop (k*z)).take ((l.length - k)*z)) 0 ((List.replicate (l.length - k) y0).flatMap enc)):=by
   rw [← he];have hll:(l.flatMap enc).length=l.length*z:=qX hz l;rw [List.flatMap_append,QN hz];simp only [splice,List.take_zero,zC0,zG1];rw [hrl,List.drop_of_length_le (l:=(((l.flatMap enc).drop (k*z)).take ((l.length - k)*z))) (by rw [zA9];omega),zD7,hrl,List.drop_of_length_le (by omega),zD7]
  refine S.turn (i.ut _) (zA3 _) (S.wf.put (k2 b g3).2.1 _) fun fq q1 q2=>?_;have hb:fq b:=by
   rcases q1 with ⟨q,-⟩|⟨b',o2,cc2,sl2,cap2,q3,q4,q5,-⟩
   ·cases q
   ·cases q3;exact q5
  have hnl:(l.take k ++ List.replicate (l.length - k) y0).length=l.length:=by simp;omega
  refine ⟨fun j _ hj=>by rw [AH.get_put,if_neg];intro q;subst q;exact hj hb,fun j=>j=b,.inr ⟨b,o',_,slk,cap,by rw [hnl],by rw [AH.get_put,if_pos rfl],rfl,?_,?_,g6⟩,fun j hj=>by subst hj;exact ⟨(k2 _ g3).2.1,.inl hb⟩⟩
  ·rw [hnl,hfl];exact hin
  ·rw [hnl,Zr (by rw [hrl];omega)];exact g5
theorem su0 {α:Type} {x:Operand} {lo hi:Option Operand} {vlo vhi:Option Value} {ty:TypeId} {v:Value} {z:Nat} {enc:α→List Value} {l:List α} {d:Tmp} (a b:Nat) (S:Hs h0 h rs) (w0:WfH h0) (hr:zl h0 v z enc l) (hc:Qn v)
 (w:∀ v',zl h0 v' z enc ((l.drop a).take (b - a))→Qn v'→KO P X sz ops os (L.put d v') h R) (ho:o.op = .slice ty x lo hi none:=by exact rfl) (hx:kA L x=some v:=by exact rfl) (hg:qo ops L.tree o.guard=some true:=by exact rfl)
 (hlo:jd L.tree lo=some vlo:=by exact rfl) (hhi:jd L.tree hi=some vhi:=by exact rfl) (hz:∀ x,(enc x).length=z:=by intro _;rfl) (hu:Zn P ty=some z:=by exact rfl)
 (h1:zi vlo 0=some a:=by exact rfl) (h2:zi vhi l.length=some b:=by exact rfl) (hab:a≤b∧b≤l.length:=by first|omega|grind) (hdst:o.dst=some d:=by exact rfl) (hds:Nat.blt d sz=true:=by exact rfl):KO P X sz ops (o :: os) L h R:=by
 obtain ⟨v',e1,e2,e3⟩:=G9 hr hc hz hu h1 h2 hab;have hue:∃ e',P.underlying ty=some (.slice e')∧zI P e'=some z:=by
  unfold Zn at hu;split at hu
  ·exact ⟨_,by assumption,hu⟩
  ·cases hu
 obtain ⟨e',hu1,hu2⟩:=hue;have e4:zH P ty v vlo vhi none h=zH P ty v vlo vhi none h0:=by
  rcases hr with ⟨rfl,g1,g2⟩|⟨b',o',cap,cc,e,s,q,rfl,g1,g2⟩
  ·simp only [zH,hu1]
  ·simp only [zH,hu1,S.ext.get w0 g1,g1]
 refine zo (v:=v') (h':=h) hg ?_ (by simp only [qG,hdst,hds]) (w v' e2 e3);rw [ho];simp only [zX,qE hx,hlo,hhi,show jd L.tree none=some none from rfl,e4,e1,qM,je]
theorem Yv:∀ l:List Nat,bytesOf? (l.flatMap eU)=some (l.map UInt8.ofNat)
 | []=>rfl
 | x :: l=>by
  rw [zG2];show (match byteOf? (.int .u8 (Int.ofNat x)),bytesOf? (l.flatMap eU) with|some b,some s=>some (b :: s) | _,_=>none)=_
  rw [Yv l];rfl
theorem bS {L':Ks} {x:Operand} {s dt e:TypeId} {v:Value} {l:List Nat} (hr:zl h v 1 eU l) (w:KO P X sz ops os L' h R) (ho:o.op = .convert s dt x:=by exact rfl) (hg:qo ops L.tree o.guard=some true:=by exact rfl) (hx:kA L x=some v:=by exact rfl)
 (hs:P.underlying s=some (.slice e):=by exact rfl) (he:P.underlying e=some (.int .u8):=by exact rfl) (hd:P.underlying dt=some .string:=by exact rfl) (hp:qG sz L o.dst (str (l.map UInt8.ofNat))=some L':=by exact rfl):KO P X sz ops (o :: os) L h R:=by
 refine zo hg ?_ hp w;rw [ho];have e1:zS P s dt v h=some (str (l.map UInt8.ofNat)):=by
  rcases hr with ⟨rfl,g1,g2⟩|⟨b',o',cap,cc,e0,s0,q,rfl,g1,g2⟩
  ·have:l=[]:=zE9.1 g1;subst this;simp only [zS,hs,hd,he];rfl
  ·rw [Nat.mul_one] at g2;simp only [zS,hs,hd,he,g1,g2,Yv];rfl
 have e2:zY P s dt v=none:=by
  unfold zY;rw [hs]
 simp only [zX,qE hx,e2,e1]
end
end Go.Proofs.Xx
namespace Go.Proofs.Xx
open Go
section
variable {P:Program} {X:Extern} {inR:Bool} {sz:Nat} {L:Ks} {h h0:AH} {rs:List Rs} {ops:Array Oper} {os:List Oper} {o:Oper} {R:Ks→AH→Prop} {Q:KQ}
def qjP (P:Program) (ty:TypeId):Option (Nat×Nat):=match P.underlying ty with|some (.array n e)=>(match zI P e with|some z=>some (n,z)|none=>none) | _=>none
end
end Go.Proofs.Xx
namespace Go.Proofs.Xx
open Go
section
variable {P:Program} {X:Extern} {inR:Bool} {sz:Nat} {L:Ks} {h h0:AH} {rs:List Rs} {ops:Array Oper} {os:List Oper} {o:Oper} {R:Ks→AH→Prop} {Q:KQ}
theorem qg3 (s:List UInt8):(s.map UInt8.toNat).flatMap eU=s.map fun b=>Value.int .u8 (b.toNat:Int):=by
 induction s with
 | nil=>rfl
 | cons a s ih=>rw [List.map_cons,zG2,ih];rfl
theorem qb9 {rs':List Rs} {ts tx e:TypeId} {by_:Nat} {l:List Nat} {s:List UInt8} {v:Value} (S:Hs h0 h rs) (hs:qQ P ts=some e) (hz:qV P e=some [.int .u8 0]) (hb:Qh P e=some (by_+1)) (hx':P.underlying tx=some .string)
 (hd:Dt rs (.sl v e 1 eU l) rs') (hsz:(l.length+s.length+1)*(by_+1)≤140737488355328) :
 ∃ v' h',zV P [ts,tx] v (str s) h=some (v',h')∧Hs h0 h' (.sl v' e 1 eU (l ++ s.map UInt8.toNat) :: rs'):=by
 have hlen:∀ y,(eU y).length=1:=fun _=>rfl;obtain ⟨l2,hl2⟩:∃ l2,s.map UInt8.toNat=l2:=⟨_,rfl⟩
 have hsl:s.length=l2.length:=by rw [← hl2];simp
 have hall:(l2.flatMap eU).all one? = true:=by
  rw [zC8];intro u hu;rw [zG9] at hu;obtain ⟨y,hy,hu⟩:=hu;simp only [eU,zB5] at hu;subst hu;rfl
 have hsrc:Q9 ([Value.int .u8 0]:List Value).length (str s) h=some (l2.length,l2.flatMap eU):=by
  subst hl2;unfold str;simp only [Q9,zF6,qg3,zC5]
 rw [hl2];rw [hsl] at hsz;have hnl:(l2.flatMap eU).length=l2.length*([Value.int .u8 0]:List Value).length:=qX hlen l2;have k1:Nat.ble ((l2.length+1)*(by_+1)) 140737488355328=true:=zB3 (zD0 (zD3 _ (by omega)) hsz);have k2:Nat.beq (l2.flatMap eU).length (l2.length*([Value.int .u8 0]:List Value).length)=true:=by rw [hnl];simp
 have k3:Nat.ble ((l.length+l2.length)*(by_+1)) 140737488355328=true:=zB3 (zD0 (zD3 _ (by omega)) hsz);obtain ⟨fp,q1,q2,q3⟩:=hd.sep S.sep;have S':Hs h0 h rs':=S.del hd;have front:Hs h0 h (.sl v e 1 eU l :: rs'):=S.front hd;have fresh:∀ (c:List Value) (l3:List Nat),c=l3.flatMap eU→Hs h0 (h.add (.cells c e (some 1) false)) (.sl (.slice (some ⟨h.next,0,none⟩) l3.length l3.length) e 1 eU l3 :: rs'):=by
  intro c l3 hc;have hcl:c.length=l3.length*1:=by rw [hc];exact qX hlen l3
  refine S'.grow (fp:=fun b=>b=h.next) ((Ext.refl S.wf).add _) (.inr ⟨h.next,0,c,some 1,l3.length,rfl,by rw [AH.qW,if_pos rfl],rfl,?_,⟨zA3 _,by omega⟩,.inr rfl⟩) fun b hb=>by subst hb;exact ⟨zA3 _,zG0 _⟩
  rw [← hcl,jf,hc]
 obtain ⟨n2,hn2⟩:∃ n2,l2.length=n2:=⟨_,rfl⟩
 rcases q1 with ⟨rfl,rfl⟩|⟨b,o,cc,slk,cap,g1,g2,g3,g4,g5,g6⟩
 ·rw [hn2] at hsrc k1 k2;cases n2 with
  | zero =>
   have hl2:l2=[]:=zE9.1 hn2;subst hl2;refine ⟨_,_,?_,front⟩;simp only [zV,hs,hx',hz,hb,hsrc,k1,hall,k2,zF9]
  | succ m =>
   refine ⟨.slice (some ⟨h.next,0,none⟩) (m+1) (m+1),h.add (.cells (l2.flatMap eU) e (some 1) false),?_,?_⟩
   ·simp only [zV,hs,hx',hz,hb,hsrc,k1,hall,k2,zF9];rfl
   ·have:=fresh _ l2 rfl;rw [hn2] at this;exact this
 ·subst g1;rw [hn2] at hsrc k1 k2 k3;have hcz:=zD3 1 g5.1;have hoc:o+l.length*1≤cc.length:=by have:=g5.2;omega
  cases n2 with
  | zero =>
   have hl2:l2=[]:=zE9.1 hn2;subst hl2;refine ⟨_,_,?_,by rw [zD7];exact front⟩;have:Nat.ble (l.length+0) cap=true:=zB3 g5.1;simp only [zV,hs,hx',hz,hb,hsrc,k1,hall,k2,zF9,g2,this]
  | succ m =>
   have hcat:l.flatMap eU ++ l2.flatMap eU=(l ++ l2).flatMap eU:=by rw [List.flatMap_append]
   have hln:(l ++ l2).length=l.length+(m+1):=by rw [zB2,hn2]
   have hbl:b<h.next:=(q2 b g3).2.1
   by_cases hfit:l.length+(m+1)≤cap
   ·
    have k4:Nat.ble (l.length+(m+1)) cap=true:=zB3 hfit;have hm1:(l.length+(m+1))*1≤cap*1:=zD3 _ hfit;rw [zE1] at hm1;have hnl':(l2.flatMap eU).length=(m+1)*1:=by rw [hnl,hn2];rfl
    have hfl:o+l.length*1+(l2.flatMap eU).length≤cc.length:=by have:=g5.2;omega
    have hput:putCells h b (o+l.length*1) cc e slk (l2.flatMap eU)=some (h.put b (.cells (splice cc (o+l.length*1) (l2.flatMap eU)) e slk false)):=by
     unfold putCells;rw [hall,zB3 hfl];rfl
    refine ⟨.slice (some ⟨b,o,none⟩) (l.length+(m+1)) cap,h.put b (.cells (splice cc (o+l.length*1) (l2.flatMap eU)) e slk false),?_,?_⟩
    ·have hput':putCells h b (o+l.length*([Value.int .u8 0]:List Value).length) cc e slk (l2.flatMap eU)=some (h.put b (.cells (splice cc (o+l.length*1) (l2.flatMap eU)) e slk false)):=hput;simp only [zV,hs,hx',hz,hb,hsrc,k1,hall,k2,zF9,g2,k4,hput']
    ·refine front.turn .here (zA3 _) (S.wf.put hbl _) fun fq r1 r2=>?_;have hb':fq b:=by
      rcases r1 with ⟨q,-⟩|⟨b',o2,cc2,sl2,cap2,q3,q4,q5,-⟩
      ·cases q
      ·cases q3;exact q5
     refine ⟨fun j hj hn=>?_,fun j=>j=b,.inr ⟨b,o,_,slk,cap,by rw [hln],by rw [AH.get_put,if_pos rfl],rfl,?_,⟨by omega,by rw [Zr hfl];exact g5.2⟩,g6⟩,fun j hj=>by subst hj;exact ⟨hbl,.inl hb'⟩⟩
     ·rw [AH.get_put,if_neg];intro q;subst q;exact hn hb'
     ·rw [hln,← hcat];have hfe:l.flatMap eU=(cc.drop o).take (l.length*1):=by
       rcases QU g4 with q|⟨q1,q2⟩
       ·exact q.1
       ·rw [q2,q1];simp
      rw [Jf (by rw [Zr hfl,zE1];omega)];congr 1
      apply List.ext_getElem?
      intro j;have hll:(l.flatMap eU).length=l.length*1:=qX hlen l;rw [zC7,zF0,hll];by_cases hj:j<l.length*1
      ·rw [if_pos (by rw [zE1];omega),if_pos hj,zC3,JC hfl,if_pos (by omega),hfe,zC7,if_pos hj,zC3]
      ·rw [if_neg hj];by_cases hj2:j<(l.length+(m+1))*1
       ·rw [if_pos hj2,zC3,JC hfl,if_neg (by omega),if_pos (by rw [zE1] at hj2;omega)];congr 1;omega
       ·rw [if_neg hj2,zG5];rw [zE1] at hj2;omega
   have k4:Nat.ble (l.length+(m+1)) cap=false:=by
    cases hq:Nat.ble (l.length+(m+1)) cap with
    | false=>rfl
    | true=>have:=zB6 hq;omega
   have g4':zn cc o (l.length*([Value.int .u8 0]:List Value).length)=some (l.flatMap eU):=g4;rcases g6 with rfl|rfl
   ·have hfr:=fresh _ (l ++ l2) hcat;rw [zB2,hn2] at hfr;refine ⟨_,_,?_,hfr⟩;simp only [zV,hs,hx',hz,hb,hsrc,k1,hall,k2,zF9,g2,k4,g4',k3];rfl
   ·refine ⟨.slice (some ⟨h.next,0,none⟩) (l.length+(m+1)) (l.length+(m+1)),(h.put b .dead).add (.cells (l.flatMap eU ++ l2.flatMap eU) e (some 1) false),?_,?_⟩
    ·have k6:(Nat.beq 1 ([Value.int .u8 0]:List Value).length && Nat.beq e e && Nat.ble (o+cap*1) cc.length)=true:=by
      simp [zB3 (show o+cap≤cc.length by have:=g5.2;omega)]
     simp only [zV,hs,hx',hz,hb,hsrc,k1,hall,k2,zF9,g2,k4,g4',k3,k6];rfl
    ·have hcl:(l.flatMap eU ++ l2.flatMap eU).length=(l ++ l2).length*1:=by rw [hcat];exact qX hlen _
     refine front.turn .here (Nat.le_succ _) ((S.wf.put hbl _).add _) fun fq r1 r2=>?_;have hb':fq b:=by
      rcases r1 with ⟨q,-⟩|⟨b',o2,cc2,sl2,cap2,q3,q4,q5,-⟩
      ·cases q
      ·cases q3;exact q5
     refine ⟨fun j hj hn=>?_,fun j=>j=h.next,.inr ⟨h.next,0,l.flatMap eU ++ l2.flatMap eU,some 1,_,by rw [hln],?_,rfl,?_,⟨by omega,by rw [hcl,hln];omega⟩,.inr rfl⟩,fun j hj=>by subst hj;exact ⟨zG0 _,.inr (zA3 _)⟩⟩
     ·rw [AH.qW,if_neg (by simp only [AH.put];omega),AH.get_put,if_neg];intro q;subst q;exact hn hb'
     ·rw [AH.qW];exact if_pos rfl
     ·rw [← hcl,jf,hcat]
theorem apS {x y:Operand} {ts tx e:TypeId} {by_:Nat} {l:List Nat} {s:List UInt8} {f:Rs→List Rs} {dd:List Rs} {v:Value} {d:Tmp} (S:Hs h0 h rs) (ho:o.op = .call { callee:=.builtin .append,args:=#[x,y],argTypes:=#[ts,tx] }) (hx:kA L x=some v) [i:HasS rs v Nat e 1 eU l f dd]
 (w:∀ v' h',Hs h0 h' (.sl v' e 1 eU (l ++ s.map UInt8.toNat) :: dd)→KO P X sz ops os (L.put d v') h' R) (hg:qo ops L.tree o.guard=some true:=by exact rfl) (hy:kA L y=some (str s):=by exact rfl) (hs:qQ P ts=some e:=by exact rfl) (hz:qV P e=some [.int .u8 0]:=by exact rfl) (hb:Qh P e=some (by_+1):=by exact rfl) (hxs:P.underlying tx=some .string:=by exact rfl)
 (hsz:(l.length+s.length+1)*(by_+1)≤140737488355328:=by first|omega|(simp only [List.length_nil];omega)|grind) (hdst:o.dst=some d:=by exact rfl) (hds:Nat.blt d sz=true:=by exact rfl):KO P X sz ops (o :: os) L h R:=by
 obtain ⟨v',h',q1,q2⟩:=qb9 S hs hz hb hxs i.dt hsz;exact kV ho hg hx hy q1 (by simp only [qG,hdst,hds]) (w v' h' q2)
theorem usd {x:Operand} {ty e:TypeId} {l:List Nat} {f:Rs→List Rs} {dd:List Rs} {v:Value} {d:Tmp} (S:Hs h0 h rs) (hl:0<l.length) (ho:o.op = .call { callee:=.builtin .unsafeSliceData,args:=#[x],argTypes:=#[ty] }) (hx:kA L x=some v) [i:HasS rs v Nat e 1 eU l f dd]
 (w:∀ b o cap,v = .slice (some ⟨b,o,none⟩) l.length cap→KO P X sz ops os (L.put d (.pointer (some ⟨b,o,none⟩))) h R) (hg:qo ops L.tree o.guard=some true:=by exact rfl) (hdst:o.dst=some d:=by exact rfl) (hds:Nat.blt d sz=true:=by exact rfl):KO P X sz ops (o :: os) L h R:=by
 obtain ⟨fp,q1,q2,q3⟩:=i.dt.sep S.sep;rcases q1 with ⟨rfl,rfl⟩|⟨b,o',cc,slk,cap,g1,g2,g3,g4,g5,g6⟩
 ·simp at hl
 refine zo (v:=.pointer (some ⟨b,o',none⟩)) (h':=h) hg ?_ (by simp only [qG,hdst,hds]) (w b o' cap g1);rw [ho];obtain ⟨m,hm⟩:∃ m,cap=m+1:=⟨cap - 1,by have:=g5.1;omega⟩
 subst g1;have e1:JS (.slice (some ⟨b,o',none⟩) l.length cap)=some (.pointer (some ⟨b,o',none⟩)):=by rw [hm];rfl
 simp only [zX,jA,qE hx,jk,e1,qM]
theorem uns {x y:Operand} {pt nt e:TypeId} {l:List Nat} {f:Rs→List Rs} {dd:List Rs} {b o' cap:Nat} {d:Tmp} (S:Hs h0 h rs) (hl:0<l.length∧l.length≤4611686018427387904) (ho:o.op = .call { callee:=.builtin .unsafeString,args:=#[x,y],argTypes:=#[pt,nt] }) (hx:kA L x=some (.pointer (some ⟨b,o',none⟩))) [i:HasS rs (.slice (some ⟨b,o',none⟩) l.length cap) Nat e 1 eU l f dd]
 (w:∀ h',Hs h0 h' dd→KO P X sz ops os (L.put d (str (l.map UInt8.ofNat))) h' R) (hy:kA L y=some (.int .i64 l.length):=by exact rfl) (hp:P.underlying pt=some (.pointer e):=by exact rfl) (he:P.underlying e=some (.int .u8):=by exact rfl) (hz:zI P e=some 1:=by exact rfl) (hg:qo ops L.tree o.guard=some true:=by exact rfl) (hdst:o.dst=some d:=by exact rfl) (hds:Nat.blt d sz=true:=by exact rfl):KO P X sz ops (o :: os) L h R:=by
 obtain ⟨fp,q1,q2,q3⟩:=i.dt.sep S.sep;rcases q1 with ⟨q,-⟩|⟨b',o2,cc,slk,cap2,g1,g2,g3,g4,g5,g6⟩
 ·cases q
 cases g1
 have hbl:b<h.next:=(q2 b g3).2.1
 obtain ⟨m,hm⟩:∃ m,l.length=m+1:=⟨l.length - 1,by omega⟩
 have front:Hs h0 h (.sl (.slice (some ⟨b,o',none⟩) l.length cap) e 1 eU l :: dd):=S.front i.dt;have S2:Hs h0 (h.put b (.cells cc e slk true)) (.any (fun _ _=>True) :: dd):=by
  refine front.turn .here (zA3 _) (S.wf.put hbl _) fun fq r1 r2=>?_;have hb':fq b:=by
   rcases r1 with ⟨q,-⟩|⟨b',o2,cc2,sl2,cap3,q3,q4,q5,-⟩
   ·cases q
   ·cases q3;exact q5
  exact ⟨fun j hj hn=>by rw [AH.get_put,if_neg];intro q;subst q;exact hn hb',fun _=>False,fun _ _=>trivial,fun _ q=>q.elim⟩
 refine zo (v:=str (l.map UInt8.ofNat)) (h':=h.put b (.cells cc e slk true)) hg ?_ (by simp only [qG,hdst,hds]) (w _ S2.tail);rw [ho];rw [Nat.mul_one] at g4;have k1:Nat.ble l.length 4611686018427387904=true:=zB3 hl.2;have k2:Nat.beq e e=true:=by simp
 have e1:Qs P [pt,nt] (.pointer (some ⟨b,o',none⟩)) (.int .i64 l.length) h=some (str (l.map UInt8.ofNat),h.put b (.cells cc e slk true)):=by
  have hcast:((l.length:Nat):Int)=Int.ofNat l.length:=rfl;rw [hcast];simp only [Qs,hp,g2,he,hz,k1,k2,zF9,g4,Yv];rw [hm];rfl
 have e2:ja L.tree y=some (.int .i64 l.length):=qE hy;simp only [zX,jA,qE hx,e2,jk,e1,Qa]
end
end Go.Proofs.Xx
namespace Go.Proofs.Xx
open Go
abbrev lpR (l:Nat) (o:Qp):Rs:=.any (fun h fp=>h.get l=some o∧fp l)
def yv (l:Nat):Value:=.func (.yield l) #[] #[]
section
variable {h h0:AH} {rs:List Rs} {l:Nat} {o:Qp}
theorem Hs.bY (S:Hs h0 h rs) {b:Nat} {o:Qp} (hb:h0.get b=some o) (w:WfH h0):b<h.next :=
 zE4 (Nat.lt_of_not_le fun q=>by have:=w b q;rw [hb] at this;cases this) S.ext.next
end
section
variable {P:Program} {X:Extern} {inR:Bool} {sz:Nat} {L:Ks} {h h0:AH} {rs:List Rs} {ops:Array Oper} {os:List Oper} {o:Oper} {R:Ks→AH→Prop} {Q:KQ}
def Yd (P:Program) (X:Extern) (l:Nat) (args:List Value) (h:AH) (Q:Value→AH→Prop):Prop:=∃ n v h',Ze (exec P X n) l args h=some (v,h')∧Q v h'
theorem Yd.mono {l:Nat} {args:List Value} {Q Q':Value→AH→Prop} (w:Yd P X l args h Q) (hq:∀ v h',Q v h'→Q' v h'):Yd P X l args h Q':=by
 obtain ⟨n,v,h',h1,h2⟩:=w;exact ⟨n,v,h',h1,hq _ _ h2⟩
end
end Go.Proofs.Xx
namespace Go.Proofs.Xx
open Go
section
variable {P:Program} {X:Extern} {sz:Nat} {L:Ks} {h h0:AH} {rs:List Rs} {ops:Array Oper} {os:List Oper} {o:Oper} {R:Ks→AH→Prop}
end
class HasV (rs:List Rs) (v:Value):Prop where
 fp:∀ {lo:Nat} {h:AH} {U:Fp},Sep lo h rs U→v≠.slice none 0 0→U (P7 v)
instance HasV.there {rs:List Rs} {v:Value} {s:Rs} [k:HasV rs v]:HasV (s :: rs) v:=⟨fun S hv=>by
 obtain ⟨f,-,-,h3⟩:=S;exact (k.fp h3 hv).1⟩
instance HasV.sl {rs:List Rs} {v:Value} {α:Type} {e:TypeId} {z:Nat} {enc:α→List Value} {l:List α}:HasV (.sl v e z enc l :: rs) v:=⟨fun S hv=>by
 obtain ⟨f,h1,h2,-⟩:=S;rcases h1 with ⟨q,-⟩|⟨b,o,cc,slk,cap,rfl,-,q,-⟩
 ·exact absurd q hv
 ·exact (h2 b q).2.2⟩
instance HasV.rd {rs:List Rs} {v:Value} {α:Type} {z:Nat} {enc:α→List Value} {l:List α}:HasV (.rd v z enc l :: rs) v:=⟨fun S hv=>by
 obtain ⟨f,h1,h2,-⟩:=S;rcases h1 with ⟨q,-⟩|⟨b,o,cap,cc,e,s,r,rfl,-,q,-⟩
 ·exact absurd q hv
 ·exact (h2 b q).2.2⟩
class HasK (rs:List Rs) (b:Nat):Prop where
 fp:∀ {lo:Nat} {h:AH} {U:Fp},Sep lo h rs U→U b
instance HasK.there {rs:List Rs} {b:Nat} {s:Rs} [k:HasK rs b]:HasK (s :: rs) b:=⟨fun S=>by
 obtain ⟨f,-,-,h3⟩:=S;exact (k.fp h3).1⟩
instance HasK.here {rs:List Rs} {b:Nat} {c:List Value} {e:TypeId}:HasK (.blk b c e :: rs) b:=⟨fun S=>by
 obtain ⟨f,h1,h2,-⟩:=S;exact (h2 b h1.2).2.2⟩
class NeB (rs:List Rs) (b:Nat) (v:Value):Prop where
 ne:∀ {lo:Nat} {h:AH} {U:Fp},Sep lo h rs U→v≠.slice none 0 0→P7 v≠b
instance NeB.there {rs:List Rs} {b:Nat} {v:Value} {s:Rs} [k:NeB rs b v]:NeB (s :: rs) b v:=⟨fun S hv=>by
 obtain ⟨f,-,-,h3⟩:=S;exact k.ne h3 hv⟩
instance NeB.blk {rs:List Rs} {b:Nat} {v:Value} {c:List Value} {e:TypeId} [k:HasV rs v]:NeB (.blk b c e :: rs) b v:=⟨fun S hv q=>by
 obtain ⟨f,h1,h2,h3⟩:=S;have:=(k.fp h3 hv).2;rw [q] at this;exact this h1.2⟩
instance NeB.sl {rs:List Rs} {b:Nat} {v:Value} {α:Type} {e:TypeId} {z:Nat} {enc:α→List Value} {l:List α} [k:HasK rs b]:NeB (.sl v e z enc l :: rs) b v:=⟨fun S hv q=>by
 obtain ⟨f,h1,h2,h3⟩:=S;rcases h1 with ⟨q',-⟩|⟨b',o,cc,slk,cap,rfl,-,q',-⟩
 ·exact absurd q' hv
 ·have:=(k.fp h3).2;exact this (by rw [← q];exact q')⟩
section
variable {P:Program} {X:Extern} {sz:Nat} {L:Ks} {h h0:AH} {rs:List Rs} {ops:Array Oper} {os:List Oper} {o:Oper} {R:Ks→AH→Prop}
end
abbrev okV (ok:Bool) (v:Value) (b:Bool):Value:=match ok with|true=>.tuple #[v,.bool b]|false=>v
def Ja {α:Type} (k:List UInt8):List (List UInt8×α)→Nat→Option (Nat×α)
 | [],_=>none
 | p :: r,i=>if p.1=k then some (i,p.2) else Ja k r (i+1)
def VC {α:Type} (l:List (List UInt8×α)) (k:List UInt8):Option α:=(Ja k l 0).map (·.2)
theorem qfG (a b:List UInt8):((⟨a.toArray⟩:ByteArray) == ⟨b.toArray⟩)=decide (a=b):=by
 rw [Bool.eq_iff_iff];constructor
 ·intro h;have h2:=ba_eq h;have h3:a.toArray=b.toArray:=congrArg ByteArray.data h2;simpa using h3
 ·intro h;have h2:a=b:=by simpa using h
  subst h2;exact qbS _
theorem yT {α:Type} {enc:α→Value} {k:List UInt8}:∀ {es:List (Value×Value×Nat)} {l:List (List UInt8×α)} {i:Nat},es.map (fun e=>(e.1,e.2.1))=l.map (fun p=>(Value.string ⟨p.1.toArray⟩,enc p.2)) →
 Zp .string (str k) es i=some ((Ja k l i).map fun q=>(q.1,enc q.2))
 | [],[],i,_=>rfl
 | [],p :: r,i,h=>by simp at h
 | e :: es,[],i,h=>by simp at h
 | e :: es,p :: r,i,h=>by
  simp only [List.map_cons,List.cons.injEq,Prod.mk.injEq] at h;obtain ⟨⟨h1,h2⟩,h3⟩:=h;have hs:Instr.sameNow .string (str k) e.1=some (decide (k=p.1)):=by
   rw [h1];show some (((⟨k.toArray⟩:ByteArray) == ⟨p.1.toArray⟩))=_
   rw [qfG]
  unfold Zp;unfold Ja;by_cases hk:p.1=k
  ·rw [hs,decide_eq_true hk.symm,if_pos hk,h2];rfl
  ·rw [hs,decide_eq_false (fun q=>hk q.symm),if_neg hk];exact yT h3
theorem qcB {α:Type} {l:List (List UInt8×α)} {k:List UInt8} (h:VC l k=none):Ja k l 0=none:=by
 unfold VC at h;cases hq:Ja k l 0 with
 | none=>rfl
 | some q=>rw [hq] at h;cases h
theorem qcA {α:Type} {l:List (List UInt8×α)} {k:List UInt8} {x:α} (h:VC l k=some x):∃ i,Ja k l 0=some (i,x):=by
 unfold VC at h;cases hq:Ja k l 0 with
 | none=>rw [hq] at h;cases h
 | some q=>rw [hq] at h;cases h;exact ⟨q.1,rfl⟩
section
variable {P:Program} {X:Extern} {inR:Bool} {sz:Nat} {L:Ks} {h h0:AH} {rs:List Rs} {ops:Array Oper} {os:List Oper} {o:Oper} {R:Ks→AH→Prop} {Q:KQ}
theorem qdX {α:Type} {b:Nat} {enc:α→Value} {l:List (List UInt8×α)} (S:Hs h0 h rs) (a:At rs (.mp b enc l)):∃ es clock,h.get b=some (.map es clock)∧es.map (fun e=>(e.1,e.2.1))=l.map (fun p=>(Value.string ⟨p.1.toArray⟩,enc p.2))∧(∀ e∈es,e.2.2<clock)∧(es.map (·.2.2)).Nodup:=by
 obtain ⟨fp,k,_⟩:=a.ok S.sep;obtain ⟨es,clock,h1,h2,h3⟩:=k;exact ⟨es,clock,h1,h3⟩
theorem qcC {α:Type} {b:Nat} {enc:α→Value} {l:List (List UInt8×α)} (S:Hs h0 h rs) (a:At rs (.mp b enc l)) {ty kt et:TypeId} {key:List UInt8} {z:Value} (ok:Bool)
 (hu:P.underlying ty=some (.map kt et)) (hkt:P.underlying kt=some .string) (hz:zeroV P et=some z) :
 Qw P ty (.map (some b)) (str key) ok h=some (match VC l key with
  | some x=>(okV ok (enc x) true)
  | none=>(okV ok z false)):=by
 obtain ⟨es,clock,h1,h2,-⟩:=qdX S a;have hT:WG P ty (str key)=some (.string,et):=by
  unfold WG;simp only [hu,hkt];rfl
 have hM:XB (.map (some b)) h=some es:=by
  unfold XB;simp only [h1]
 have hF:=yT (enc:=enc) (k:=key) (i:=0) h2;unfold Qw;rw [hT,hM];simp only [hF];cases hq:VC l key with
 | none=>rw [qcB hq];simp only [Option.map_none,hz];rfl
 | some x =>
  obtain ⟨i,hi⟩:=qcA hq;rw [hi];simp only [Option.map_some];rfl
theorem lk {α:Type} {b:Nat} {enc:α→Value} {l:List (List UInt8×α)} {m k:Operand} {ty kt et:TypeId} {key:List UInt8} {z:Value} {d:Tmp} {ok:Bool} (S:Hs h0 h rs) (a:At rs (.mp b enc l))
 (w1:∀ x,VC l key=some x→KO P X sz ops os (L.put d (okV ok (enc x) true)) h R)
 (w2:VC l key=none→KO P X sz ops os (L.put d (okV ok z false)) h R)
 (ho:o.op = .lookup ty m k ok:=by exact rfl) (hg:qo ops L.tree o.guard=some true:=by exact rfl) (hm:kA L m=some (.map (some b)):=by exact rfl) (hk:kA L k=some (str key):=by exact rfl)
 (hu:P.underlying ty=some (.map kt et):=by exact rfl) (hkt:P.underlying kt=some .string:=by exact rfl) (hz:zeroV P et=some z:=by exact rfl) (hdst:o.dst=some d:=by exact rfl) (hds:Nat.blt d sz=true:=by exact rfl):KO P X sz ops (o :: os) L h R:=by
 have e:=qcC (key:=key) S a ok hu hkt hz;cases hq:VC l key with
 | none =>
  rw [hq] at e;refine zo hg (v:=okV ok z false) (h':=h) ?_ (show qG sz L o.dst _=some (L.put d _) by simp only [qG,hdst,hds]) (w2 hq);rw [ho];simp only [zX,qE hm,qE hk,e,qM]
 | some x =>
  rw [hq] at e;refine zo hg (v:=okV ok (enc x) true) (h':=h) ?_ (show qG sz L o.dst _=some (L.put d _) by simp only [qG,hdst,hds]) (w1 x hq);rw [ho];simp only [zX,qE hm,qE hk,e,qM]
theorem Hs.qf1 {α:Type} {rs':List Rs} {b clock2:Nat} {enc:α→Value} {l l2:List (List UInt8×α)} {es2:List (Value×Value×Nat)} (S:Hs h0 h rs) (u:Ut rs (.mp b enc l) (.mp b enc l2) rs')
 (h2:es2.map (fun e=>(e.1,e.2.1))=l2.map (fun p=>(Value.string ⟨p.1.toArray⟩,enc p.2))) (hc:∀ e∈es2,e.2.2<clock2) (hn:(es2.map (·.2.2)).Nodup):Hs h0 (h.put b (.map es2 clock2)) rs':=by
 obtain ⟨fp,k,k2,-⟩:=u.ok (h':=h) S.ext.next (zA3 _) S.sep
 obtain ⟨es,clock,g1,g2,-⟩:=k;refine S.turn u (zA3 _) (S.wf.put (k2 b g2).2.1 _) fun fq q1 q2=>⟨fun j _ hj=>?_,fun j=>j=b,⟨es2,clock2,by rw [AH.get_put,if_pos rfl],rfl,h2,hc,hn⟩,fun j hj=>?_⟩
 ·obtain ⟨_,_,_,g,_⟩:=q1;rw [AH.get_put,if_neg];intro q;subst q;exact hj g
 ·obtain ⟨_,_,_,g,_⟩:=q1;subst hj;exact ⟨(q2 _ g).2,.inl g⟩
theorem Hs.qh9 {α:Type} (enc:α→Value) (S:Hs h0 h rs):Hs h0 (h.add (.map [] 0)) (.mp h.next enc [] :: rs) :=
 S.grow (fp:=fun b=>b=h.next) ((Ext.refl S.wf).add _) ⟨[],0,by rw [AH.qW,if_pos rfl],rfl,rfl,(fun e he=>by cases he),List.Pairwise.nil⟩ fun b hb=>by subst hb;exact ⟨zA3 _,zG0 _⟩
theorem mkm {α:Type} (enc:α→Value) {ty:TypeId} {d:Tmp} (S:Hs h0 h rs) (w:∀ b h',Hs h0 h' (.mp b enc [] :: rs)→KO P X sz ops os (L.put d (.map (some b))) h' R) (ho:o.op = .makeMap ty none:=by exact rfl) (hg:qo ops L.tree o.guard=some true:=by exact rfl) (hdst:o.dst=some d:=by exact rfl) (hds:Nat.blt d sz=true:=by exact rfl):KO P X sz ops (o :: os) L h R :=
 zo hg (v:=.map (some h.next)) (h':=h.add (.map [] 0)) (by rw [ho];rfl) (show qG sz L o.dst _=some (L.put d _) by simp only [qG,hdst,hds]) (w _ _ (S.qh9 enc))
def KA {α:Type} (l:List (List UInt8×α)) (k:List UInt8) (x:α):List (List UInt8×α):=match Ja k l 0 with|some q=>l.set q.1 (k,x)|none=>l ++ [(k,x)]
theorem modify_eq_set {β:Type} {l:List β} {i:Nat} {f:β→β} {y e:β} (he:l[i]? = some e) (hf:f e=y):l.modify i f=l.set i y:=by
 apply List.ext_getElem?
 intro j;rw [List.getElem?_modify,List.getElem?_set];by_cases hj:i=j
 ·subst hj;have hl:i<l.length:=(zD6.1 he).1;have e2:l[i]=e:=(zD6.1 he).2;simp [hl,e2,hf]
 ·simp [hj]
theorem KC {α:Type} {k:List UInt8}:∀ {l:List (List UInt8×α)} {i:Nat} {q:Nat×α},Ja k l i=some q→i≤q.1∧l[q.1 - i]? = some (k,q.2)
 | [],i,q,h=>by cases h
 | p :: r,i,q,h=>by
  unfold Ja at h;split at h
  ·rename_i hk
   cases h
   refine ⟨zA3 _,?_⟩;rw [zG6];show some p=_
   rw [← hk]
  ·obtain ⟨h1,h2⟩:=KC h;refine ⟨by omega,?_⟩;rw [show q.1 - i=(q.1 - (i+1))+1 by omega];exact h2
theorem qb4 {α:Type} {key:List UInt8} {b:Nat} {enc:α→Value} {l:List (List UInt8×α)} {rs':List Rs} {x:α} (S:Hs h0 h rs) (u:Ut rs (.mp b enc l) (.mp b enc (KA l key x)) rs') (a:At rs (.mp b enc l)) {ty kt et:TypeId}
 (hu:P.underlying ty=some (.map kt et)) (hkt:P.underlying kt=some .string) :
 ∃ h',Qi P ty (.map (some b)) (str key) (enc x) h=some h'∧Hs h0 h' rs':=by
 obtain ⟨es,clock,h1,h2,h3,h4⟩:=qdX S a;have hT:WG P ty (str key)=some (.string,et):=by
  unfold WG;simp only [hu,hkt];rfl
 have hF:=yT (enc:=enc) (k:=key) (i:=0) h2;unfold Qi;simp only [hT,h1,hF];unfold KA at u;cases hq:Ja key l 0 with
 | none =>
  rw [hq] at u;refine ⟨_,rfl,S.qf1 u ?_ ?_ ?_⟩
  ·rw [zC9,zC9,h2];rfl
  ·intro e he;rcases zB8.1 he with q|q
   ·have:=h3 e q;omega
   ·simp at q;subst q;exact zG0 _
  ·rw [zC9,zG4];refine ⟨h4,by simp,?_⟩;intro c hc d hd;obtain ⟨e,he,rfl⟩:=zF1.1 hc;simp at hd;subst hd;have:=h3 e he;omega
 | some q =>
  rw [hq] at u;obtain ⟨i,y⟩:=q;obtain ⟨-,hl⟩:=KC hq;have hle:es.length=l.length:=by simpa using congrArg List.length h2
  obtain ⟨e,he⟩:∃ e,es[i]? = some e:=⟨es[i]'(by have:=(zD6.1 hl).1;omega),by simp⟩
  have hm:=modify_eq_set (f:=fun e:Value×Value×Nat=>(str key,enc x,e.2.2)) (y:=(str key,enc x,e.2.2)) he rfl;refine ⟨_,rfl,S.qf1 u ?_ ?_ ?_⟩
  ·rw [hm,List.map_set,List.map_set,h2];rfl
  ·intro e1 h1;rw [hm] at h1;rcases List.mem_or_eq_of_mem_set h1 with q|q
   ·exact h3 e1 q
   ·subst q;exact h3 e (List.mem_of_getElem? he)
  ·rw [hm,List.map_set];have:(es.map (·.2.2)).set i e.2.2=es.map (·.2.2):=by
    apply List.ext_getElem?
    intro j;rw [List.getElem?_set];by_cases hj:i=j
    ·subst hj;have hl2:=(zD6.1 he)
     obtain ⟨g1,g2⟩:=hl2;simp [g1,g2]
    ·simp [hj]
   rw [this];exact h4
theorem up {α:Type} {L':Ks} {b:Nat} {enc:α→Value} {l:List (List UInt8×α)} {rs':List Rs} {key:List UInt8} {y:Value} {m k v:Operand} {ty kt et:TypeId} (x:α) (S:Hs h0 h rs) (a:At rs (.mp b enc l)) (u:Ut rs (.mp b enc l) (.mp b enc (KA l key x)) rs')
 (w:∀ h',Hs h0 h' rs'→KO P X sz ops os L' h' R) (ho:o.op = .mapUpdate ty m k v∨o.op = .insert ty m k v) (hg:qo ops L.tree o.guard=some true:=by exact rfl) (hm:kA L m=some (.map (some b)):=by exact rfl) (hk:kA L k=some (str key):=by exact rfl) (hv:kA L v=some y:=by exact rfl) (hy:y=enc x:=by exact rfl)
 (hu:P.underlying ty=some (.map kt et):=by exact rfl) (hkt:P.underlying kt=some .string:=by exact rfl) (hp:qG sz L o.dst (.tuple #[])=some L':=by exact rfl):KO P X sz ops (o :: os) L h R:=by
 subst hy;obtain ⟨h',e1,e2⟩:=qb4 (x:=x) S u a hu hkt;refine GG hg (h':=h') ?_ hp (w h' e2);rcases ho with ho|ho
 ·rw [ho];simp only [zX,qE hm,qE hk,qE hv,e1]
 ·rw [ho];simp only [zX,qE hm,qE hk,qE hv,e1]
theorem qd0 {α:Type} {l:List (List UInt8×α)} {k:List UInt8} {x:α}:∀ (j:List UInt8),VC (KA l k x) j=if j=k then some x else VC l j:=by
 intro j;have key:∀ (l:List (List UInt8×α)) (i:Nat),(Ja j (match Ja k l i with|some q=>l.set (q.1 - i) (k,x)|none=>l ++ [(k,x)]) i).map (·.2)=if j=k then some x else (Ja j l i).map (·.2):=by
  intro l;induction l with
  | nil =>
   intro i;simp only [Ja,zC0];by_cases h:j=k
   ·subst h;simp
   ·rw [if_neg (fun q=>h q.symm),if_neg h]
  | cons p r ih =>
   intro i;by_cases hk:p.1=k
   ·simp only [Ja,if_pos hk,zG6,List.set_cons_zero];by_cases hj:j=k
    ·subst hj;simp
    ·rw [if_neg (fun q=>hj q.symm),if_neg hj,if_neg (fun q=>hj (q.symm.trans hk))]
   ·have e:=ih (i+1);simp only [Ja,if_neg hk];cases hq:Ja k r (i+1) with
    | none =>
     rw [hq] at e;simp only [zC6,Ja] at e ⊢;by_cases hj:p.1=j
     ·rw [if_pos hj,if_pos hj,if_neg (fun q=>hk (hj.trans q))]
     ·rw [if_neg hj,if_neg hj];exact e
    | some q =>
     rw [hq] at e;obtain ⟨g1,-⟩:=KC hq;simp only at e ⊢;rw [show q.1 - i=(q.1 - (i+1))+1 by omega];simp only [List.set_cons_succ,Ja];by_cases hj:p.1=j
     ·rw [if_pos hj,if_pos hj,if_neg (fun q=>hk (hj.trans q))]
     ·rw [if_neg hj,if_neg hj];exact e
 have:=key l 0;unfold VC KA;exact this
end
def jv (a b:List UInt8):Prop:=Op.bytesLess a b=true
instance (a b:List UInt8):Decidable (jv a b):=inferInstanceAs (Decidable (_=true))
theorem YS (a:List UInt8):¬ jv a []:=by unfold jv;cases a<;>simp [Op.bytesLess]
theorem WY (b:UInt8) (l:List UInt8):jv [] (b :: l):=by unfold jv;simp [Op.bytesLess]
theorem ZC {a b:UInt8} {x y:List UInt8}:jv (a :: x) (b :: y)↔a<b∨(a=b∧jv x y):=by
 unfold jv;simp [Op.bytesLess]
theorem zG:∀ a:List UInt8,¬ jv a a
 | []=>YS _
 | a :: x=>by
  rw [ZC];rintro (h|⟨-,h⟩)
  ·exact UInt8.lt_irrefl _ h
  ·exact zG x h
theorem Qj:∀ {a b c:List UInt8},jv a b→jv b c→jv a c
 | _,[],_,h,_=>absurd h (YS _)
 | _,_ :: _,[],_,h=>absurd h (YS _)
 | [],_ :: _,c :: z,_,_=>WY _ _
 | a :: x,b :: y,c :: z,h1,h2=>by
  rw [ZC] at h1 h2 ⊢;rcases h1 with h1|⟨rfl,h1⟩<;>rcases h2 with h2|⟨rfl,h2⟩
  ·exact .inl (UInt8.lt_trans h1 h2)
  ·exact .inl h1
  ·exact .inl h2
  ·exact .inr ⟨rfl,Qj h1 h2⟩
theorem ZQ:∀ (a b:List UInt8),jv a b∨a=b∨jv b a
 | [],[]=>.inr (.inl rfl)
 | [],b :: y=>.inl (WY _ _)
 | a :: x,[]=>.inr (.inr (WY _ _))
 | a :: x,b :: y=>by
  rw [ZC,ZC];rcases zE7 a.toNat b.toNat with h|h|h
  ·exact .inl (.inl (UInt8.lt_iff_toNat_lt.2 h))
  ·have e:a=b:=UInt8.toNat_inj.1 h;subst e;rcases ZQ x y with h|h|h
   ·exact .inl (.inr ⟨rfl,h⟩)
   ·exact .inr (.inl (by rw [h]))
   ·exact .inr (.inr (.inr ⟨rfl,h⟩))
  ·exact .inr (.inr (.inl (UInt8.lt_iff_toNat_lt.2 h)))
theorem Vq {a b:List UInt8} (h:jv a b):¬ jv b a:=fun q=>zG a (Qj h q)
theorem qdA {a b:List UInt8} (h:jv a b):a≠b:=fun e=>by subst e;exact zG _ h
theorem qgs {a b:List UInt8} (h:¬ jv a b):b=a∨jv b a:=by
 rcases ZQ a b with q|q|q
 ·exact absurd q h
 ·exact .inl q.symm
 ·exact .inr q
def Vo (a b:List UInt8):List UInt8:=if jv b a then b else a
def Vp (a b:List UInt8):List UInt8:=if jv a b then b else a
def qgB (op:BinOp) (a b:List UInt8):Option Prop :=
 match op with
 | .lss=>some (jv a b)
 | .geq=>some (¬ jv a b)
 | .gtr=>some (jv b a)
 | .leq=>some (¬ jv b a)
 | _=>none
theorem yg (a b:List UInt8):(Op.bytesLess a b || zK ⟨a.toArray⟩ ⟨b.toArray⟩) = !(Op.bytesLess b a):=by
 rw [jJ];rcases ZQ a b with h|h|h
 ·have h2:Op.bytesLess b a=false:=by
   have:=Vq h;unfold jv at this;simpa using this
  unfold jv at h;rw [h,h2];rfl
 ·subst h;have h2:Op.bytesLess a a=false:=by
   have:=zG a;unfold jv at this;simpa using this
  rw [h2];simp
 ·have h2:Op.bytesLess a b=false:=by
   have:=Vq h;unfold jv at this;simpa using this
  have h3:decide (a=b)=false:=decide_eq_false fun e=>zG b (by rw [e] at h;exact h);unfold jv at h;rw [h,h2,h3];rfl
theorem Pj {P:Program} {op:BinOp} {ty:TypeId} {a b:List UInt8} {p:Prop} (h:qgB op a b=some p) (v:Bool) (hv:p↔v=true):jP P op ty (str a) (str b)=some (.bool v):=by
 have key:∀ q:Prop,∀ d:Bool,(q↔d=true)→(q↔v=true)→d=v:=fun q d h1 h2=>by
  cases d<;>cases v<;>simp_all
 unfold str;cases op<;>simp only [qgB,Option.some.injEq] at h<;>try (cases h;done)
 all_goals (subst h)
 all_goals (simp only [jP,zF6,yg,Option.some.injEq,Value.bool.injEq])
 ·exact key _ _ Iff.rfl hv
 ·exact key _ _ (by unfold jv;simp) hv
 ·exact key _ _ (by unfold jv;simp) hv
 ·exact key _ _ (by unfold jv;simp) hv
section
variable {P:Program} {X:Extern} {inR:Bool} {sz:Nat} {L:Ks} {h h0:AH} {rs:List Rs} {ops:Array Oper} {os:List Oper} {o:Oper} {R:Ks→AH→Prop} {Q:KQ}
theorem tO {L1 L2:Ks} {op:BinOp} {x y:Operand} {ty ty2:TypeId} {l m:List UInt8} {p:Prop} (w1:p→KO P X sz ops os L1 h R) (w2:¬ p→KO P X sz ops os L2 h R) (ho:o.op = .binOp op ty x y ty2:=by exact rfl) (hg:qo ops L.tree o.guard=some true:=by exact rfl) (hx:kA L x=some (str l):=by exact rfl) (hy:kA L y=some (str m):=by exact rfl)
 (hop:qgB op l m=some p:=by exact rfl) (hp1:qG sz L o.dst (.bool true)=some L1:=by exact rfl) (hp2:qG sz L o.dst (.bool false)=some L2:=by exact rfl):KO P X sz ops (o :: os) L h R:=by
 by_cases q:p
 ·exact zN ho hg hx hy (Pj hop true (by simp [q])) hp1 (w1 q)
 ·exact zN ho hg hx hy (Pj hop false (by simp [q])) hp2 (w2 q)
theorem mnS {L':Ks} {x y:Operand} {tys:Array TypeId} {a b:List UInt8} (w:KO P X sz ops os L' h R) (ho:o.op = .call { callee:=.builtin .min,args:=#[x,y],argTypes:=tys }:=by exact rfl) (hg:qo ops L.tree o.guard=some true:=by exact rfl) (hx:kA L x=some (str a):=by exact rfl) (hy:kA L y=some (str b):=by exact rfl)
 (hp:qG sz L o.dst (str (Vo a b))=some L':=by exact rfl):KO P X sz ops (o :: os) L h R :=
 zo hg (by
  rw [ho];unfold str;have e:(if (Op.bytesLess a b || zK ⟨a.toArray⟩ ⟨b.toArray⟩)=true then (⟨a.toArray⟩:ByteArray) else ⟨b.toArray⟩)=⟨(Vo a b).toArray⟩:=by
   rw [yg];unfold Vo jv;by_cases hb:Op.bytesLess b a=true<;>simp [hb]
  have hx':=qE hx;have hy':=qE hy;unfold str at hx' hy';simp only [zX,jA,hx',hy',jk,Y0,lesser,qM,e]) hp w
theorem mxS {L':Ks} {x y:Operand} {tys:Array TypeId} {a b:List UInt8} (w:KO P X sz ops os L' h R) (ho:o.op = .call { callee:=.builtin .max,args:=#[x,y],argTypes:=tys }:=by exact rfl) (hg:qo ops L.tree o.guard=some true:=by exact rfl) (hx:kA L x=some (str a):=by exact rfl) (hy:kA L y=some (str b):=by exact rfl)
 (hp:qG sz L o.dst (str (Vp a b))=some L':=by exact rfl):KO P X sz ops (o :: os) L h R :=
 zo hg (by
  rw [ho];unfold str;have e:(if (!Op.bytesLess a b)=true then (⟨a.toArray⟩:ByteArray) else ⟨b.toArray⟩)=⟨(Vp a b).toArray⟩:=by
   unfold Vp jv;by_cases hb:Op.bytesLess a b=true<;>simp [hb]
  have hx':=qE hx;have hy':=qE hy;unfold str at hx' hy';simp only [zX,jA,hx',hy',jk,Y0,greater,qM,e]) hp w
theorem gE {L1 L2:Ks} {op:BinOp} {x y:Operand} {ty ty2:TypeId} {a b:Array Value} {fs:Array Field} {r v:Bool} (w1:r=true→KO P X sz ops os L1 h R) (w2:r=false→KO P X sz ops os L2 h R) (ho:o.op = .binOp op ty x y ty2:=by exact rfl) (hg:qo ops L.tree o.guard=some true:=by exact rfl)
 (hx:kA L x=some (.agg a):=by exact rfl) (hy:kA L y=some (.agg b):=by exact rfl) (hu:P.underlying ty=some (.struct fs):=by exact rfl) (hf:qbG P ty=true:=by decide +kernel) (hr:ZZ P fs.toList a.toList b.toList=some r:=by exact rfl)
 (hn:(match a.toList with|.int .i64 _ :: _=>false | _=>true)=true:=by exact rfl) (hop:(match op with|.eql=>some true|.neq=>some false | _=>none)=some v:=by exact rfl) (hp1:qG sz L o.dst (.bool v)=some L1:=by exact rfl) (hp2:qG sz L o.dst (.bool !v)=some L2:=by exact rfl):KO P X sz ops (o :: os) L h R:=by
 have hq:Xt P ty a.toList b.toList=some r:=by unfold Xt;rw [hu,hf];exact hr
 have key:jP P op ty (.agg a) (.agg b)=some (.bool (if v then r else !r)):=by
  cases op<;>simp only [Option.some.injEq] at hop<;>try (cases hop;done)
  all_goals subst hop
  all_goals unfold jP
  ·simp only;split
   ·rename_i e1 e2;rw [e1] at hn;cases hn
   ·rename_i e;rw [hq];rfl
   ·rename_i e;cases e
   ·rename_i e _ ; exact absurd rfl (by assumption)
  ·simp only [hq];rfl
 cases r with
 | true=>exact zN ho hg hx hy key (by cases v<;>exact hp1) (w1 rfl)
 | false=>exact zN ho hg hx hy key (by cases v<;>exact hp2) (w2 rfl)
end
section
variable {P:Program} {X:Extern} {inR:Bool} {sz:Nat} {L:Ks} {h h0:AH} {rs:List Rs} {ops:Array Oper} {os:List Oper} {o:Oper} {R:Ks→AH→Prop} {Q:KQ}
theorem pU1 {L':Ks} {x:Operand} {s dt e t:TypeId} {b m:Nat} {c:List Value} (hb:h.get b=some (.cells c e none false)) (w:KO P X sz ops os L' h R) (ho:o.op = .convert s dt x:=by exact rfl) (hg:qo ops L.tree o.guard=some true:=by exact rfl) (hx:kA L x=some (.pointer (some ⟨b,0,none⟩)):=by exact rfl)
 (hs:P.underlying s=some (.pointer t):=by exact rfl) (hd:P.underlying dt=some .unsafePointer:=by exact rfl) (hz:zI P t=some (m+1):=by exact rfl) (hc:Nat.blt 0 c.length=true:=by exact rfl) (hp:qG sz L o.dst (.pointer (some ⟨b,0,none⟩))=some L':=by exact rfl):KO P X sz ops (o :: os) L h R :=
 zo hg (by rw [ho];simp only [zX,qE hx,zY,hs,hd,zS,jb,hb,hz,hc,qM]) hp w
theorem pU2 {L':Ks} {x:Operand} {s dt e t:TypeId} {b m:Nat} {c:List Value} (hb:h.get b=some (.cells c e none false)) (w:KO P X sz ops os L' h R) (ho:o.op = .convert s dt x:=by exact rfl) (hg:qo ops L.tree o.guard=some true:=by exact rfl) (hx:kA L x=some (.pointer (some ⟨b,0,none⟩)):=by exact rfl)
 (hs:P.underlying s=some .unsafePointer:=by exact rfl) (hd:P.underlying dt=some (.pointer t):=by exact rfl) (hz:zI P t=some (m+1):=by exact rfl) (hc:liesAt P P.depth e (c.length / P.cellsOf e) 0 t 1=true:=by exact rfl) (hp:qG sz L o.dst (.pointer (some ⟨b,0,none⟩))=some L':=by exact rfl):KO P X sz ops (o :: os) L h R :=
 zo hg (by rw [ho];simp only [zX,qE hx,zY,hs,hd,zS,jb,hb,hz,hc,qM]) hp w
theorem pN {L':Ks} {x y:Operand} {ty ty2 e:TypeId} {b m:Nat} (w:KO P X sz ops os L' h R) (ho:o.op = .binOp .neq ty x y ty2:=by exact rfl) (hg:qo ops L.tree o.guard=some true:=by exact rfl) (hx:kA L x=some (.pointer (some ⟨b,0,none⟩)):=by exact rfl) (hy:kA L y=some (.pointer (some ⟨b,0,none⟩)):=by exact rfl)
 (hu:P.underlying ty=some (.pointer e):=by exact rfl) (hz:zI P e=some (m+1):=by exact rfl) (hp:qG sz L o.dst (.bool false)=some L':=by exact rfl):KO P X sz ops (o :: os) L h R :=
 zN ho hg hx hy (v:=.bool false) (by simp only [jP,hu,hz,show Nat.beq b b=true by simp];rfl) hp w
theorem tcL {L':Ks} {x y:Operand} {ty ty2:TypeId} {l m:List UInt8} (w:KO P X sz ops os L' h R) (ho:o.op = .binOp .add ty x y ty2:=by exact rfl) (hg:qo ops L.tree o.guard=some true:=by exact rfl) (hx:kA L x=some (str l):=by exact rfl) (hy:kA L y=some (str m):=by exact rfl)
 (hb:l.length+m.length≤4611686018427387904:=by first|omega|(simp only [zB2,zC4,List.length_nil];omega)) (hp:qG sz L o.dst (str (l ++ m))=some L':=by exact rfl):KO P X sz ops (o :: os) L h R:=qfZ ho hg hx hy hb hp w
theorem zL {σ:Type} {a b c:Code} (I:σ→AH→Prop) (sl:σ→Ks) (w1:K P X inR sz a L h (wE P X inR sz b (qfz I sl Q))) (w2:∀ s h',I s h'→K P X inR sz c (sl s) h' Q):K P X inR sz a L h (wE P X inR sz b (wE P X inR sz c Q)):=by
 have key:∀ x L' h',qfz I sl Q x L' h'→wE P X inR sz c Q x L' h':=fun x L' h' q=>by
  cases x with
  | norm=>obtain ⟨s,q1,q2⟩:=q;exact (w2 s h' q1).le q2
  | exit id=>exact q
  | ret=>exact q
 refine w1.mono fun x L' h' q=>?_;cases x with
 | norm=>exact K.mono q key
 | exit id=>exact q
 | ret=>exact q
theorem xg {σ:Type} {a c:Code} (I:σ→AH→Prop) (sl:σ→Ks) (w1:K P X inR sz a L h (qfz I sl Q)) (w2:∀ s h',I s h'→K P X inR sz c (sl s) h' Q):K P X inR sz a L h (wE P X inR sz c Q) :=
 w1.mono fun x L' h' q=>by
  cases x with
  | norm=>obtain ⟨s,q1,q2⟩:=q;exact (w2 s h' q1).le q2
  | exit id=>exact q
  | ret=>exact q
end
theorem Sep.perm {lo:Nat} {h:AH} {rs rs':List Rs} (p:rs.Perm rs'):∀ {U:Fp},Sep lo h rs U→Sep lo h rs' U:=by
 induction p with
 | nil=>intro U k;exact k
 | cons x p ih=>intro U ⟨fp,h1,h2,h3⟩;exact ⟨fp,h1,h2,ih h3⟩
 | swap x y l =>
  intro U ⟨fy,h1,h2,fx,g1,g2,g3⟩;exact ⟨fx,g1,fun b hb=>⟨(g2 b hb).1,(g2 b hb).2.1,(g2 b hb).2.2.1⟩,fy,h1,fun b hb=>⟨(h2 b hb).1,(h2 b hb).2.1,(h2 b hb).2.2,fun q=>(g2 b q).2.2.2 hb⟩,g3.mono fun b hb=>⟨⟨hb.1.1,hb.2⟩,hb.1.2⟩⟩
 | trans p q ih1 ih2=>intro U k;exact ih2 (ih1 k)
theorem Hs.perm {h0 h:AH} {rs rs':List Rs} (S:Hs h0 h rs) (p:rs.Perm rs'):Hs h0 h rs':=⟨S.ext,S.sep.perm p⟩
structure SlV where
 p:Option Addr
 n:Nat
 c:Nat
abbrev SlV.val (s:SlV):Value:=.slice s.p s.n s.c
theorem Rd.KI {h:AH} {v:Value} {z n:Nat} {c:List Value} (r:Rd h v z n c):∃ s:SlV,v=s.val:=by
 rcases r with ⟨rfl,-,-⟩|⟨b,o,cap,cc,e,s,q,rfl,-,-⟩
 ·exact ⟨⟨none,0,0⟩,rfl⟩
 ·exact ⟨⟨some ⟨b,o,none⟩,n,cap⟩,rfl⟩
theorem Hs.ZF {h0 h:AH} {rs:List Rs} {α:Type} {e:TypeId} {z:Nat} {enc:α→List Value} (S:Hs h0 h rs):Hs h0 h (.sl (.slice none 0 0) e z enc [] :: rs) :=
 S.grow (fp:=fun _=>False) (Ext.refl S.wf) (.inl ⟨rfl,rfl⟩) fun b hb=>hb.elim
theorem Hs.anyS {h0 h:AH} {rs:List Rs} {p:AH→Fp→Prop} (S:Hs h0 h rs) (k:∀ h',p h' fun _=>False):Hs h0 h (.any p :: rs) :=
 S.grow (fp:=fun _=>False) (Ext.refl S.wf) (fun h' _=>k h') fun b hb=>hb.elim
theorem Hs.qfH {h0 h:AH} {rs:List Rs} {p:AH→Fp→Prop} (S:Hs h0 h rs) (a:At rs (.any p)):∃ fp,p h fp:=by
 obtain ⟨fp,k,-⟩:=a.ok S.sep;exact ⟨fp,k h fun _ _=>rfl⟩
theorem Hs.qhb {h0 h:AH} {rs:List Rs} {v:Value} {α:Type} {e:TypeId} {z:Nat} {enc:α→List Value} {l:List α} (S:Hs h0 h rs) (a:At rs (.sl v e z enc l)):Qn v:=by
 obtain ⟨fp,k,-⟩:=a.ok S.sep;rcases k with ⟨rfl,-⟩|⟨b,o,cc,slk,cap,rfl,-,-,-,h,-⟩
 ·exact zA3 _
 ·exact h.1
theorem Hs.conv {h0 h:AH} {rs:List Rs} {r r':Rs} (S:Hs h0 h (r :: rs)) (k:∀ fp,r.ok h fp→r'.ok h fp):Hs h0 h (r' :: rs):=by
 obtain ⟨fp,k1,k2⟩:=S.sep;exact ⟨S.ext,fp,k fp k1,k2⟩
theorem gA1 {α:Type} {l m:List α} {j:Nat} {d:α} (h:j<l.length):(l ++ m).getD j d=l.getD j d:=by simp [List.getD,zH7 h]
theorem gA2 {α:Type} {l m:List α} {j:Nat} {d:α} (h:l.length≤j):(l ++ m).getD j d=m.getD (j - l.length) d:=by simp [List.getD,List.getElem?_append_right h]
theorem Hs.qi9 {h0 h:AH} {rs:List Rs} {α:Type} {v:Value} {e:TypeId} {z:Nat} {enc:α→List Value} {l:List α} (S:Hs h0 h (.sl v e z enc l :: rs)):Hs h0 h (.rd v z enc l :: rs):=S.conv fun fp k=>by
 rcases k with k|⟨b,o,cc,slk,cap,h1,h2,h3,h4,-⟩
 ·exact .inl k
 ·exact .inr ⟨b,o,_,cc,e,slk,false,h1,h2,h3,h4⟩
theorem Hs.sV {h0 h:AH} {rs:List Rs} (S:Hs h0 h rs) (v:Value) {α:Type} {z:Nat} {enc:α→List Value} {l:List α} [i:HasR rs v α z enc l]:∃ s:SlV,v=s.val:=(i.rd S).KI
end Go.Proofs.Xx
namespace Go.Proofs.Xx
open Go Go.RowKit
def kK (c:UInt8):List UInt8→Option Nat
 | []=>none
 | x :: s=>if x=c then some 0 else (kK c s).map (· + 1)
def qgS (c:UInt8) (s:List UInt8):Int:=match kK c s with|some i=>i|none=>-1
def qju (c:UInt8) (s:List UInt8):Nat:=s.countP (· == c)
theorem kJ (c:UInt8):∀ s:List UInt8,(kK c s=none∧Lib.indexByte s c = -1)∨∃ i:Nat,kK c s=some i∧Lib.indexByte s c=i
 | []=>.inl ⟨rfl,rfl⟩
 | x :: s=>by
  unfold kK Lib.indexByte;by_cases e:x=c
  ·rw [if_pos e,if_pos (by simpa using e)];exact .inr ⟨0,rfl,rfl⟩
  ·rw [if_neg e,if_neg (by simpa using e)];rcases kJ c s with ⟨h1,h2⟩|⟨i,h1,h2⟩
   ·rw [h1,h2];exact .inl ⟨rfl,rfl⟩
   ·rw [h1,h2];refine .inr ⟨i+1,rfl,?_⟩;rw [if_neg (by intro q;have:=eq_of_beq q;omega)];rfl
theorem qeh (c:UInt8) (s:List UInt8):Lib.indexByte s c=qgS c s:=by
 unfold qgS;rcases kJ c s with ⟨h1,h2⟩|⟨i,h1,h2⟩
 ·rw [h1,h2]
 ·rw [h1,h2]
def withBytes (X:Extern) (cnt ix:Nat):Extern:=fun g args h=>match Nat.beq g cnt,Nat.beq g ix,args with
 | true,_,[.string s,.int .u8 c]=>some (.int .i64 (qju c.toNat.toUInt8 s.data.toList:Nat),h)
 | _,true,[.string s,.int .u8 c]=>some (.int .i64 (qgS c.toNat.toUInt8 s.data.toList),h)
 | _,_,_=>X g args h
theorem kY [Glob] {P:Program} {X:Extern} (hX:Yf P X) {cnt ix:Nat} {f1 f2:Func} (h1:P.funcs[cnt]? = some f1) (h2:P.funcs[ix]? = some f2) (n1:(f1.name == "runtime.NumGoroutine")=false) (n2:(f2.name == "runtime.NumGoroutine")=false)
 (b1:f1.body.isNone=true) (b2:f2.body.isNone=true) (m1:Extern.findNext f1=none) (m2:Extern.findNext f2=none) (e1:Extern.find f1=some Extern.BytealgCount.count) (e2:Extern.find f2=some Extern.BytealgIndexByte.indexByte):Yf P (withBytes X cnt ix):=by
 intro f args h v h' hx B e w args' r hargs;unfold withBytes at hx;split at hx
 ·rename_i s c hf
  cases hx
  have:=zA6 hf;subst this;obtain ⟨x',r',rfl,hx',hr'⟩:=hargs.cons_inv;obtain ⟨y',r2,rfl,hy',hr2⟩:=hr'.cons_inv;have:=hr2.jB;subst this;cases hx';cases hy'
  refine ⟨e,_,w,r,Turn.refl _ _ _,.int _ _,.inl ?_⟩;rw [run_callFunc_extern h1 n1 b1 m1 e1,Lib.run_countString];rfl
 ·rename_i s c hg hf
  cases hx
  have:=zA6 hg;subst this;obtain ⟨x',r',rfl,hx',hr'⟩:=hargs.cons_inv;obtain ⟨y',r2,rfl,hy',hr2⟩:=hr'.cons_inv;have:=hr2.jB;subst this;cases hx';cases hy'
  refine ⟨e,_,w,r,Turn.refl _ _ _,.int _ _,.inl ?_⟩;rw [run_callFunc_extern h2 n2 b2 m2 e2,Lib.run_indexByteString,qeh];rfl
 ·exact hX _ _ _ _ _ hx B e w args' r hargs
end Go.Proofs.Xx
namespace Go.Proofs.Xx
open Go Go.RowKit
def WS (X:Extern) (n:Nat):Extern:=fun g args h=>match Nat.beq g n,args with
 | true,[.string a,.string b]=>some (.int .i64 (Lib.compareBytes a.data.toList b.data.toList),h)
 | _,_=>X g args h
theorem qal [Glob] {P:Program} {X:Extern} (hX:Yf P X) {n:Nat} {f1:Func} (h1:P.funcs[n]? = some f1) (n1:(f1.name == "runtime.NumGoroutine")=false) (b1:f1.body.isNone=true) (m1:Extern.findNext f1=none) (e1:Extern.find f1=some Extern.BytealgCompare.compare):Yf P (WS X n):=by
 intro f args h v h' hx B e w args' r hargs;unfold WS at hx;split at hx
 ·rename_i s c hf
  cases hx
  have:=zA6 hf;subst this;obtain ⟨x',r',rfl,hx',hr'⟩:=hargs.cons_inv;obtain ⟨y',r2,rfl,hy',hr2⟩:=hr'.cons_inv;have:=hr2.jB;subst this;cases hx';cases hy'
  refine ⟨e,_,w,r,Turn.refl _ _ _,.int _ _,.inl ?_⟩;rw [run_callFunc_extern h1 n1 b1 m1 e1,Lib.run_compareString];rfl
 ·exact hX _ _ _ _ _ hx B e w args' r hargs
def qeC (x y:Value) (h:AH):Bool :=
 match x,y with
 | .slice _ 0 _,.slice _ _ _=>true
 | .slice _ _ _,.slice _ 0 _=>true
 | .slice (some ⟨b,_,none⟩) _ _,.slice (some ⟨b',_,none⟩) _ _=>match Nat.beq b b',h.get b,h.get b' with
  | false,some (.cells _ _ _ false),some (.cells (_ :: _) _ _ false)=>true
  | _,_,_=>false
 | _,_=>false
def WQ (X:Extern) (n:Nat):Extern:=fun g args h=>match Nat.beq g n,args with
 | true,[x,y]=>match qeC x y h with
  | true=>some (.bool false,h)
  | false=>none
 | _,_=>X g args h
theorem ZR {P:Program} (w:World) (tS tR e:TypeId) (ht:P.underlying tS=some (.slice e)) (size:Nat) (hz:∀ w,(Go.sizeOf e).run P w = .ok size w) (a b:Option Addr) (la ca lb cb:Nat) (h0:la=0∨lb=0) :
 (Extern.SlicesOverlaps.overlaps #[tS,tS] #[tR] #[.slice a la ca,.slice b lb cb]).run P w = .ok (.bool false) w:=by
 change Sem.run P (α:=Value) (do
  let some t:=(#[tS,tS]:Array TypeId)[0]?|stuck "slices.overlaps: no parameter types"
  let .slice elem ← underlying t|stuck "slices.overlaps: slice type expected"
  let size ← sizeOf elem
  match a,b with
  | some a,some b =>
   if la=0∨lb=0∨size=0 then pure (Value.bool false)
   else if a.block != b.block && (← frozen a) && (← frozen b) then unsupported .addressObserved
   else do
    if a.block != b.block then do
     noView a;noView b
     if ← mayBeOne a b then return Value.bool ((← choose (.extern "sameAddr.stringBytes" 2)) == 1)
    pure (Value.bool (a.block == b.block && a.off<b.off+lb*size && b.off<a.off+la*size))
  | _,_=>pure (Value.bool false)) w=_
 have h1:la=0∨lb=0∨size=0:=by rcases h0 with h|h;exact .inl h;exact .inr (.inl h)
 cases a with
 | none=>simp [run_underlying ht,hz]
 | some a=>cases b with
  | none=>simp [run_underlying ht,hz]
  | some b=>simp [run_underlying ht,hz,h1]
theorem qai [Glob] {P:Program} {X:Extern} (hX:Yf P X) {n:Nat} {f1:Func} {tS tR el:TypeId} {size:Nat} (h1:P.funcs[n]? = some f1) (n1:(f1.name == "runtime.NumGoroutine")=false) (b1:f1.body.isNone=true) (m1:Extern.findNext f1=none)
 (e1:Extern.find f1=some (Extern.SlicesOverlaps.overlaps #[tS,tS] #[tR])) (ht:P.underlying tS=some (.slice el)) (hz:∀ w,(Go.sizeOf el).run P w = .ok size w):Yf P (WQ X n):=by
 intro f args h v h' hx B e w args' r hargs;unfold WQ at hx;split at hx
 ·rename_i x y hf
  split at hx
  rotate_left
  ·cases hx
  rename_i hap
  cases hx
  have:=zA6 hf;subst this;obtain ⟨x',r',rfl,hx',hr'⟩:=hargs.cons_inv;obtain ⟨y',r2,rfl,hy',hr2⟩:=hr'.cons_inv;have:=hr2.jB;subst this;have key:(Extern.SlicesOverlaps.overlaps #[tS,tS] #[tR] #[x',y']).run P w = .ok (.bool false) w:=by
   unfold qeC at hap;split at hap
   ·cases hx'<;>cases hy'<;>exact ZR w tS tR el ht size hz _ _ _ _ _ _ (.inl rfl)
   ·cases hx'<;>cases hy'<;>exact ZR w tS tR el ht size hz _ _ _ _ _ _ (.inr rfl)
   ·rename_i b o la ca b' o' lb cb q1 q2
    split at hap
    ·rename_i c1 t1 s1 x0 c2 t2 s2 hne hb1 hb2
     cases hx' with
     | slice _ _ a _ _ L hL hl ho =>
     cases hy' with
     | slice _ _ a' _ _ L' hL' hl' ho' =>
     have hla:la≠0:=fun q=>q1 q;have hlb:lb≠0:=fun q=>q2 q;obtain rfl:a=⟨L.blk,L.sh+o,none⟩:=by rcases ho with ho|ho;exact ho;omega
     obtain rfl:a'=⟨L'.blk,L'.sh+o',none⟩:=by rcases ho' with ho|ho;exact ho;omega
     have o1:=r.obj _ _ _ hL hb1;have o2:=r.obj _ _ _ hL' hb2;obtain ⟨cc,fr,g1,g2,g3,g4,g5,g6⟩:=o1;obtain ⟨cc',fr',k1,k2,k3,k4,k5,k6⟩:=o2;have hblk:L.blk≠L'.blk:=fun q=>by
      have:=r.inj _ _ _ _ _ _ hL hb1 hL' hb2 q rfl rfl;subst this;simp at hne
     refine Lib.run_overlaps_apart w tS tR el ht size hz _ _ la _ lb _ hblk t1 t2 cc.size cc'.size ?_ ?_ ?_ ?_ ?_
     ·simp only [World.shape?,g1]
     ·simp only [World.shape?,k1]
     ·simp at k2;omega
     ·have:=g6 rfl (L.sh+o);unfold World.frozen?;simp only [g1];simp only [zH1,decide_eq_false_iff_not];omega
     ·have:=g6 rfl cc.size;unfold World.frozen?;simp only [g1];simp only [zH1,decide_eq_false_iff_not];omega
    ·cases hap
   ·cases hap
  refine ⟨e,_,w,r,Turn.refl _ _ _,.bool _,.inl ?_⟩;rw [run_callFunc_extern h1 n1 b1 m1 e1,key];rfl
 ·exact hX _ _ _ _ _ hx B e w args' r hargs
end Go.Proofs.Xx
namespace Go.Proofs.Xx
open Go Go.RowKit Go.Shelf
class Flag where
 b:Bool
instance flagOn:Flag:=⟨true⟩
def qjc:Ren where
 f x:=match x with | 217=>181 | 219=>127 | 224=>183 | 225=>182 | 266=>247 | 267=>184 | 314=>248|x=>x
 t x:=match x with | 3=>3 | 4=>4 | 5=>5 | 9=>9 | 46=>121 | 51=>161 | 146=>257|x=>x
 g x:=match x with | 1=>0|x=>x
theorem laysX:Lays.n219 Tryz.prog qjc where
 mixed:=by kernel_rfl
 f217:=by kernel_rfl
 f219:=by kernel_rfl
 f224:=by kernel_rfl
 f225:=by kernel_rfl
 f266:=by kernel_rfl
 f267:=by kernel_rfl
 f314:=by kernel_rfl
 t3:=by kernel_rfl
 a3:=fun w=>by rfl
 z3:=fun w=>by rfl
 v3:=fun w=>by rfl
 t4:=by kernel_rfl
 a4:=fun w=>by rfl
 z4:=fun w=>by rfl
 v4:=fun w=>by rfl
 t5:=by kernel_rfl
 a5:=fun w=>by rfl
 z5:=fun w=>by rfl
 v5:=fun w=>by rfl
 t9:=by kernel_rfl
 a9:=fun w=>by rfl
 z9:=fun w=>by rfl
 v9:=fun w=>by rfl
 t46:=by kernel_rfl
 a46:=fun w=>by rfl
 z46:=fun w=>by rfl
 v46:=fun w=>by rfl
 t51:=by kernel_rfl
 a51:=fun w=>by rfl
 z51:=fun w=>by rfl
 v51:=fun w=>by rfl
 t146:=by kernel_rfl
 a146:=fun w=>by rfl
 z146:=fun w=>by rfl
 v146:=fun w=>by rfl
 g1:=by kernel_rfl
def qjd:Ren where
 f x:=match x with | 129=>146 | 284=>280 | 317=>336 | 318=>337|x=>x
 t x:=match x with | 0=>0 | 3=>3 | 4=>4 | 5=>5 | 9=>9 | 46=>121 | 53=>183 | 212=>310|x=>x
 g x:=match x with | 17=>1|x=>x
theorem laysD:LaysM.n284 Tryz.prog qjd where
 mixed:=by kernel_rfl
 f129:=by kernel_rfl
 f284:=by kernel_rfl
 f317:=by kernel_rfl
 f318:=by kernel_rfl
 t0:=by kernel_rfl
 a0:=fun w=>by rfl
 z0:=fun w=>by rfl
 v0:=fun w=>by rfl
 t3:=by kernel_rfl
 a3:=fun w=>by rfl
 z3:=fun w=>by rfl
 v3:=fun w=>by rfl
 t4:=by kernel_rfl
 a4:=fun w=>by rfl
 z4:=fun w=>by rfl
 v4:=fun w=>by rfl
 t5:=by kernel_rfl
 a5:=fun w=>by rfl
 z5:=fun w=>by rfl
 v5:=fun w=>by rfl
 t9:=by kernel_rfl
 a9:=fun w=>by rfl
 z9:=fun w=>by rfl
 v9:=fun w=>by rfl
 t46:=by kernel_rfl
 a46:=fun w=>by rfl
 z46:=fun w=>by rfl
 v46:=fun w=>by rfl
 t53:=by kernel_rfl
 a53:=fun w=>by rfl
 z53:=fun w=>by rfl
 v53:=fun w=>by rfl
 t212:=by kernel_rfl
 a212:=fun w=>by rfl
 z212:=fun w=>by rfl
 v212:=fun w=>by rfl
 g17:=by kernel_rfl
 i0:=by kernel_rfl
 i3:=by kernel_rfl
 i4:=by kernel_rfl
 i5:=by kernel_rfl
 i9:=by kernel_rfl
 i46:=by kernel_rfl
 i53:=by kernel_rfl
 i212:=by kernel_rfl
 m17:=by kernel_rfl
instance globBook [Flag]:Glob:=⟨fun lo ref=>1<lo∧(∃ m el fr,ref[0]? = some (.cells #[.int .i64 m] el fr))∧(Flag.b=true→∃ el fr,ref[1]? = some (.cells (Lib.pow10Tab.map fun z=>Value.int .u64 z).toArray el fr))⟩
theorem qgR:Tryz.prog.globalNamed "internal/strconv.uint64pow10" = some 1:=by kernel_rfl
theorem qef [Flag] {B:Bs} {e:Emb} {h:AH} {w:World} (r:Rel B e h w):∃ m,w.cell? ⟨0,0,none⟩=some (.int .i64 m):=by
 obtain ⟨h1,⟨m,el,fr,h2⟩,-⟩:=r.glob;have h3:=(r.keep 0 (by omega)).trans h2;refine ⟨m,?_⟩;unfold World.cell?;simp only [h3];rfl
theorem qed [Flag] {B:Bs} {e:Emb} {h:AH} {w:World} (r:Rel B e h w) (hf:Flag.b=true):Lib.TabIs Tryz.prog w "internal/strconv.uint64pow10" .u64 Lib.pow10Tab:=by
 obtain ⟨h1,-,h2⟩:=r.glob;obtain ⟨el,fr,h2⟩:=h2 hf;have h3:=(r.keep 1 (by omega)).trans h2;unfold Lib.TabIs World.var?;rw [qgR];simp only [Option.bind_some,h3]
def WR (X:Extern) (f:FuncId):Extern:=fun g args h=>match Nat.beq g f,args with
 | true,[.string s,.string t]=>if s.data.toList.length<4294967281 then some (.int .i64 (Lib.index s.data.toList t.data.toList),h) else none
 | _,_=>X g args h
theorem qak [Flag] {X:Extern} (hX:Yf Tryz.prog X):Yf Tryz.prog (WR X 127):=by
 intro g args h u h1 hx B e w args' r hargs;unfold WR at hx;split at hx
 ·rename_i s t hg
  have:=zA6 hg;subst this;split at hx
  rotate_left
  ·cases hx
  rename_i hz
  cases hx
  obtain ⟨x',r',rfl,hx',hr'⟩:=hargs.cons_inv;obtain ⟨y',r2,rfl,hy',hr2⟩:=hr'.cons_inv;have:=hr2.jB;subst this;cases hx';cases hy'
  obtain ⟨m,hm⟩:=qef r;refine ⟨e,_,w,r,Turn.refl _ _ _,.int _ _,.inr ⟨?_,fun c cs=>?_⟩⟩
  ·exact Go.Proofs.enters_of laysX.f219 (by kernel_rfl) rfl _ _
  ·have hc:=Any.stringslite_Index laysX s t m w (by simpa using hz) hm (c :: cs);obtain ⟨en,w',fr,⟨rfl,rfl⟩,hco,-,hl⟩:=hc;exact Steps.trans hco (.one (step_leave_returned hl))
 ·exact hX _ _ _ _ _ hx B e w args' r hargs
def Jw [Flag] (X:Extern) (f:FuncId):Extern:=fun g args h=>match Nat.beq g f,args with
 | true,[.int .u64 u]=>if Flag.b=true∧1≤u∧u<18446744073709551616 then some (.int .i64 (Lib.nDigits u.toNat),h) else none
 | _,_=>X g args h
theorem vC [Flag] {X:Extern} (hX:Yf Tryz.prog X):Yf Tryz.prog (Jw X 280):=by
 intro g args h u h1 hx B e w args' r hargs;unfold Jw at hx;split at hx
 ·rename_i z hg
  have:=zA6 hg;subst this;split at hx
  rotate_left
  ·cases hx
  rename_i hz
  cases hx
  obtain ⟨x',r',rfl,hx',hr'⟩:=hargs.cons_inv;have:=hr'.jB;subst this;cases hx'
  refine ⟨e,.int .i64 (Lib.nDigits z.toNat),w,r,Turn.refl _ _ _,.int _ _,.inr ⟨?_,fun c cs=>?_⟩⟩
  ·exact Go.Proofs.enters_of laysD.f284 (by kernel_rfl) rfl _ _
  ·have hc:=Any.internal_strconv_numDigits laysD z.toNat (by omega) (by omega) w (qed r hz.1) (c :: cs);rw [show ((z.toNat:Nat):Int)=z by omega] at hc;obtain ⟨en,w',fr,⟨rfl,rfl⟩,hco,-,hl⟩:=hc;exact Steps.trans hco (.one (step_leave_returned hl))
 ·exact hX _ _ _ _ _ hx B e w args' r hargs
theorem Po [Flag]:Yf Tryz.prog (Qg 186) :=
 Y3 Tryz.func186 (by kernel_rfl) (by kernel_rfl) (by kernel_rfl) (by kernel_rfl)
theorem Yn (f:FuncId) (fn:Func) (h:Tryz.prog.funcs[f]? = some fn) (hb:fn.body.isSome=true):(fn.name == "runtime.NumGoroutine")=false:=by
 have h0:Tryz.prog.funcs.all (fun fn=>!(fn.name == "runtime.NumGoroutine"))=true:=by kernel_rfl
 have:=Array.all_eq_true_iff_forall_mem.1 h0 fn (Array.mem_of_getElem? h);simpa using this
theorem follows:Tryz.prog.follows .mixedOrders=true:=by kernel_rfl
def X0:Extern:=WR (WQ (WS (withBytes (Qg 186) 65 247) 378) 375) 127
theorem qiV [Flag]:Yf Tryz.prog X0 :=
 qak <| qai (tS:=24) (tR:=4) (el:=198) (size:=3) (qal (kY Po Tryz.func65 Tryz.func247 (by kernel_rfl) (by kernel_rfl) (by kernel_rfl) (by kernel_rfl) (by kernel_rfl) (by kernel_rfl) (by kernel_rfl) (by kernel_rfl))
  Tryz.func378 (by kernel_rfl) (by kernel_rfl) (by kernel_rfl) (by kernel_rfl)) Tryz.func375 (by kernel_rfl) (by kernel_rfl) (by kernel_rfl) (by rfl) (by kernel_rfl) (fun w=>by rfl)
end Go.Proofs.Xx
