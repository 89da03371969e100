/-
  The back of a slice of one's own,seen beside it;clear;bytes.
-/
import Derived.Test.YtidmdnenlgjpeaaGreatDoorM6
set_option linter.unusedSimpArgs false
set_option linter.unusedVariables false
set_option maxRecDepth 100000
namespace Go.Proofs.Xx
open Go
def IsView (v v2:Value) (z k n:Nat):Prop:=∃ b o cap c2,v = .slice (some ⟨b,o,none⟩) n cap∧v2 = .slice (some ⟨b,o+k*z,none⟩) (n - k) c2
theorem IsView.el {v v2:Value} {z k n:Nat} (V:IsView v v2 z k n) (j off:Nat):Y5 v2 z j off=Y5 v z (k+j) off:=by
 obtain ⟨b,o,cap,c2,rfl,rfl⟩:=V;simp only [Y5];rw [show o+k*z+j*z+off=o+(k+j)*z+off by rw [zE1];omega]
theorem IsView.rd {α:Type} {v v2:Value} {z k:Nat} {h:AH} {enc:α→List Value} {l:List α} (V:IsView v v2 z k l.length) (r:Qq h v z enc l) (hz:∀ x,(enc x).length=z) (hk:k≤l.length):Qq h v2 z enc (l.drop k):=by
 obtain ⟨b,o,cap,c2,rfl,rfl⟩:=V;rcases r with ⟨q,-⟩|⟨b',o',cap,cc,e,s,q,e1,h1,h2⟩
 ·cases q
 ·cases e1
  have hkz:k*z≤l.length*z:=zD3 z hk;have hsub:k*z+(l.length - k)*z=l.length*z:=by rw [← zE1];congr 1;omega
  refine .inr ⟨b,o+k*z,c2,cc,e,s,q,by rw [zB4],h1,?_⟩;rw [zB4,jB hz,jR h2 (by omega),zF8];rw [zB4,zn hz];omega
section
variable {P:Program} {X:Extern} {inR:Bool} {sz:Nat} {L:Ks} {h h0:AH} {rs:List Rs} {ops:Array Oper} {os:List Oper} {o:Oper} {R:Ks→AH→Prop} {Q:KQ}
theorem cl {α:Type} {x:Operand} {ty e e':TypeId} {v v2:Value} {z k:Nat} {enc:α→List Value} {l:List α} {f:Rs→List Rs} {dd:List Rs} (y0:α) (S:Hs h0 h rs) (V:IsView v v2 z k l.length) (ho:o.op = .call { callee:=.builtin .clear,args:=#[x],argTypes:=#[ty] }) (hx:kA L x=some v2) [i:HasS rs v α e z enc l f dd]
 (w:∀ h',Hs h0 h' (f (.sl v e z enc (l.take k ++ List.replicate (l.length - k) y0)))→KO P X sz ops os L h' R) (hu:P.underlying ty=some (.slice e'):=by exact rfl) (hz0:zo P e'=some (enc y0):=by exact rfl) (h1:(enc y0).all one? = true:=by exact rfl)
 (hz:∀ x,(enc x).length=z:=by intro _;rfl) (hk:k<l.length:=by omega) (hzz:0<z:=by decide) (hg:qE ops L.tree o.guard=some true:=by exact rfl) (hdst:o.dst=none:=by exact rfl):KO P X sz ops (o :: os) L h R:=by
 obtain ⟨b,o',cap,c2,rfl,rfl⟩:=V;obtain ⟨fp,k1,k2,-⟩:=(i.ut (.sl (.slice (some ⟨b,o',none⟩) l.length cap) e z enc l)).ok (h':=h) S.ext.next (zA3 _) S.sep
 rcases k1 with ⟨q,-⟩|⟨b',o2,cc,slk,cap2,g1,g2,g3,g4,g5,g6⟩
 ·cases q
 cases g1
 have hrow:qX (enc y0) (l.length - k)=(List.replicate (l.length - k) y0).flatMap enc:=Vp rfl _;have hrl:((List.replicate (l.length - k) y0).flatMap enc).length=(l.length - k)*z:=by rw [zn hz];simp
 have hkz:k*z+(l.length - k)*z=l.length*z:=by rw [← zE1];congr 1;omega
 obtain ⟨he,hlen⟩:l.flatMap enc=(cc.drop o').take (l.length*z)∧o'+l.length*z≤cc.length:=by
  rcases Zw g4 with q|⟨q1,q2⟩
  ·exact q
  ·exfalso
   have:l.length*z=0:=q1;have:=Nat.mul_pos (show 0<l.length by omega) hzz;omega
 have hall:((List.replicate (l.length - k) y0).flatMap enc).all one? = true:=by
  rw [zC8];intro u hu;rw [zH0] at hu;obtain ⟨y,hy,hu⟩:=hu;rw [List.mem_replicate] at hy;rw [hy.2] at hu;exact zC8.1 h1 u hu
 have hput:putCells h b (o'+k*z) cc e slk (qX (enc y0) (l.length - k))=some (h.put b (.cells (splice cc (o'+k*z) ((List.replicate (l.length - k) y0).flatMap enc)) e slk false)):=by
  rw [hrow];unfold putCells;rw [hall,zB3 (by rw [hrl];omega)];rfl
 obtain ⟨m,hm⟩:∃ m,l.length - k=m+1:=⟨l.length - k - 1,by omega⟩
 have hclear:Xg P ty (.slice (some ⟨b,o'+k*z,none⟩) (l.length - k) c2) h=some (h.put b (.cells (splice cc (o'+k*z) ((List.replicate (l.length - k) y0).flatMap enc)) e slk false)):=by
  rw [hm] at hput ⊢;simp only [Xg,hu,hz0,g2,hput]
 refine zI (v:=.tuple #[]) (h':=h.put b (.cells (splice cc (o'+k*z) ((List.replicate (l.length - k) y0).flatMap enc)) e slk false)) hg ?_ (by simp only [qW,hdst]) (w _ ?_)
 ·rw [ho];simp only [jl,jv,qR hx,jr,hclear]
 ·have hsp:splice cc (o'+k*z) ((List.replicate (l.length - k) y0).flatMap enc)=splice cc (o'+k*z+0) ((List.replicate (l.length - k) y0).flatMap enc):=rfl;have hin:=x8 (cc:=cc) (uc:=(List.replicate (l.length - k) y0).flatMap enc) (o:=o') (n:=l.length*z) (a:=k*z) (z:=(l.length - k)*z) (off:=0) hlen (by omega) (by rw [hrl];omega);have hfl:((l.take k ++ List.replicate (l.length - k) y0).flatMap enc)=splice ((cc.drop o').take (l.length*z)) (k*z) (splice ((((cc.drop o').take (l.length*z)).drop (k*z)).take ((l.length - k)*z)) 0 ((List.replicate (l.length - k) y0).flatMap enc)):=by
   rw [← he];have hll:(l.flatMap enc).length=l.length*z:=zn hz l;rw [List.flatMap_append,Qb hz];simp only [splice,List.take_zero,zC0,zG1];rw [hrl,List.drop_of_length_le (l:=(((l.flatMap enc).drop (k*z)).take ((l.length - k)*z))) (by rw [zA9];omega),zD7,hrl,List.drop_of_length_le (by omega),zD7]
  refine S.turn (i.ut _) (zA3 _) (S.wf.put (k2 b g3).2.1 _) fun fq q1 q2=>?_;have hb:fq b:=by
   rcases q1 with ⟨q,-⟩|⟨b',o2,cc2,sl2,cap2,q3,q4,q5,-⟩
   ·cases q
   ·cases q3;exact q5
  have hnl:(l.take k ++ List.replicate (l.length - k) y0).length=l.length:=by simp;omega
  refine ⟨fun j _ hj=>by rw [AH.get_put,if_neg];intro q;subst q;exact hj hb,fun j=>j=b,.inr ⟨b,o',_,slk,cap,by rw [hnl],by rw [AH.get_put,if_pos rfl],rfl,?_,?_,g6⟩,fun j hj=>by subst hj;exact ⟨(k2 _ g3).2.1,.inl hb⟩⟩
  ·rw [hnl,hfl];exact hin
  ·rw [hnl,Jz (by rw [hrl];omega)];exact g5
theorem WZ:∀ l:List Nat,bytesOf? (l.flatMap eU)=some (l.map UInt8.ofNat)
 | []=>rfl
 | x :: l=>by
  rw [zG2];show (match byteOf? (.int .u8 (Int.ofNat x)),bytesOf? (l.flatMap eU) with|some b,some s=>some (b :: s) | _,_=>none)=_
  rw [WZ l];rfl
theorem bS {L':Ks} {x:Operand} {s dt e:TypeId} {v:Value} {l:List Nat} (hr:Qq h v 1 eU l) (w:KO P X sz ops os L' h R) (ho:o.op = .convert s dt x:=by exact rfl) (hg:qE ops L.tree o.guard=some true:=by exact rfl) (hx:kA L x=some v:=by exact rfl)
 (hs:P.underlying s=some (.slice e):=by exact rfl) (he:P.underlying e=some (.int .u8):=by exact rfl) (hd:P.underlying dt=some .string:=by exact rfl) (hp:qW sz L o.dst (str (l.map UInt8.ofNat))=some L':=by exact rfl):KO P X sz ops (o :: os) L h R:=by
 refine zI hg ?_ hp w;rw [ho];have e1:zY P s dt v h=some (str (l.map UInt8.ofNat)):=by
  rcases hr with ⟨rfl,g1,g2⟩|⟨b',o',cap,cc,e0,s0,q,rfl,g1,g2⟩
  ·have:l=[]:=zE9.1 g1;subst this;simp only [zY,hs,hd,he];rfl
  ·rw [Nat.mul_one] at g2;simp only [zY,hs,hd,he,g1,g2,WZ];rfl
 have e2:jq P s dt v=none:=by
  unfold jq;rw [hs]
 simp only [jl,qR hx,e2,e1]
end
end Go.Proofs.Xx
namespace Go.Proofs.Xx
open Go
section
variable {P:Program} {X:Extern} {inR:Bool} {sz:Nat} {L:Ks} {h h0:AH} {rs:List Rs} {ops:Array Oper} {os:List Oper} {o:Oper} {R:Ks→AH→Prop} {Q:KQ}
def qfm (P:Program) (ty:TypeId):Option (Nat×Nat):=match P.underlying ty with|some (.array n e)=>(match zK P e with|some z=>some (n,z)|none=>none) | _=>none
end
end Go.Proofs.Xx
namespace Go.Proofs.Xx
open Go
section
variable {P:Program} {X:Extern} {inR:Bool} {sz:Nat} {L:Ks} {h h0:AH} {rs:List Rs} {ops:Array Oper} {os:List Oper} {o:Oper} {R:Ks→AH→Prop} {Q:KQ}
end
end Go.Proofs.Xx
namespace Go.Proofs.Xx
open Go
abbrev lpR (l:Nat) (o:AObj):Rs:=.any (fun h fp=>h.get l=some o∧fp l)
def yv (l:Nat):Value:=.func (.yield l) #[] #[]
section
variable {h h0:AH} {rs:List Rs} {l:Nat} {o:AObj}
theorem Hs.bY (S:Hs h0 h rs) {b:Nat} {o:AObj} (hb:h0.get b=some o) (w:WfH h0):b<h.next :=
 zE4 (Nat.lt_of_not_le fun q=>by have:=w b q;rw [hb] at this;cases this) S.ext.next
end
section
variable {P:Program} {X:Extern} {inR:Bool} {sz:Nat} {L:Ks} {h h0:AH} {rs:List Rs} {ops:Array Oper} {os:List Oper} {o:Oper} {R:Ks→AH→Prop} {Q:KQ}
def Yd (P:Program) (X:Extern) (l:Nat) (args:List Value) (h:AH) (Q:Value→AH→Prop):Prop:=∃ n v h',Zf (exec P X n) l args h=some (v,h')∧Q v h'
theorem Yd.mono {l:Nat} {args:List Value} {Q Q':Value→AH→Prop} (w:Yd P X l args h Q) (hq:∀ v h',Q v h'→Q' v h'):Yd P X l args h Q':=by
 obtain ⟨n,v,h',h1,h2⟩:=w;exact ⟨n,v,h',h1,hq _ _ h2⟩
end
end Go.Proofs.Xx
namespace Go.Proofs.Xx
open Go
section
variable {P:Program} {X:Extern} {sz:Nat} {L:Ks} {h h0:AH} {rs:List Rs} {ops:Array Oper} {os:List Oper} {o:Oper} {R:Ks→AH→Prop}
end
class HasV (rs:List Rs) (v:Value):Prop where
 fp:∀ {lo:Nat} {h:AH} {U:Fp},Sep lo h rs U→v≠.slice none 0 0→U (pg v)
instance HasV.there {rs:List Rs} {v:Value} {s:Rs} [k:HasV rs v]:HasV (s :: rs) v:=⟨fun S hv=>by
 obtain ⟨f,-,-,h3⟩:=S;exact (k.fp h3 hv).1⟩
instance HasV.sl {rs:List Rs} {v:Value} {α:Type} {e:TypeId} {z:Nat} {enc:α→List Value} {l:List α}:HasV (.sl v e z enc l :: rs) v:=⟨fun S hv=>by
 obtain ⟨f,h1,h2,-⟩:=S;rcases h1 with ⟨q,-⟩|⟨b,o,cc,slk,cap,rfl,-,q,-⟩
 ·exact absurd q hv
 ·exact (h2 b q).2.2⟩
instance HasV.rd {rs:List Rs} {v:Value} {α:Type} {z:Nat} {enc:α→List Value} {l:List α}:HasV (.rd v z enc l :: rs) v:=⟨fun S hv=>by
 obtain ⟨f,h1,h2,-⟩:=S;rcases h1 with ⟨q,-⟩|⟨b,o,cap,cc,e,s,r,rfl,-,q,-⟩
 ·exact absurd q hv
 ·exact (h2 b q).2.2⟩
class HasK (rs:List Rs) (b:Nat):Prop where
 fp:∀ {lo:Nat} {h:AH} {U:Fp},Sep lo h rs U→U b
instance HasK.there {rs:List Rs} {b:Nat} {s:Rs} [k:HasK rs b]:HasK (s :: rs) b:=⟨fun S=>by
 obtain ⟨f,-,-,h3⟩:=S;exact (k.fp h3).1⟩
instance HasK.here {rs:List Rs} {b:Nat} {c:List Value} {e:TypeId}:HasK (.blk b c e :: rs) b:=⟨fun S=>by
 obtain ⟨f,h1,h2,-⟩:=S;exact (h2 b h1.2).2.2⟩
class NeB (rs:List Rs) (b:Nat) (v:Value):Prop where
 ne:∀ {lo:Nat} {h:AH} {U:Fp},Sep lo h rs U→v≠.slice none 0 0→pg v≠b
instance NeB.there {rs:List Rs} {b:Nat} {v:Value} {s:Rs} [k:NeB rs b v]:NeB (s :: rs) b v:=⟨fun S hv=>by
 obtain ⟨f,-,-,h3⟩:=S;exact k.ne h3 hv⟩
instance NeB.blk {rs:List Rs} {b:Nat} {v:Value} {c:List Value} {e:TypeId} [k:HasV rs v]:NeB (.blk b c e :: rs) b v:=⟨fun S hv q=>by
 obtain ⟨f,h1,h2,h3⟩:=S;have:=(k.fp h3 hv).2;rw [q] at this;exact this h1.2⟩
instance NeB.sl {rs:List Rs} {b:Nat} {v:Value} {α:Type} {e:TypeId} {z:Nat} {enc:α→List Value} {l:List α} [k:HasK rs b]:NeB (.sl v e z enc l :: rs) b v:=⟨fun S hv q=>by
 obtain ⟨f,h1,h2,h3⟩:=S;rcases h1 with ⟨q',-⟩|⟨b',o,cc,slk,cap,rfl,-,q',-⟩
 ·exact absurd q' hv
 ·have:=(k.fp h3).2;exact this (by rw [← q];exact q')⟩
section
variable {P:Program} {X:Extern} {sz:Nat} {L:Ks} {h h0:AH} {rs:List Rs} {ops:Array Oper} {os:List Oper} {o:Oper} {R:Ks→AH→Prop}
end
abbrev okV (ok:Bool) (v:Value) (b:Bool):Value:=match ok with|true=>.tuple #[v,.bool b]|false=>v
def QT {α:Type} (k:List UInt8):List (List UInt8×α)→Nat→Option (Nat×α)
 | [],_=>none
 | p :: r,i=>if p.1=k then some (i,p.2) else QT k r (i+1)
def zG {α:Type} (l:List (List UInt8×α)) (k:List UInt8):Option α:=(QT k l 0).map (·.2)
theorem qcA (a b:List UInt8):((⟨a.toArray⟩:ByteArray) == ⟨b.toArray⟩)=decide (a=b):=by
 rw [Bool.eq_iff_iff];constructor
 ·intro h;have h2:=ba_eq h;have h3:a.toArray=b.toArray:=congrArg ByteArray.data h2;simpa using h3
 ·intro h;have h2:a=b:=by simpa using h
  subst h2;exact PO _
theorem YI {α:Type} {enc:α→Value} {k:List UInt8}:∀ {es:List (Value×Value×Nat)} {l:List (List UInt8×α)} {i:Nat},es.map (fun e=>(e.1,e.2.1))=l.map (fun p=>(Value.string ⟨p.1.toArray⟩,enc p.2)) →
 XI .string (str k) es i=some ((QT k l i).map fun q=>(q.1,enc q.2))
 | [],[],i,_=>rfl
 | [],p :: r,i,h=>by simp at h
 | e :: es,[],i,h=>by simp at h
 | e :: es,p :: r,i,h=>by
  simp only [List.map_cons,List.cons.injEq,Prod.mk.injEq] at h;obtain ⟨⟨h1,h2⟩,h3⟩:=h;have hs:Instr.sameNow .string (str k) e.1=some (decide (k=p.1)):=by
   rw [h1];show some (((⟨k.toArray⟩:ByteArray) == ⟨p.1.toArray⟩))=_
   rw [qcA]
  unfold XI;unfold QT;by_cases hk:p.1=k
  ·rw [hs,decide_eq_true hk.symm,if_pos hk,h2];rfl
  ·rw [hs,decide_eq_false (fun q=>hk q.symm),if_neg hk];exact YI h3
theorem YZ {α:Type} {l:List (List UInt8×α)} {k:List UInt8} (h:zG l k=none):QT k l 0=none:=by
 unfold zG at h;cases hq:QT k l 0 with
 | none=>rfl
 | some q=>rw [hq] at h;cases h
theorem yC {α:Type} {l:List (List UInt8×α)} {k:List UInt8} {x:α} (h:zG l k=some x):∃ i,QT k l 0=some (i,x):=by
 unfold zG at h;cases hq:QT k l 0 with
 | none=>rw [hq] at h;cases h
 | some q=>rw [hq] at h;cases h;exact ⟨q.1,rfl⟩
section
variable {P:Program} {X:Extern} {inR:Bool} {sz:Nat} {L:Ks} {h h0:AH} {rs:List Rs} {ops:Array Oper} {os:List Oper} {o:Oper} {R:Ks→AH→Prop} {Q:KQ}
theorem vG {α:Type} {b:Nat} {enc:α→Value} {l:List (List UInt8×α)} (S:Hs h0 h rs) (a:At rs (.mp b enc l)):∃ es clock,h.get b=some (.map es clock)∧es.map (fun e=>(e.1,e.2.1))=l.map (fun p=>(Value.string ⟨p.1.toArray⟩,enc p.2))∧(∀ e∈es,e.2.2<clock)∧(es.map (·.2.2)).Nodup:=by
 obtain ⟨fp,k,_⟩:=a.ok S.sep;obtain ⟨es,clock,h1,h2,h3⟩:=k;exact ⟨es,clock,h1,h3⟩
theorem qal {α:Type} {b:Nat} {enc:α→Value} {l:List (List UInt8×α)} (S:Hs h0 h rs) (a:At rs (.mp b enc l)) {ty kt et:TypeId} {key:List UInt8} {z:Value} (ok:Bool)
 (hu:P.underlying ty=some (.map kt et)) (hkt:P.underlying kt=some .string) (hz:zeroV P et=some z) :
 Qm P ty (.map (some b)) (str key) ok h=some (match zG l key with
  | some x=>(okV ok (enc x) true)
  | none=>(okV ok z false)):=by
 obtain ⟨es,clock,h1,h2,-⟩:=vG S a;have hT:WF P ty (str key)=some (.string,et):=by
  unfold WF;simp only [hu,hkt];rfl
 have hM:JJ (.map (some b)) h=some es:=by
  unfold JJ;simp only [h1]
 have hF:=YI (enc:=enc) (k:=key) (i:=0) h2;unfold Qm;rw [hT,hM];simp only [hF];cases hq:zG l key with
 | none=>rw [YZ hq];simp only [Option.map_none,hz];rfl
 | some x =>
  obtain ⟨i,hi⟩:=yC hq;rw [hi];simp only [Option.map_some];rfl
theorem lk {α:Type} {b:Nat} {enc:α→Value} {l:List (List UInt8×α)} {m k:Operand} {ty kt et:TypeId} {key:List UInt8} {z:Value} {d:Tmp} {ok:Bool} (S:Hs h0 h rs) (a:At rs (.mp b enc l))
 (w1:∀ x,zG l key=some x→KO P X sz ops os (L.put d (okV ok (enc x) true)) h R)
 (w2:zG l key=none→KO P X sz ops os (L.put d (okV ok z false)) h R)
 (ho:o.op = .lookup ty m k ok:=by exact rfl) (hg:qE ops L.tree o.guard=some true:=by exact rfl) (hm:kA L m=some (.map (some b)):=by exact rfl) (hk:kA L k=some (str key):=by exact rfl)
 (hu:P.underlying ty=some (.map kt et):=by exact rfl) (hkt:P.underlying kt=some .string:=by exact rfl) (hz:zeroV P et=some z:=by exact rfl) (hdst:o.dst=some d:=by exact rfl) (hds:Nat.blt d sz=true:=by exact rfl):KO P X sz ops (o :: os) L h R:=by
 have e:=qal (key:=key) S a ok hu hkt hz;cases hq:zG l key with
 | none =>
  rw [hq] at e;refine zI hg (v:=okV ok z false) (h':=h) ?_ (show qW sz L o.dst _=some (L.put d _) by simp only [qW,hdst,hds]) (w2 hq);rw [ho];simp only [jl,qR hm,qR hk,e,qZ]
 | some x =>
  rw [hq] at e;refine zI hg (v:=okV ok (enc x) true) (h':=h) ?_ (show qW sz L o.dst _=some (L.put d _) by simp only [qW,hdst,hds]) (w1 x hq);rw [ho];simp only [jl,qR hm,qR hk,e,qZ]
theorem Hs.qcP {α:Type} {rs':List Rs} {b clock2:Nat} {enc:α→Value} {l l2:List (List UInt8×α)} {es2:List (Value×Value×Nat)} (S:Hs h0 h rs) (u:Ut rs (.mp b enc l) (.mp b enc l2) rs')
 (h2:es2.map (fun e=>(e.1,e.2.1))=l2.map (fun p=>(Value.string ⟨p.1.toArray⟩,enc p.2))) (hc:∀ e∈es2,e.2.2<clock2) (hn:(es2.map (·.2.2)).Nodup):Hs h0 (h.put b (.map es2 clock2)) rs':=by
 obtain ⟨fp,k,k2,-⟩:=u.ok (h':=h) S.ext.next (zA3 _) S.sep
 obtain ⟨es,clock,g1,g2,-⟩:=k;refine S.turn u (zA3 _) (S.wf.put (k2 b g2).2.1 _) fun fq q1 q2=>⟨fun j _ hj=>?_,fun j=>j=b,⟨es2,clock2,by rw [AH.get_put,if_pos rfl],rfl,h2,hc,hn⟩,fun j hj=>?_⟩
 ·obtain ⟨_,_,_,g,_⟩:=q1;rw [AH.get_put,if_neg];intro q;subst q;exact hj g
 ·obtain ⟨_,_,_,g,_⟩:=q1;subst hj;exact ⟨(q2 _ g).2,.inl g⟩
theorem Hs.qer {α:Type} (enc:α→Value) (S:Hs h0 h rs):Hs h0 (h.add (.map [] 0)) (.mp h.next enc [] :: rs) :=
 S.grow (fp:=fun b=>b=h.next) ((Ext.refl S.wf).add _) ⟨[],0,by rw [AH.zq,if_pos rfl],rfl,rfl,(fun e he=>by cases he),List.Pairwise.nil⟩ fun b hb=>by subst hb;exact ⟨zA3 _,zG0 _⟩
theorem mkm {α:Type} (enc:α→Value) {ty:TypeId} {d:Tmp} (S:Hs h0 h rs) (w:∀ b h',Hs h0 h' (.mp b enc [] :: rs)→KO P X sz ops os (L.put d (.map (some b))) h' R) (ho:o.op = .makeMap ty none:=by exact rfl) (hg:qE ops L.tree o.guard=some true:=by exact rfl) (hdst:o.dst=some d:=by exact rfl) (hds:Nat.blt d sz=true:=by exact rfl):KO P X sz ops (o :: os) L h R :=
 zI hg (v:=.map (some h.next)) (h':=h.add (.map [] 0)) (by rw [ho];rfl) (show qW sz L o.dst _=some (L.put d _) by simp only [qW,hdst,hds]) (w _ _ (S.qer enc))
def jZ {α:Type} (l:List (List UInt8×α)) (k:List UInt8) (x:α):List (List UInt8×α):=match QT k l 0 with|some q=>l.set q.1 (k,x)|none=>l ++ [(k,x)]
theorem modify_eq_set {β:Type} {l:List β} {i:Nat} {f:β→β} {y e:β} (he:l[i]? = some e) (hf:f e=y):l.modify i f=l.set i y:=by
 apply List.ext_getElem?
 intro j;rw [List.getElem?_modify,List.getElem?_set];by_cases hj:i=j
 ·subst hj;have hl:i<l.length:=(zD6.1 he).1;have e2:l[i]=e:=(zD6.1 he).2;simp [hl,e2,hf]
 ·simp [hj]
theorem vK {α:Type} {k:List UInt8}:∀ {l:List (List UInt8×α)} {i:Nat} {q:Nat×α},QT k l i=some q→i≤q.1∧l[q.1 - i]? = some (k,q.2)
 | [],i,q,h=>by cases h
 | p :: r,i,q,h=>by
  unfold QT at h;split at h
  ·rename_i hk
   cases h
   refine ⟨zA3 _,?_⟩;rw [zG6];show some p=_
   rw [← hk]
  ·obtain ⟨h1,h2⟩:=vK h;refine ⟨by omega,?_⟩;rw [show q.1 - i=(q.1 - (i+1))+1 by omega];exact h2
theorem PW {α:Type} {key:List UInt8} {b:Nat} {enc:α→Value} {l:List (List UInt8×α)} {rs':List Rs} {x:α} (S:Hs h0 h rs) (u:Ut rs (.mp b enc l) (.mp b enc (jZ l key x)) rs') (a:At rs (.mp b enc l)) {ty kt et:TypeId}
 (hu:P.underlying ty=some (.map kt et)) (hkt:P.underlying kt=some .string) :
 ∃ h',QX P ty (.map (some b)) (str key) (enc x) h=some h'∧Hs h0 h' rs':=by
 obtain ⟨es,clock,h1,h2,h3,h4⟩:=vG S a;have hT:WF P ty (str key)=some (.string,et):=by
  unfold WF;simp only [hu,hkt];rfl
 have hF:=YI (enc:=enc) (k:=key) (i:=0) h2;unfold QX;simp only [hT,h1,hF];unfold jZ at u;cases hq:QT key l 0 with
 | none =>
  rw [hq] at u;refine ⟨_,rfl,S.qcP u ?_ ?_ ?_⟩
  ·rw [zC9,zC9,h2];rfl
  ·intro e he;rcases zB8.1 he with q|q
   ·have:=h3 e q;omega
   ·simp at q;subst q;exact zG0 _
  ·rw [zC9,zG4];refine ⟨h4,by simp,?_⟩;intro c hc d hd;obtain ⟨e,he,rfl⟩:=zF1.1 hc;simp at hd;subst hd;have:=h3 e he;omega
 | some q =>
  rw [hq] at u;obtain ⟨i,y⟩:=q;obtain ⟨-,hl⟩:=vK hq;have hle:es.length=l.length:=by simpa using congrArg List.length h2
  obtain ⟨e,he⟩:∃ e,es[i]? = some e:=⟨es[i]'(by have:=(zD6.1 hl).1;omega),by simp⟩
  have hm:=modify_eq_set (f:=fun e:Value×Value×Nat=>(str key,enc x,e.2.2)) (y:=(str key,enc x,e.2.2)) he rfl;refine ⟨_,rfl,S.qcP u ?_ ?_ ?_⟩
  ·rw [hm,List.map_set,List.map_set,h2];rfl
  ·intro e1 h1;rw [hm] at h1;rcases List.mem_or_eq_of_mem_set h1 with q|q
   ·exact h3 e1 q
   ·subst q;exact h3 e (List.mem_of_getElem? he)
  ·rw [hm,List.map_set];have:(es.map (·.2.2)).set i e.2.2=es.map (·.2.2):=by
    apply List.ext_getElem?
    intro j;rw [List.getElem?_set];by_cases hj:i=j
    ·subst hj;have hl2:=(zD6.1 he)
     obtain ⟨g1,g2⟩:=hl2;simp [g1,g2]
    ·simp [hj]
   rw [this];exact h4
theorem up {α:Type} {L':Ks} {b:Nat} {enc:α→Value} {l:List (List UInt8×α)} {rs':List Rs} {key:List UInt8} {y:Value} {m k v:Operand} {ty kt et:TypeId} (x:α) (S:Hs h0 h rs) (a:At rs (.mp b enc l)) (u:Ut rs (.mp b enc l) (.mp b enc (jZ l key x)) rs')
 (w:∀ h',Hs h0 h' rs'→KO P X sz ops os L' h' R) (ho:o.op = .mapUpdate ty m k v∨o.op = .insert ty m k v) (hg:qE ops L.tree o.guard=some true:=by exact rfl) (hm:kA L m=some (.map (some b)):=by exact rfl) (hk:kA L k=some (str key):=by exact rfl) (hv:kA L v=some y:=by exact rfl) (hy:y=enc x:=by exact rfl)
 (hu:P.underlying ty=some (.map kt et):=by exact rfl) (hkt:P.underlying kt=some .string:=by exact rfl) (hp:qW sz L o.dst (.tuple #[])=some L':=by exact rfl):KO P X sz ops (o :: os) L h R:=by
 subst hy;obtain ⟨h',e1,e2⟩:=PW (x:=x) S u a hu hkt;refine PS hg (h':=h') ?_ hp (w h' e2);rcases ho with ho|ho
 ·rw [ho];simp only [jl,qR hm,qR hk,qR hv,e1]
 ·rw [ho];simp only [jl,qR hm,qR hk,qR hv,e1]
theorem Jh {α:Type} {l:List (List UInt8×α)} {k:List UInt8} {x:α}:∀ (j:List UInt8),zG (jZ l k x) j=if j=k then some x else zG l j:=by
 intro j;have key:∀ (l:List (List UInt8×α)) (i:Nat),(QT j (match QT k l i with|some q=>l.set (q.1 - i) (k,x)|none=>l ++ [(k,x)]) i).map (·.2)=if j=k then some x else (QT j l i).map (·.2):=by
  intro l;induction l with
  | nil =>
   intro i;simp only [QT,zC0];by_cases h:j=k
   ·subst h;simp
   ·rw [if_neg (fun q=>h q.symm),if_neg h]
  | cons p r ih =>
   intro i;by_cases hk:p.1=k
   ·simp only [QT,if_pos hk,zG6,List.set_cons_zero];by_cases hj:j=k
    ·subst hj;simp
    ·rw [if_neg (fun q=>hj q.symm),if_neg hj,if_neg (fun q=>hj (q.symm.trans hk))]
   ·have e:=ih (i+1);simp only [QT,if_neg hk];cases hq:QT k r (i+1) with
    | none =>
     rw [hq] at e;simp only [zC6,QT] at e ⊢;by_cases hj:p.1=j
     ·rw [if_pos hj,if_pos hj,if_neg (fun q=>hk (hj.trans q))]
     ·rw [if_neg hj,if_neg hj];exact e
    | some q =>
     rw [hq] at e;obtain ⟨g1,-⟩:=vK hq;simp only at e ⊢;rw [show q.1 - i=(q.1 - (i+1))+1 by omega];simp only [List.set_cons_succ,QT];by_cases hj:p.1=j
     ·rw [if_pos hj,if_pos hj,if_neg (fun q=>hk (hj.trans q))]
     ·rw [if_neg hj,if_neg hj];exact e
 have:=key l 0;unfold zG jZ;exact this
end
def zB (a b:List UInt8):Prop:=Op.bytesLess a b=true
instance (a b:List UInt8):Decidable (zB a b):=inferInstanceAs (Decidable (_=true))
theorem Yl (a:List UInt8):¬ zB a []:=by unfold zB;cases a<;>simp [Op.bytesLess]
theorem VZ (b:UInt8) (l:List UInt8):zB [] (b :: l):=by unfold zB;simp [Op.bytesLess]
theorem Zy {a b:UInt8} {x y:List UInt8}:zB (a :: x) (b :: y)↔a<b∨(a=b∧zB x y):=by
 unfold zB;simp [Op.bytesLess]
theorem zh:∀ a:List UInt8,¬ zB a a
 | []=>Yl _
 | a :: x=>by
  rw [Zy];rintro (h|⟨-,h⟩)
  ·exact UInt8.lt_irrefl _ h
  ·exact zh x h
theorem jX:∀ {a b c:List UInt8},zB a b→zB b c→zB a c
 | _,[],_,h,_=>absurd h (Yl _)
 | _,_ :: _,[],_,h=>absurd h (Yl _)
 | [],_ :: _,c :: z,_,_=>VZ _ _
 | a :: x,b :: y,c :: z,h1,h2=>by
  rw [Zy] at h1 h2 ⊢;rcases h1 with h1|⟨rfl,h1⟩<;>rcases h2 with h2|⟨rfl,h2⟩
  ·exact .inl (UInt8.lt_trans h1 h2)
  ·exact .inl h1
  ·exact .inl h2
  ·exact .inr ⟨rfl,jX h1 h2⟩
theorem ZK:∀ (a b:List UInt8),zB a b∨a=b∨zB b a
 | [],[]=>.inr (.inl rfl)
 | [],b :: y=>.inl (VZ _ _)
 | a :: x,[]=>.inr (.inr (VZ _ _))
 | a :: x,b :: y=>by
  rw [Zy,Zy];rcases zE7 a.toNat b.toNat with h|h|h
  ·exact .inl (.inl (UInt8.lt_iff_toNat_lt.2 h))
  ·have e:a=b:=UInt8.toNat_inj.1 h;subst e;rcases ZK x y with h|h|h
   ·exact .inl (.inr ⟨rfl,h⟩)
   ·exact .inr (.inl (by rw [h]))
   ·exact .inr (.inr (.inr ⟨rfl,h⟩))
  ·exact .inr (.inr (.inl (UInt8.lt_iff_toNat_lt.2 h)))
theorem zX {a b:List UInt8} (h:zB a b):¬ zB b a:=fun q=>zh a (jX h q)
theorem vw {a b:List UInt8} (h:zB a b):a≠b:=fun e=>by subst e;exact zh _ h
theorem JB {a b:List UInt8} (h:¬ zB a b):b=a∨zB b a:=by
 rcases ZK a b with q|q|q
 ·exact absurd q h
 ·exact .inl q.symm
 ·exact .inr q
theorem yg {a b c:List UInt8} (h1:¬ zB b a) (h2:¬ zB c b):¬ zB c a:=fun q=>by
 rcases JB h1 with rfl|h
 ·exact h2 q
 ·exact h2 (jX q h)
theorem vk {a b c:List UInt8} (h1:¬ zB b a) (h2:zB b c):zB a c:=by
 rcases JB h1 with rfl|h
 ·exact h2
 ·exact jX h h2
def jV (a b:List UInt8):List UInt8:=if zB b a then b else a
def jW (a b:List UInt8):List UInt8:=if zB a b then b else a
def qdr (op:BinOp) (a b:List UInt8):Option Prop :=
 match op with
 | .lss=>some (zB a b)
 | .geq=>some (¬ zB a b)
 | .gtr=>some (zB b a)
 | .leq=>some (¬ zB b a)
 | _=>none
theorem WH (a b:List UInt8):(Op.bytesLess a b || zS ⟨a.toArray⟩ ⟨b.toArray⟩) = !(Op.bytesLess b a):=by
 rw [Zd];rcases ZK a b with h|h|h
 ·have h2:Op.bytesLess b a=false:=by
   have:=zX h;unfold zB at this;simpa using this
  unfold zB at h;rw [h,h2];rfl
 ·subst h;have h2:Op.bytesLess a a=false:=by
   have:=zh a;unfold zB at this;simpa using this
  rw [h2];simp
 ·have h2:Op.bytesLess a b=false:=by
   have:=zX h;unfold zB at this;simpa using this
  have h3:decide (a=b)=false:=decide_eq_false fun e=>zh b (by rw [e] at h;exact h);unfold zB at h;rw [h,h2,h3];rfl
theorem kT {P:Program} {op:BinOp} {ty:TypeId} {a b:List UInt8} {p:Prop} (h:qdr op a b=some p) (v:Bool) (hv:p↔v=true):QL P op ty (str a) (str b)=some (.bool v):=by
 have key:∀ q:Prop,∀ d:Bool,(q↔d=true)→(q↔v=true)→d=v:=fun q d h1 h2=>by
  cases d<;>cases v<;>simp_all
 unfold str;cases op<;>simp only [qdr,Option.some.injEq] at h<;>try (cases h;done)
 all_goals (subst h)
 all_goals (simp only [QL,zF6,WH,Option.some.injEq,Value.bool.injEq])
 ·exact key _ _ Iff.rfl hv
 ·exact key _ _ (by unfold zB;simp) hv
 ·exact key _ _ (by unfold zB;simp) hv
 ·exact key _ _ (by unfold zB;simp) hv
section
variable {P:Program} {X:Extern} {inR:Bool} {sz:Nat} {L:Ks} {h h0:AH} {rs:List Rs} {ops:Array Oper} {os:List Oper} {o:Oper} {R:Ks→AH→Prop} {Q:KQ}
theorem tO {L1 L2:Ks} {op:BinOp} {x y:Operand} {ty ty2:TypeId} {l m:List UInt8} {p:Prop} (w1:p→KO P X sz ops os L1 h R) (w2:¬ p→KO P X sz ops os L2 h R) (ho:o.op = .binOp op ty x y ty2:=by exact rfl) (hg:qE ops L.tree o.guard=some true:=by exact rfl) (hx:kA L x=some (str l):=by exact rfl) (hy:kA L y=some (str m):=by exact rfl)
 (hop:qdr op l m=some p:=by exact rfl) (hp1:qW sz L o.dst (.bool true)=some L1:=by exact rfl) (hp2:qW sz L o.dst (.bool false)=some L2:=by exact rfl):KO P X sz ops (o :: os) L h R:=by
 by_cases q:p
 ·exact jk ho hg hx hy (kT hop true (by simp [q])) hp1 (w1 q)
 ·exact jk ho hg hx hy (kT hop false (by simp [q])) hp2 (w2 q)
theorem mnS {L':Ks} {x y:Operand} {tys:Array TypeId} {a b:List UInt8} (w:KO P X sz ops os L' h R) (ho:o.op = .call { callee:=.builtin .min,args:=#[x,y],argTypes:=tys }:=by exact rfl) (hg:qE ops L.tree o.guard=some true:=by exact rfl) (hx:kA L x=some (str a):=by exact rfl) (hy:kA L y=some (str b):=by exact rfl)
 (hp:qW sz L o.dst (str (jV a b))=some L':=by exact rfl):KO P X sz ops (o :: os) L h R :=
 zI hg (by
  rw [ho];unfold str;have e:(if (Op.bytesLess a b || zS ⟨a.toArray⟩ ⟨b.toArray⟩)=true then (⟨a.toArray⟩:ByteArray) else ⟨b.toArray⟩)=⟨(jV a b).toArray⟩:=by
   rw [WH];unfold jV zB;by_cases hb:Op.bytesLess b a=true<;>simp [hb]
  have hx':=qR hx;have hy':=qR hy;unfold str at hx' hy';simp only [jl,jv,hx',hy',jr,VC,lesser,qZ,e]) hp w
theorem mxS {L':Ks} {x y:Operand} {tys:Array TypeId} {a b:List UInt8} (w:KO P X sz ops os L' h R) (ho:o.op = .call { callee:=.builtin .max,args:=#[x,y],argTypes:=tys }:=by exact rfl) (hg:qE ops L.tree o.guard=some true:=by exact rfl) (hx:kA L x=some (str a):=by exact rfl) (hy:kA L y=some (str b):=by exact rfl)
 (hp:qW sz L o.dst (str (jW a b))=some L':=by exact rfl):KO P X sz ops (o :: os) L h R :=
 zI hg (by
  rw [ho];unfold str;have e:(if (!Op.bytesLess a b)=true then (⟨a.toArray⟩:ByteArray) else ⟨b.toArray⟩)=⟨(jW a b).toArray⟩:=by
   unfold jW zB;by_cases hb:Op.bytesLess a b=true<;>simp [hb]
  have hx':=qR hx;have hy':=qR hy;unfold str at hx' hy';simp only [jl,jv,hx',hy',jr,VC,greater,qZ,e]) hp w
theorem gE {L1 L2:Ks} {op:BinOp} {x y:Operand} {ty ty2:TypeId} {a b:Array Value} {fs:Array Field} {r v:Bool} (w1:r=true→KO P X sz ops os L1 h R) (w2:r=false→KO P X sz ops os L2 h R) (ho:o.op = .binOp op ty x y ty2:=by exact rfl) (hg:qE ops L.tree o.guard=some true:=by exact rfl)
 (hx:kA L x=some (.agg a):=by exact rfl) (hy:kA L y=some (.agg b):=by exact rfl) (hu:P.underlying ty=some (.struct fs):=by exact rfl) (hf:PD P ty=true:=by decide +kernel) (hr:ZT P fs.toList a.toList b.toList=some r:=by exact rfl)
 (hn:(match a.toList with|.int .i64 _ :: _=>false | _=>true)=true:=by exact rfl) (hop:(match op with|.eql=>some true|.neq=>some false | _=>none)=some v:=by exact rfl) (hp1:qW sz L o.dst (.bool v)=some L1:=by exact rfl) (hp2:qW sz L o.dst (.bool !v)=some L2:=by exact rfl):KO P X sz ops (o :: os) L h R:=by
 have hq:J9 P ty a.toList b.toList=some r:=by unfold J9;rw [hu,hf];exact hr
 have key:QL P op ty (.agg a) (.agg b)=some (.bool (if v then r else !r)):=by
  cases op<;>simp only [Option.some.injEq] at hop<;>try (cases hop;done)
  all_goals subst hop
  all_goals unfold QL
  ·simp only;split
   ·rename_i e1 e2;rw [e1] at hn;cases hn
   ·rename_i e;rw [hq];rfl
   ·rename_i e;cases e
   ·rename_i e _ ; exact absurd rfl (by assumption)
  ·simp only [hq];rfl
 cases r with
 | true=>exact jk ho hg hx hy key (by cases v<;>exact hp1) (w1 rfl)
 | false=>exact jk ho hg hx hy key (by cases v<;>exact hp2) (w2 rfl)
end
section
variable {P:Program} {X:Extern} {inR:Bool} {sz:Nat} {L:Ks} {h h0:AH} {rs:List Rs} {ops:Array Oper} {os:List Oper} {o:Oper} {R:Ks→AH→Prop} {Q:KQ}
theorem Zj {σ:Type} {a b c:Code} (I:σ→AH→Prop) (sl:σ→Ks) (w1:K P X inR sz a L h (Vs P X inR sz b (qbv I sl Q))) (w2:∀ s h',I s h'→K P X inR sz c (sl s) h' Q):K P X inR sz a L h (Vs P X inR sz b (Vs P X inR sz c Q)):=by
 have key:∀ x L' h',qbv I sl Q x L' h'→Vs P X inR sz c Q x L' h':=fun x L' h' q=>by
  cases x with
  | norm=>obtain ⟨s,q1,q2⟩:=q;exact (w2 s h' q1).le q2
  | exit id=>exact q
  | ret=>exact q
 refine w1.mono fun x L' h' q=>?_;cases x with
 | norm=>exact K.mono q key
 | exit id=>exact q
 | ret=>exact q
theorem PR {σ:Type} {a b c:Code} (I:σ→AH→Prop) (sl:σ→Ks) (w1:K P X inR sz a L h (Vs P X inR sz b (qbv I sl Q))) (w2:∀ s h',I s h'→K P X inR sz c (sl s) h' Q):K P X inR sz a L h (Vs P X inR sz (.seq b c) Q) :=
 w1.mono fun x L' h' q=>by
  cases x with
  | norm=>exact jU I sl q w2
  | exit id=>exact q
  | ret=>exact q
theorem Xv {σ:Type} {a c:Code} (I:σ→AH→Prop) (sl:σ→Ks) (w1:K P X inR sz a L h (qbv I sl Q)) (w2:∀ s h',I s h'→K P X inR sz c (sl s) h' Q):K P X inR sz a L h (Vs P X inR sz c Q) :=
 w1.mono fun x L' h' q=>by
  cases x with
  | norm=>obtain ⟨s,q1,q2⟩:=q;exact (w2 s h' q1).le q2
  | exit id=>exact q
  | ret=>exact q
end
theorem Sep.perm {lo:Nat} {h:AH} {rs rs':List Rs} (p:rs.Perm rs'):∀ {U:Fp},Sep lo h rs U→Sep lo h rs' U:=by
 induction p with
 | nil=>intro U k;exact k
 | cons x p ih=>intro U ⟨fp,h1,h2,h3⟩;exact ⟨fp,h1,h2,ih h3⟩
 | swap x y l =>
  intro U ⟨fy,h1,h2,fx,g1,g2,g3⟩;exact ⟨fx,g1,fun b hb=>⟨(g2 b hb).1,(g2 b hb).2.1,(g2 b hb).2.2.1⟩,fy,h1,fun b hb=>⟨(h2 b hb).1,(h2 b hb).2.1,(h2 b hb).2.2,fun q=>(g2 b q).2.2.2 hb⟩,g3.mono fun b hb=>⟨⟨hb.1.1,hb.2⟩,hb.1.2⟩⟩
 | trans p q ih1 ih2=>intro U k;exact ih2 (ih1 k)
theorem Hs.perm {h0 h:AH} {rs rs':List Rs} (S:Hs h0 h rs) (p:rs.Perm rs'):Hs h0 h rs':=⟨S.ext,S.sep.perm p⟩
structure SlV where
 p:Option Addr
 n:Nat
 c:Nat
abbrev SlV.val (s:SlV):Value:=.slice s.p s.n s.c
theorem Rd.qfc {h:AH} {v:Value} {z n:Nat} {c:List Value} (r:Rd h v z n c):∃ s:SlV,v=s.val:=by
 rcases r with ⟨rfl,-,-⟩|⟨b,o,cap,cc,e,s,q,rfl,-,-⟩
 ·exact ⟨⟨none,0,0⟩,rfl⟩
 ·exact ⟨⟨some ⟨b,o,none⟩,n,cap⟩,rfl⟩
theorem Hs.Zg {h0 h:AH} {rs:List Rs} {α:Type} {e:TypeId} {z:Nat} {enc:α→List Value} (S:Hs h0 h rs):Hs h0 h (.sl (.slice none 0 0) e z enc [] :: rs) :=
 S.grow (fp:=fun _=>False) (Ext.refl S.wf) (.inl ⟨rfl,rfl⟩) fun b hb=>hb.elim
theorem Hs.anyS {h0 h:AH} {rs:List Rs} {p:AH→Fp→Prop} (S:Hs h0 h rs) (k:∀ h',p h' fun _=>False):Hs h0 h (.any p :: rs) :=
 S.grow (fp:=fun _=>False) (Ext.refl S.wf) (fun h' _=>k h') fun b hb=>hb.elim
theorem Hs.qcB {h0 h:AH} {rs:List Rs} {p:AH→Fp→Prop} (S:Hs h0 h rs) (a:At rs (.any p)):∃ fp,p h fp:=by
 obtain ⟨fp,k,-⟩:=a.ok S.sep;exact ⟨fp,k h fun _ _=>rfl⟩
theorem Hs.qfh {h0 h:AH} {rs:List Rs} {v:Value} {α:Type} {e:TypeId} {z:Nat} {enc:α→List Value} {l:List α} (S:Hs h0 h rs) (a:At rs (.sl v e z enc l)):XJ v:=by
 obtain ⟨fp,k,-⟩:=a.ok S.sep;rcases k with ⟨rfl,-⟩|⟨b,o,cc,slk,cap,rfl,-,-,-,h,-⟩
 ·exact zA3 _
 ·exact h.1
theorem Hs.conv {h0 h:AH} {rs:List Rs} {r r':Rs} (S:Hs h0 h (r :: rs)) (k:∀ fp,r.ok h fp→r'.ok h fp):Hs h0 h (r' :: rs):=by
 obtain ⟨fp,k1,k2⟩:=S.sep;exact ⟨S.ext,fp,k fp k1,k2⟩
theorem gA1 {α:Type} {l m:List α} {j:Nat} {d:α} (h:j<l.length):(l ++ m).getD j d=l.getD j d:=by simp [List.getD,zH8 h]
theorem gA2 {α:Type} {l m:List α} {j:Nat} {d:α} (h:l.length≤j):(l ++ m).getD j d=m.getD (j - l.length) d:=by simp [List.getD,List.getElem?_append_right h]
theorem Hs.qe5 {h0 h:AH} {rs:List Rs} {α:Type} {v:Value} {e:TypeId} {z:Nat} {enc:α→List Value} {l:List α} (S:Hs h0 h (.sl v e z enc l :: rs)):Hs h0 h (.rd v z enc l :: rs):=S.conv fun fp k=>by
 rcases k with k|⟨b,o,cc,slk,cap,h1,h2,h3,h4,-⟩
 ·exact .inl k
 ·exact .inr ⟨b,o,_,cc,e,slk,false,h1,h2,h3,h4⟩
theorem Hs.sV {h0 h:AH} {rs:List Rs} (S:Hs h0 h rs) (v:Value) {α:Type} {z:Nat} {enc:α→List Value} {l:List α} [i:HasR rs v α z enc l]:∃ s:SlV,v=s.val:=(i.rd S).qfc
end Go.Proofs.Xx
namespace Go.Proofs.Xx
open Go
def Star (h:AH):List Rs→Fp→Prop
 | [],_=>True
 | r :: rs,U=>∃ fp:Fp,r.ok h fp∧(∀ b,fp b→U b)∧Star h rs (fun b=>U b∧¬ fp b)
theorem Star.mono {h:AH}:∀ {rs:List Rs} {U U':Fp},(∀ b,U b→U' b)→Star h rs U→Star h rs U'
 | [],_,_,_,_=>trivial
 | r :: rs,U,U',hu,⟨fp,h1,h2,h3⟩=>⟨fp,h1,fun b hb=>hu b (h2 b hb),h3.mono fun b hb=>⟨hu b hb.1,hb.2⟩⟩
theorem Star.local {h h':AH}:∀ {rs:List Rs} {U:Fp},Star h rs U→(∀ b,U b→h'.get b=h.get b)→Star h' rs U
 | [],_,_,_=>trivial
 | r :: rs,U,⟨fp,h1,h2,h3⟩,hs=>⟨fp,h1.local fun b hb=>hs b (h2 b hb),h2,h3.local fun b hb=>hs b hb.1⟩
theorem Star.sep {lo:Nat} {h:AH} {rs:List Rs}:∀ {l:List Rs} {U V:Fp},Star h l U→(∀ b,U b→lo≤b∧b<h.next∧V b)→Sep lo h rs (fun b=>V b∧¬ U b)→Sep lo h (l ++ rs) V
 | [],U,V,_,_,k=>k.mono fun b hb=>hb.1
 | r :: l,U,V,⟨fp,h1,h2,h3⟩,hu,k=>⟨fp,h1,fun b hb=>hu b (h2 b hb),h3.sep (fun b hb=>⟨(hu b hb.1).1,(hu b hb.1).2.1,(hu b hb.1).2.2,hb.2⟩) (k.mono fun b hb=>⟨⟨hb.1,fun q=>hb.2 (h2 b q)⟩,fun q=>hb.2 q.1⟩)⟩
theorem Sep.star {lo:Nat} {h:AH} {rs:List Rs}:∀ {l:List Rs} {V:Fp},Sep lo h (l ++ rs) V→∃ U:Fp,Star h l U∧(∀ b,U b→lo≤b∧b<h.next∧V b)∧Sep lo h rs (fun b=>V b∧¬ U b)
 | [],V,k=>⟨fun _=>False,trivial,fun b hb=>hb.elim,k.mono fun b hb=>⟨hb,id⟩⟩
 | r :: l,V,⟨fp,h1,h2,h3⟩=>by
  obtain ⟨U,k1,k2,k3⟩:=h3.star;refine ⟨fun b=>fp b∨U b,⟨fp,h1,fun b hb=>.inl hb,k1.mono fun b hb=>⟨.inr hb,(k2 b hb).2.2.2⟩⟩,fun b hb=>?_,k3.mono fun b hb=>⟨hb.1.1,fun q=>?_⟩⟩
  ·rcases hb with hb|hb
   ·exact h2 b hb
   ·exact ⟨(k2 b hb).1,(k2 b hb).2.1,(k2 b hb).2.2.1⟩
  ·rcases q with q|q
   ·exact hb.1.2 q
   ·exact hb.2 q
abbrev qa5 {σ:Type} (φ:σ→Prop) (f:σ→List Rs):Rs:=.any (fun h fp=>∃ s,φ s∧Star h (f s) fp)
theorem Hs.unpack {σ:Type} {φ:σ→Prop} {f:σ→List Rs} {h0 h:AH} {rs:List Rs} (S:Hs h0 h (qa5 φ f :: rs)):∃ s,φ s∧Hs h0 h (f s ++ rs):=by
 obtain ⟨fp,k1,k2,k3⟩:=S.sep;obtain ⟨s,hs,hst⟩:=k1 h fun _ _=>rfl;exact ⟨s,hs,S.ext,hst.sep k2 k3⟩
theorem Hs.pack {σ:Type} {φ:σ→Prop} {f:σ→List Rs} {h0 h:AH} {rs:List Rs} (s:σ) (hs:φ s) (S:Hs h0 h (f s ++ rs)):Hs h0 h (qa5 φ f :: rs):=by
 obtain ⟨U,k1,k2,k3⟩:=S.sep.star;exact ⟨S.ext,U,fun h' q=>⟨s,hs,k1.local q⟩,k2,k3⟩
section
variable {P:Program} {X:Extern} {sz:Nat} {L:Ks} {h h0:AH} {rs:List Rs} {ops:Array Oper} {os:List Oper} {o:Oper} {R:Ks→AH→Prop}
theorem tk {α:Type} {x hi:Operand} {ty e:TypeId} {v vh:Value} {z:Nat} {enc:α→List Value} {l:List α} {f:Rs→List Rs} {dd:List Rs} {d:Tmp} (b:Nat) (S:Hs h0 h rs) (ho:o.op = .slice ty x none (some hi) none) (hx:kA L x=some v) [i:HasS rs v α e z enc l f dd]
 (w:∀ v',Hs h0 h (f (.sl v' e z enc (l.take b)))→KO P X sz ops os (L.put d v') h R) (hg:qE ops L.tree o.guard=some true:=by exact rfl) (hhi:kA L hi=some vh:=by exact rfl) (hbo:zt (some vh) l.length=some b:=by exact rfl) (hb:b≤l.length:=by first|omega|grind)
 (hz:∀ x,(enc x).length=z:=by intro _;rfl) (hu:ZU P ty=some z:=by exact rfl) (hdst:o.dst=some d:=by exact rfl) (hds:Nat.blt d sz=true:=by exact rfl):KO P X sz ops (o :: os) L h R:=by
 obtain ⟨fp,k1,k2,-⟩:=(i.ut (.sl v e z enc l)).ok (h':=h) S.ext.next (zA3 _) S.sep
 have hue:∃ e',P.underlying ty=some (.slice e')∧zK P e'=some z:=by
  unfold ZU at hu;split at hu
  ·exact ⟨_,by assumption,hu⟩
  ·cases hu
 obtain ⟨e',hu1,hu2⟩:=hue;have hhi':zU L.tree hi=some vh:=qR hhi;have go:∀ v',zO P ty v none (some vh) none h=some v'→(∀ fq,(Rs.sl v e z enc l).ok h fq→(Rs.sl v' e z enc (l.take b)).ok h fq)→KO P X sz ops (o :: os) L h R:=fun v' q1 q2=>by
  refine zI (v:=v') (h':=h) hg ?_ (by simp only [qW,hdst,hds]) (w v' (S.same (i.ut _) q2));rw [ho];simp only [jl,qR hx,jc,hhi',q1,qZ,jf]
 have h0b:zt none 0=some 0:=rfl;rcases k1 with ⟨rfl,rfl⟩|⟨bb,o',cc,slk,cap,g1,g2,g3,g4,g5,g6⟩
 ·obtain rfl:b=0:=by simpa using hb
  refine go (.slice none 0 0) ?_ fun fq q=>.inl ⟨rfl,by simp⟩;have:zt (some vh) 0=some 0:=hbo;simp only [zO,hu1,hu2,this,h0b]
 ·subst g1;have t1:Nat.ble 0 b=true:=by simp
  have t2:Nat.ble b cap=true:=zB3 (zD0 hb g5.1);have hlen:(l.take b).length=b:=by simp;omega
  have sub:=jR (i:=0) (m:=b*z) g4 (by rw [zG1];exact zD3 z hb);rw [List.drop_zero,← Qb hz,Nat.add_zero] at sub;have key:∀ fq,(Rs.sl (.slice (some ⟨bb,o',none⟩) l.length cap) e z enc l).ok h fq→(Rs.sl (.slice (some ⟨bb,o',none⟩) (b - 0) (cap - 0)) e z enc (l.take b)).ok h fq:=fun fq q=>by
   rcases q with ⟨q1,-⟩|⟨b2,o2,cc2,sl2,cap2,q1,q2,q3,q4,q5,q6⟩
   ·cases q1
   ·cases q1
    exact .inr ⟨bb,o',cc,slk,cap,by rw [hlen,Nat.sub_zero,Nat.sub_zero],g2,q3,by rw [hlen];exact sub,⟨by rw [hlen];exact zD0 hb g5.1,g5.2⟩,g6⟩
  cases hk:(slk.isNone && Nat.beq 0 cap) with
  | false =>
   refine go (.slice (some ⟨bb,o',none⟩) (b - 0) (cap - 0)) ?_ key;simp only [zO,hu1,hu2,g2,h0b,hbo,t1,t2,hk,zF9,Nat.zero_mul,Nat.add_zero]
  | true =>
   refine go (.slice (some ⟨bb,o',none⟩) (b - 0) (cap - 0)) ?_ key;simp only [zO,hu1,hu2,g2,h0b,hbo,t1,t2,hk,zF9]
theorem bsn {ty:TypeId} {n:Nat} {ps:Array (Nat×Operand)} {vs:List (Nat×Value)} {c:List Value} {e:TypeId} {α:Type} {z:Nat} {d:Tmp} (enc:α→List Value) (l:List α) (S:Hs h0 h rs) (w:∀ u h',Hs h0 h' (.sl u e z enc l :: rs)→KO P X sz ops os (L.put d u) h' R) (ho:o.op = .buildSlice ty n ps:=by exact rfl) (hg:qE ops L.tree o.guard=some true:=by exact rfl)
 (hx:JD L ps.toList=some vs:=by exact rfl) (hv:zW P ty n vs h=some (.slice (some ⟨h.next,0,none⟩) n n,h.add (.cells c e none false)):=by exact rfl) (hl:l.length=n:=by exact rfl) (hc:c=l.flatMap enc:=by exact rfl) (hz:c.length=l.length*z:=by exact rfl) (hdst:o.dst=some d:=by exact rfl) (hds:Nat.blt d sz=true:=by exact rfl):KO P X sz ops (o :: os) L h R:=by
 subst hl;exact Vm ho hg hx hv (by simp only [qW,hdst,hds]) (w _ _ ((S.add c e).qeM (z:=z) enc l hc hz))
end
section
variable {P:Program} {X:Extern} {inR:Bool} {sz:Nat} {L:Ks} {h h0:AH} {rs:List Rs} {ops:Array Oper} {os:List Oper} {o:Oper} {R:Ks→AH→Prop} {Q:KQ}
end
end Go.Proofs.Xx
