/-
  Rules for unsigned words: shifts,masks,conversions.
-/
import Derived.Test.YtnopenpheaihmaaGreatDoorM5
namespace Go.Proofs.Xx
open Go
set_option linter.unusedSimpArgs false
set_option linter.unusedVariables false
section
variable {P:Program} {X:Extern} {inR:Bool} {sz:Nat} {L:Ks} {h h0:AH} {rs:List Rs} {ops:Array Oper} {os:List Oper} {o:Oper} {R:Ks→AH→Prop} {Q:KQ}
theorem wrap_u64 {n:Int} (h:0≤n∧n≤18446744073709551615):IntKind.u64.wrap n=n:=Gf (by simpa [IntKind.min,IntKind.max,IntKind.signed,IntKind.bits] using h)
theorem Wh (n:Int):0≤IntKind.u64.wrap n∧IntKind.u64.wrap n≤18446744073709551615:=by
 simp only [IntKind.wrap,IntKind.signed,IntKind.bits]
 simp
 omega
theorem cW {L':Ks} {x:Operand} {s d:TypeId} {k k2:IntKind} {a:Int} (w:KO P X sz ops os L' h R) (ho:o.op = .convert s d x:=by exact rfl) (hg:qB ops L.tree o.guard=some true:=by exact rfl) (hx:kA L x=some (.int k a):=by exact rfl) (hs:P.underlying s=some (.int k2):=by exact rfl) (hd:P.underlying d=some (.int .u64):=by exact rfl)
 (hb:0≤a∧a≤18446744073709551615:=by first|omega|grind) (hp:qM sz L o.dst (.int .u64 a)=some L':=by exact rfl):KO P X sz ops (o :: os) L h R :=
 qY hg (by rw [ho];simp only [jI,qL hx,jf,hs,hd,wrap_u64 hb]) hp w
theorem sR {L':Ks} {x y:Operand} {ty ty2:TypeId} {k k2:IntKind} {a b:Int} (w:KO P X sz ops os L' h R) (ho:o.op = .binOp .shr ty x y ty2:=by exact rfl) (hg:qB ops L.tree o.guard=some true:=by exact rfl) (hx:kA L x=some (.int k a):=by exact rfl) (hy:kA L y=some (.int k2 b):=by exact rfl)
 (hb:decide (b<0)=false:=by exact rfl) (hp:qM sz L o.dst (.int k (a / (2 ^ (min b.toNat k.bits):Nat)))=some L':=by exact rfl):KO P X sz ops (o :: os) L h R :=
 je ho hg hx hy (by
  simp only [QW,hb]
  rw [Int.fdiv_eq_ediv_of_nonneg _ (by exact_mod_cast Nat.zero_le _)]
  norm_cast) hp w
theorem sL {L':Ks} {x y:Operand} {ty ty2:TypeId} {k2:IntKind} {a b:Int} (w:KO P X sz ops os L' h R) (ho:o.op = .binOp .shl ty x y ty2:=by exact rfl) (hg:qB ops L.tree o.guard=some true:=by exact rfl) (hx:kA L x=some (.int .u64 a):=by exact rfl) (hy:kA L y=some (.int k2 b):=by exact rfl)
 (hb:0≤b∧b≤62:=by omega) (ha:0≤a∧a≤1:=by omega) (hp:qM sz L o.dst (.int .u64 (a*2 ^ b.toNat))=some L':=by exact rfl):KO P X sz ops (o :: os) L h R :=
 je ho hg hx hy (by
  have e1:decide (b<0)=false:=decide_eq_false (by omega)
  have e2:min b.toNat (IntKind.bits .u64)=b.toNat:=Nat.min_eq_left (by show b.toNat≤64;omega)
  have e3:(2:Int) ^ b.toNat≤2 ^ 62:=by
   have:(2:Nat) ^ b.toNat≤2 ^ 62:=Nat.pow_le_pow_right (by omega) (by omega)
   exact_mod_cast this
  have e4:(0:Int)<2 ^ b.toNat:=by
   have:0<(2:Nat) ^ b.toNat:=Nat.pos_of_ne_zero (by simp)
   exact_mod_cast this
  simp only [QW,e1,e2]
  rw [wrap_u64]
  have:a=0∨a=1:=by omega
  rcases this with rfl|rfl
  ·omega
  ·omega) hp w
theorem aW {op:BinOp} {x y:Operand} {ty ty2:TypeId} {k2:IntKind} {a b:Int} {d:Tmp} (w:∀ r:Int,0≤r→r≤18446744073709551615→KO P X sz ops os (L.put d (.int .u64 r)) h R) (ho:o.op = .binOp op ty x y ty2:=by exact rfl) (hg:qB ops L.tree o.guard=some true:=by exact rfl) (hx:kA L x=some (.int .u64 a):=by exact rfl) (hy:kA L y=some (.int k2 b):=by exact rfl)
 (hop:(match op,k2 with|.shl,_=>decide (b<0)=false|.xor,.u64=>true=true|.add,.u64=>true=true|.sub,.u64=>true=true|.mul,.u64=>true=true | _,_=>False):=by exact rfl) (hd:o.dst=some d:=by exact rfl) (hs:Nat.blt d sz=true:=by exact rfl):KO P X sz ops (o :: os) L h R:=by
 have go:∀ n,QW P op ty (.int .u64 a) (.int k2 b)=some (.int .u64 (IntKind.u64.wrap n))→KO P X sz ops (o :: os) L h R:=fun n e =>
  je ho hg hx hy e (by simp only [qM,hd,hs]) (w _ (Wh n).1 (Wh n).2)
 cases op<;>cases k2<;>first|(exact go _ (by simp only [QW,hop];rfl))|(exact go _ (by simp only [QW,decide_true];rfl))|(exact hop.elim)
theorem aM {x y:Operand} {ty ty2:TypeId} {a b:Int} {d:Tmp} (w:∀ r:Int,0≤r→r≤b→KO P X sz ops os (L.put d (.int .u64 r)) h R) (ho:o.op = .binOp .and ty x y ty2:=by exact rfl) (hg:qB ops L.tree o.guard=some true:=by exact rfl) (hx:kA L x=some (.int .u64 a):=by exact rfl) (hy:kA L y=some (.int .u64 b):=by exact rfl)
 (hb:0≤b∧b≤18446744073709551615:=by omega) (hd:o.dst=some d:=by exact rfl) (hs:Nat.blt d sz=true:=by exact rfl):KO P X sz ops (o :: os) L h R:=by
 obtain ⟨m,rfl⟩:=Int.eq_ofNat_of_zero_le hb.1
 have hm:m<2 ^ 64:=by omega
 have e1:(BitVec.ofInt 64 (m:Int)).toNat=m:=by
  rw [BitVec.ofInt_natCast,BitVec.toNat_ofNat,Nat.mod_eq_of_lt hm]
 have e2:((BitVec.ofInt 64 a &&& BitVec.ofInt 64 (m:Int)).toNat)≤m:=by
  rw [BitVec.toNat_and,e1];exact Nat.and_le_right
 generalize hr:(BitVec.ofInt 64 a &&& BitVec.ofInt 64 (m:Int)).toNat=r at e2
 refine je ho hg hx hy (v:=.int .u64 (r:Int)) ?_ (by simp only [qM,hd,hs];rfl) (w _ (by omega) (by omega))
 simp only [QW,decide_true]
 show some (Value.int .u64 (IntKind.u64.wrap ((BitVec.ofInt 64 a &&& BitVec.ofInt 64 (m:Int)).toNat:Int)))=_
 rw [hr,wrap_u64 (by constructor<;>omega)]
theorem sW {L':Ks} {x y:Operand} {ty ty2:TypeId} {a b:Int} (w:KO P X sz ops os L' h R) (ho:o.op = .binOp .sub ty x y ty2:=by exact rfl) (hg:qB ops L.tree o.guard=some true:=by exact rfl) (hx:kA L x=some (.int .u64 a):=by exact rfl) (hy:kA L y=some (.int .u64 b):=by exact rfl)
 (hb:0≤a - b∧a - b≤18446744073709551615:=by omega) (hp:qM sz L o.dst (.int .u64 (a - b))=some L':=by exact rfl):KO P X sz ops (o :: os) L h R :=
 je ho hg hx hy (by simp only [QW,decide_true,wrap_u64 hb]) hp w
def qcU {σ:Type} (I:σ→AH→Prop) (sl:σ→Ks) (Q:KQ):KQ
 | .norm,L',h'=>∃ s,I s h'∧Ks.le (sl s) L'
 | x,L',h'=>Q x L' h'
theorem QG {σ:Type} {a b:Code} (I:σ→AH→Prop) (sl:σ→Ks) (w1:K P X inR sz a L h (qcU I sl Q)) (w2:∀ s h',I s h'→K P X inR sz b (sl s) h' Q):K P X inR sz (.seq a b) L h Q :=
 qi (w1.mono fun x L' h' q=>by
  cases x with
  | norm=>obtain ⟨s,q1,q2⟩:=q;exact (w2 s h' q1).le q2
  | exit id=>exact q
  | ret=>exact q)
theorem sR1 {L':Ks} {x y:Operand} {ty ty2:TypeId} {k2:IntKind} {a:Int} (w:KO P X sz ops os L' h R) (ho:o.op = .binOp .shr ty x y ty2:=by exact rfl) (hg:qB ops L.tree o.guard=some true:=by exact rfl) (hx:kA L x=some (.int .u64 a):=by exact rfl) (hy:kA L y=some (.int k2 1):=by exact rfl)
 (hp:qM sz L o.dst (.int .u64 (a / 2))=some L':=by exact rfl):KO P X sz ops (o :: os) L h R:=sR (b:=1) w ho hg hx hy rfl (by rw [show (2 ^ (min (1:Int).toNat (IntKind.bits .u64)):Nat)=2 by rfl];exact hp)
theorem qH {L':Ks} {x i:Operand} {ty:TypeId} {v:Value} {ik:IntKind} {a:Int} {α:Type} {z:Nat} {enc:α→List Value} {l:List α} (S:Hs h0 h rs) (ho:o.op = .indexAddr ty x i) (hx:kA L x=some v) [k:HasR rs v α z enc l] (w:KO P X sz ops os L' h R) (hg:qB ops L.tree o.guard=some true:=by exact rfl) (hi:kA L i=some (.int ik a):=by exact rfl) (hu:QQ P ty=some z:=by exact rfl)
 (ha:0≤a∧a<l.length:=by first|omega|(simp only [List.length_set,List.length_append,List.length_cons,List.length_nil];omega)|grind) (hp:qM sz L o.dst (Yx v z a.toNat 0)=some L':=by exact rfl):KO P X sz ops (o :: os) L h R:=yw ho hg hx hi hu (k.rd S) ha hp w
theorem qI {α:Type} [Inhabited α] {L':Ks} {x:Operand} {ty:TypeId} {v u:Value} {z' z k off:Nat} {enc:α→List Value} {l:List α} (S:Hs h0 h rs) (ho:o.op = .load ty x) (hx:kA L x=some (Yx v z' k off)) [i:HasR rs v α z enc l] (w:KO P X sz ops os L' h R) (hzz:z'=z:=by exact rfl) (hg:qB ops L.tree o.guard=some true:=by exact rfl)
 (hz:∀ x,(enc x).length=z:=by intro _;rfl) (hk:k<l.length:=by first|omega|(simp only [List.length_set,List.length_append,List.length_cons,List.length_nil];omega)|grind) (hv:Ja P ty (enc (l.getD k default)) off=some u:=by exact rfl) (hp:qM sz L o.dst u=some L':=by exact rfl):KO P X sz ops (o :: os) L h R:=by
 subst hzz
 exact qdV ho hg hx (i.rd S) hz hk hv hp w
theorem ZK {α:Type} [Inhabited α] {L':Ks} {x yo:Operand} {ty e:TypeId} {v u:Value} {z' z k off:Nat} {enc:α→List Value} {l:List α} {f:Rs→List Rs} {d:List Rs} {y:α} (S:Hs h0 h rs) (ho:o.op = .store ty x yo) (hx:kA L x=some (Yx v z' k off)) [i:HasS rs v α e z enc l f d] (w:∀ h',Hs h0 h' (f (.sl v e z enc (l.set k y)))→KO P X sz ops os L' h' R)
 (hzz:z'=z:=by exact rfl) (hg:qB ops L.tree o.guard=some true:=by exact rfl) (hy:kA L yo=some u:=by exact rfl) (hz:∀ x,(enc x).length=z:=by intro _;rfl) (hk:k<l.length:=by first|omega|(simp only [List.length_set,List.length_append,List.length_cons,List.length_nil];omega)|grind) (hv:QI P ty (enc (l.getD k default)) off u=some (enc y):=by exact rfl) (hp:qM sz L o.dst (.tuple #[])=some L':=by exact rfl):KO P X sz ops (o :: os) L h R:=by
 subst hzz
 exact qfO S ho hg hx hy (i.ut _) hz hk hv hp w
end
end Go.Proofs.Xx
namespace Go.Proofs.Xx
open Go
set_option linter.unusedSimpArgs false
set_option linter.unusedVariables false
def IsView (v v2:Value) (z k n:Nat):Prop:=∃ b o c2,v = .slice (some ⟨b,o,none⟩) n n∧v2 = .slice (some ⟨b,o+k*z,none⟩) (n - k) c2
theorem IsView.el {v v2:Value} {z k n:Nat} (V:IsView v v2 z k n) (j off:Nat):Yx v2 z j off=Yx v z (k+j) off:=by
 obtain ⟨b,o,c2,rfl,rfl⟩:=V
 simp only [Yx]
 rw [show o+k*z+j*z+off=o+(k+j)*z+off by rw [Nat.add_mul];omega]
theorem IsView.rd {α:Type} {v v2:Value} {z k:Nat} {h:AH} {enc:α→List Value} {l:List α} (V:IsView v v2 z k l.length) (r:RdL h v z enc l) (hz:∀ x,(enc x).length=z) (hk:k≤l.length):RdL h v2 z enc (l.drop k):=by
 obtain ⟨b,o,c2,rfl,rfl⟩:=V
 rcases r with ⟨q,-⟩|⟨b',o',cap,cc,e,s,q,e1,h1,h2⟩
 ·cases q
 ·cases e1
  have hkz:k*z≤l.length*z:=Nat.mul_le_mul_right z hk
  have hsub:k*z+(l.length - k)*z=l.length*z:=by rw [← Nat.add_mul];congr 1;omega
  refine .inr ⟨b,o+k*z,c2,cc,e,s,q,by rw [List.length_drop],h1,?_⟩
  rw [List.length_drop,QO hz,Qe h2 (by omega),List.take_of_length_le]
  rw [List.length_drop,zq hz];omega
section
variable {P:Program} {X:Extern} {inR:Bool} {sz:Nat} {L:Ks} {h h0:AH} {rs:List Rs} {ops:Array Oper} {os:List Oper} {o:Oper} {R:Ks→AH→Prop} {Q:KQ}
theorem dv {α:Type} {x lo:Operand} {ty e:TypeId} {v:Value} {z:Nat} {enc:α→List Value} {l:List α} {f:Rs→List Rs} {dd:List Rs} {ik:IntKind} {a:Int} {d:Tmp} (S:Hs h0 h rs) (ho:o.op = .slice ty x (some lo) none none) (hx:kA L x=some v) [i:HasS rs v α e z enc l f dd]
 (w:∀ v',IsView v v' z a.toNat l.length→KO P X sz ops os (L.put d v') h R) (hg:qB ops L.tree o.guard=some true:=by exact rfl) (hlo:kA L lo=some (.int ik a):=by exact rfl) (hu:QQ P ty=some z:=by exact rfl) (ha:0≤a∧a<l.length:=by first|omega|grind)
 (hdst:o.dst=some d:=by exact rfl) (hds:Nat.blt d sz=true:=by exact rfl):KO P X sz ops (o :: os) L h R:=by
 obtain ⟨k,rfl⟩:=Int.eq_ofNat_of_zero_le ha.1
 have hk:k<l.length:=by omega
 obtain ⟨fp,k1,k2,-⟩:=(i.ut (.sl v e z enc l)).ok (h':=h) S.ext.next (Nat.le_refl _) S.sep
 have hue:∃ e',P.underlying ty=some (.slice e')∧zH P e'=some z:=by
  unfold QQ at hu
  split at hu
  ·exact ⟨_,by assumption,hu⟩
  ·cases hu
 obtain ⟨e',hu1,hu2⟩:=hue
 have hlo':jX L.tree lo=some (.int ik (Int.ofNat k)):=qL hlo
 rcases k1 with ⟨rfl,rfl⟩|⟨b,o',cc,slk,g1,g2,g3,g4,g5,g6⟩
 ·simp at hk
 ·subst g1
  have hle:Nat.ble k l.length=true:=Nat.ble_eq_true_of_le (Nat.le_of_lt hk)
  have hnn:Nat.ble l.length l.length=true:=Nat.ble_eq_true_of_le (Nat.le_refl _)
  have hq:(slk.isNone && Nat.beq k l.length)=false:=by
   have:Nat.beq k l.length=false:=by
    rw [Bool.eq_false_iff];intro q;have:=Nat.eq_of_beq_eq_true q;omega
   rw [this,Bool.and_false]
  refine qY (v:=.slice (some ⟨b,o'+k*z,none⟩) (l.length - k) (l.length - k)) (h':=h) hg ?_ (by simp only [qM,hdst,hds];rfl) (w _ ⟨b,o',l.length - k,rfl,by rw [Int.toNat_natCast]⟩)
  rw [ho]
  have e1:zM P ty (.slice (some ⟨b,o',none⟩) l.length l.length) (some (.int ik (Int.ofNat k))) none none h=some (.slice (some ⟨b,o'+k*z,none⟩) (l.length - k) (l.length - k)):=by
   simp only [zM,hu1,g2,hu2,zA,hle,hnn,Bool.and_self,hq]
  simp only [jI,qL hx,jr,hlo',e1,qU]
theorem cl {α:Type} {x:Operand} {ty e e':TypeId} {v v2:Value} {z k:Nat} {enc:α→List Value} {l:List α} {f:Rs→List Rs} {dd:List Rs} (y0:α) (S:Hs h0 h rs) (V:IsView v v2 z k l.length) (ho:o.op = .call { callee:=.builtin .clear,args:=#[x],argTypes:=#[ty] }) (hx:kA L x=some v2) [i:HasS rs v α e z enc l f dd]
 (w:∀ h',Hs h0 h' (f (.sl v e z enc (l.take k ++ List.replicate (l.length - k) y0)))→KO P X sz ops os L h' R) (hu:P.underlying ty=some (.slice e'):=by exact rfl) (hz0:qW P e'=some (enc y0):=by exact rfl) (h1:(enc y0).all one? = true:=by exact rfl)
 (hz:∀ x,(enc x).length=z:=by intro _;rfl) (hk:k<l.length:=by omega) (hzz:0<z:=by decide) (hg:qB ops L.tree o.guard=some true:=by exact rfl) (hdst:o.dst=none:=by exact rfl):KO P X sz ops (o :: os) L h R:=by
 obtain ⟨b,o',c2,rfl,rfl⟩:=V
 obtain ⟨fp,k1,k2,-⟩:=(i.ut (.sl (.slice (some ⟨b,o',none⟩) l.length l.length) e z enc l)).ok (h':=h) S.ext.next (Nat.le_refl _) S.sep
 rcases k1 with ⟨q,-⟩|⟨b',o2,cc,slk,g1,g2,g3,g4,g5,g6⟩
 ·cases q
 cases g1
 have hrow:zh (enc y0) (l.length - k)=(List.replicate (l.length - k) y0).flatMap enc:=Xu rfl _
 have hrl:((List.replicate (l.length - k) y0).flatMap enc).length=(l.length - k)*z:=by rw [zq hz];simp
 have hkz:k*z+(l.length - k)*z=l.length*z:=by rw [← Nat.add_mul];congr 1;omega
 obtain ⟨he,hlen⟩:l.flatMap enc=(cc.drop o').take (l.length*z)∧o'+l.length*z≤cc.length:=by
  rcases JS g4 with q|⟨q1,q2⟩
  ·exact q
  ·exfalso
   have:l.length*z=0:=q1
   have:=Nat.mul_pos (show 0<l.length by omega) hzz
   omega
 have hall:((List.replicate (l.length - k) y0).flatMap enc).all one? = true:=by
  rw [List.all_eq_true]
  intro u hu
  rw [List.mem_flatMap] at hu
  obtain ⟨y,hy,hu⟩:=hu
  rw [List.mem_replicate] at hy
  rw [hy.2] at hu
  exact List.all_eq_true.1 h1 u hu
 have hput:putCells h b (o'+k*z) cc e slk (zh (enc y0) (l.length - k))=some (h.put b (.cells (splice cc (o'+k*z) ((List.replicate (l.length - k) y0).flatMap enc)) e slk false)):=by
  rw [hrow]
  unfold putCells
  rw [hall,Nat.ble_eq_true_of_le (by rw [hrl];omega)]
  rfl
 obtain ⟨m,hm⟩:∃ m,l.length - k=m+1:=⟨l.length - k - 1,by omega⟩
 have hclear:y7 P ty (.slice (some ⟨b,o'+k*z,none⟩) (l.length - k) c2) h=some (h.put b (.cells (splice cc (o'+k*z) ((List.replicate (l.length - k) y0).flatMap enc)) e slk false)):=by
  rw [hm] at hput ⊢
  simp only [y7,hu,hz0,g2,hput]
 refine qY (v:=.tuple #[]) (h':=h.put b (.cells (splice cc (o'+k*z) ((List.replicate (l.length - k) y0).flatMap enc)) e slk false)) hg ?_ (by simp only [qM,hdst]) (w _ ?_)
 ·rw [ho]
  simp only [jI,jQ,qL hx,jS,hclear]
 ·have hsp:splice cc (o'+k*z) ((List.replicate (l.length - k) y0).flatMap enc)=splice cc (o'+k*z+0) ((List.replicate (l.length - k) y0).flatMap enc):=rfl
  have hin:=wF (cc:=cc) (uc:=(List.replicate (l.length - k) y0).flatMap enc) (o:=o') (n:=l.length*z) (a:=k*z) (z:=(l.length - k)*z) (off:=0) hlen (by omega) (by rw [hrl];omega)
  have hfl:((l.take k ++ List.replicate (l.length - k) y0).flatMap enc)=splice ((cc.drop o').take (l.length*z)) (k*z) (splice ((((cc.drop o').take (l.length*z)).drop (k*z)).take ((l.length - k)*z)) 0 ((List.replicate (l.length - k) y0).flatMap enc)):=by
   rw [← he]
   have hll:(l.flatMap enc).length=l.length*z:=zq hz l
   rw [List.flatMap_append,J6 hz]
   simp only [splice,List.take_zero,List.nil_append,Nat.zero_add]
   rw [hrl,List.drop_of_length_le (l:=(((l.flatMap enc).drop (k*z)).take ((l.length - k)*z))) (by rw [List.length_take];omega),List.append_nil,hrl,List.drop_of_length_le (by omega),List.append_nil]
  refine S.turn (i.ut _) (Nat.le_refl _) (S.wf.put (k2 b g3).2.1 _) fun fq q1 q2=>?_
  have hb:fq b:=by
   rcases q1 with ⟨q,-⟩|⟨b',o2,cc2,sl2,q3,q4,q5,-⟩
   ·cases q
   ·cases q3;exact q5
  have hnl:(l.take k ++ List.replicate (l.length - k) y0).length=l.length:=by simp;omega
  refine ⟨fun j _ hj=>by rw [AH.get_put,if_neg];intro q;subst q;exact hj hb,fun j=>j=b,.inr ⟨b,o',_,slk,by rw [hnl],by rw [AH.get_put,if_pos rfl],rfl,?_,?_,g6⟩,fun j hj=>by subst hj;exact ⟨(k2 _ g3).2.1,.inl hb⟩⟩
  ·rw [hnl,hfl];exact hin
  ·left
   rw [hnl,XX (by rw [hrl];omega)]
   rcases g5 with g5|⟨g5,-⟩
   ·exact g5
   ·subst g5;simp at hk
theorem YP:∀ l:List Nat,bytesOf? (l.flatMap eU)=some (l.map UInt8.ofNat)
 | []=>rfl
 | x :: l=>by
  rw [List.flatMap_cons]
  show (match byteOf? (.int .u8 (Int.ofNat x)),bytesOf? (l.flatMap eU) with|some b,some s=>some (b :: s) | _,_=>none)=_
  rw [YP l];rfl
theorem bS {L':Ks} {x:Operand} {s dt e:TypeId} {v:Value} {l:List Nat} (hr:RdL h v 1 eU l) (w:KO P X sz ops os L' h R) (ho:o.op = .convert s dt x:=by exact rfl) (hg:qB ops L.tree o.guard=some true:=by exact rfl) (hx:kA L x=some v:=by exact rfl)
 (hs:P.underlying s=some (.slice e):=by exact rfl) (he:P.underlying e=some (.int .u8):=by exact rfl) (hd:P.underlying dt=some .string:=by exact rfl) (hp:qM sz L o.dst (str (l.map UInt8.ofNat))=some L':=by exact rfl):KO P X sz ops (o :: os) L h R:=by
 refine qY hg ?_ hp w
 rw [ho]
 have e1:jY P s dt v h=some (str (l.map UInt8.ofNat)):=by
  rcases hr with ⟨rfl,g1,g2⟩|⟨b',o',cap,cc,e0,s0,q,rfl,g1,g2⟩
  ·have:l=[]:=List.length_eq_zero_iff.1 g1
   subst this
   simp only [jY,hs,hd,he];rfl
  ·rw [Nat.mul_one] at g2
   simp only [jY,hs,hd,he,g1,g2,YP];rfl
 have e2:jf P s dt v=none:=by
  unfold jf
  rw [hs]
 simp only [jI,qL hx,e2,e1]
end
end Go.Proofs.Xx
namespace Go.Proofs.Xx
open Go
set_option linter.unusedSimpArgs false
set_option linter.unusedVariables false
section
variable {P:Program} {X:Extern} {inR:Bool} {sz:Nat} {L:Ks} {h h0:AH} {rs:List Rs} {ops:Array Oper} {os:List Oper} {o:Oper} {R:Ks→AH→Prop} {Q:KQ}
def qh7 (P:Program) (ty:TypeId):Option (Nat×Nat):=match P.underlying ty with|some (.array n e)=>(match zH P e with|some z=>some (n,z)|none=>none) | _=>none
end
end Go.Proofs.Xx
namespace Go.Proofs.Xx
open Go
set_option linter.unusedSimpArgs false
set_option linter.unusedVariables false
section
variable {P:Program} {X:Extern} {inR:Bool} {sz:Nat} {L:Ks} {h h0:AH} {rs:List Rs} {ops:Array Oper} {os:List Oper} {o:Oper} {R:Ks→AH→Prop} {Q:KQ}
theorem qgq (s:List UInt8):(s.map UInt8.toNat).flatMap eU=s.map fun b=>Value.int .u8 (b.toNat:Int):=by
 induction s with
 | nil=>rfl
 | cons a s ih=>rw [List.map_cons,List.flatMap_cons,ih];rfl
theorem qcm {rs':List Rs} {ts tx e:TypeId} {by_:Nat} {l:List Nat} {s:List UInt8} {v:Value} (S:Hs h0 h rs) (hs:qQ P ts=some e) (hz:qW P e=some [.int .u8 0]) (hb:Qm P e=some (by_+1)) (hx':P.underlying tx=some .string)
 (hd:Dt rs (.sl v e 1 eU l) rs') (hsz:(l.length+s.length+1)*(by_+1)≤1099511627776) :
 ∃ v' h',jF P [ts,tx] v (str s) h=some (v',h')∧Hs h0 h' (.sl v' e 1 eU (l ++ s.map UInt8.toNat) :: rs'):=by
 have hlen:∀ y,(eU y).length=1:=fun _=>rfl
 obtain ⟨l2,hl2⟩:∃ l2,s.map UInt8.toNat=l2:=⟨_,rfl⟩
 have hsl:s.length=l2.length:=by rw [← hl2];simp
 have hall:(l2.flatMap eU).all one? = true:=by
  rw [List.all_eq_true]
  intro u hu
  rw [List.mem_flatMap] at hu
  obtain ⟨y,hy,hu⟩:=hu
  simp only [eU,List.mem_singleton] at hu
  subst hu;rfl
 have hsrc:Xc ([Value.int .u8 0]:List Value).length (str s) h=some (l2.length,l2.flatMap eU):=by
  subst hl2
  unfold str
  simp only [Xc,List.toList_toArray,qgq,List.length_map]
 rw [hl2]
 rw [hsl] at hsz
 have hnl:(l2.flatMap eU).length=l2.length*([Value.int .u8 0]:List Value).length:=zq hlen l2
 have k1:Nat.ble ((l2.length+1)*(by_+1)) 1099511627776=true:=Nat.ble_eq_true_of_le (Nat.le_trans (Nat.mul_le_mul_right _ (by omega)) hsz)
 have k2:Nat.beq (l2.flatMap eU).length (l2.length*([Value.int .u8 0]:List Value).length)=true:=by rw [hnl];simp
 have k3:Nat.ble ((l.length+l2.length)*(by_+1)) 1099511627776=true:=Nat.ble_eq_true_of_le (Nat.le_trans (Nat.mul_le_mul_right _ (by omega)) hsz)
 obtain ⟨fp,q1,q2,q3⟩:=hd.sep S.sep
 have S':Hs h0 h rs':=S.del hd
 have front:Hs h0 h (.sl v e 1 eU l :: rs'):=S.front hd
 have fresh:∀ (c:List Value) (l3:List Nat),c=l3.flatMap eU→Hs h0 (h.add (.cells c e (some 1) false)) (.sl (.slice (some ⟨h.next,0,none⟩) l3.length l3.length) e 1 eU l3 :: rs'):=by
  intro c l3 hc
  have hcl:c.length=l3.length*1:=by rw [hc];exact zq hlen l3
  refine S'.grow (fp:=fun b=>b=h.next) ((Ext.refl S.wf).add _) (.inr ⟨h.next,0,c,some 1,rfl,by rw [AH.zi,if_pos rfl],rfl,?_,.inl (by omega),.inr rfl⟩) fun b hb=>by subst hb;exact ⟨Nat.le_refl _,Nat.lt_succ_self _⟩
  rw [← hcl,jm,hc]
 obtain ⟨n2,hn2⟩:∃ n2,l2.length=n2:=⟨_,rfl⟩
 rcases q1 with ⟨rfl,rfl⟩|⟨b,o,cc,slk,g1,g2,g3,g4,g5,g6⟩
 ·rw [hn2] at hsrc k1 k2
  cases n2 with
  | zero =>
   have hl2:l2=[]:=List.length_eq_zero_iff.1 hn2
   subst hl2
   refine ⟨_,_,?_,front⟩
   simp only [jF,hs,hx',hz,hb,hsrc,k1,hall,k2,Bool.and_self]
  | succ m =>
   refine ⟨.slice (some ⟨h.next,0,none⟩) (m+1) (m+1),h.add (.cells (l2.flatMap eU) e (some 1) false),?_,?_⟩
   ·simp only [jF,hs,hx',hz,hb,hsrc,k1,hall,k2,Bool.and_self];rfl
   ·have:=fresh _ l2 rfl
    rw [hn2] at this
    exact this
 ·subst g1
  rw [hn2] at hsrc k1 k2 k3
  have hoc:o+l.length*1≤cc.length:=by
   rcases g5 with g5|⟨g5,g7⟩
   ·omega
   ·rw [g5];simpa using g7
  cases n2 with
  | zero =>
   have hl2:l2=[]:=List.length_eq_zero_iff.1 hn2
   subst hl2
   refine ⟨_,_,?_,by rw [List.append_nil];exact front⟩
   have:Nat.ble (l.length+0) l.length=true:=Nat.ble_eq_true_of_le (Nat.le_refl _)
   simp only [jF,hs,hx',hz,hb,hsrc,k1,hall,k2,Bool.and_self,g2,this]
  | succ m =>
   have k4:Nat.ble (l.length+(m+1)) l.length=false:=by
    cases hq:Nat.ble (l.length+(m+1)) l.length with
    | false=>rfl
    | true=>have:=Nat.le_of_ble_eq_true hq;omega
   have hcat:l.flatMap eU ++ l2.flatMap eU=(l ++ l2).flatMap eU:=by rw [List.flatMap_append]
   have g4':zx cc o (l.length*([Value.int .u8 0]:List Value).length)=some (l.flatMap eU):=g4
   rcases g6 with rfl|rfl
   ·have hfr:=fresh _ (l ++ l2) hcat
    rw [List.length_append,hn2] at hfr
    refine ⟨_,_,?_,hfr⟩
    simp only [jF,hs,hx',hz,hb,hsrc,k1,hall,k2,Bool.and_self,g2,k4,g4',k3];rfl
   ·have hbl:b<h.next:=(q2 b g3).2.1
    refine ⟨.slice (some ⟨h.next,0,none⟩) (l.length+(m+1)) (l.length+(m+1)),(h.put b .dead).add (.cells (l.flatMap eU ++ l2.flatMap eU) e (some 1) false),?_,?_⟩
    ·have k6:(Nat.beq 1 ([Value.int .u8 0]:List Value).length && Nat.beq e e && Nat.ble (o+l.length*1) cc.length)=true:=by
      simp [Nat.ble_eq_true_of_le (show o+l.length≤cc.length by omega)]
     simp only [jF,hs,hx',hz,hb,hsrc,k1,hall,k2,Bool.and_self,g2,k4,g4',k3,k6];rfl
    ·have hln:(l ++ l2).length=l.length+(m+1):=by rw [List.length_append,hn2]
     have hcl:(l.flatMap eU ++ l2.flatMap eU).length=(l ++ l2).length*1:=by rw [hcat];exact zq hlen _
     refine front.turn .here (Nat.le_succ _) ((S.wf.put hbl _).add _) fun fq r1 r2=>?_
     have hb':fq b:=by
      rcases r1 with ⟨q,-⟩|⟨b',o2,cc2,sl2,q3,q4,q5,-⟩
      ·cases q
      ·cases q3;exact q5
     refine ⟨fun j hj hn=>?_,fun j=>j=h.next,.inr ⟨h.next,0,l.flatMap eU ++ l2.flatMap eU,some 1,by rw [hln],?_,rfl,?_,.inl (by omega),.inr rfl⟩,fun j hj=>by subst hj;exact ⟨Nat.lt_succ_self _,.inr (Nat.le_refl _)⟩⟩
     ·rw [AH.zi,if_neg (by simp only [AH.put];omega),AH.get_put,if_neg];intro q;subst q;exact hn hb'
     ·rw [AH.zi];exact if_pos rfl
     ·rw [← hcl,jm,hcat]
theorem apS {x y:Operand} {ts tx e:TypeId} {by_:Nat} {l:List Nat} {s:List UInt8} {f:Rs→List Rs} {dd:List Rs} {v:Value} {d:Tmp} (S:Hs h0 h rs) (ho:o.op = .call { callee:=.builtin .append,args:=#[x,y],argTypes:=#[ts,tx] }) (hx:kA L x=some v) [i:HasS rs v Nat e 1 eU l f dd]
 (w:∀ v' h',Hs h0 h' (.sl v' e 1 eU (l ++ s.map UInt8.toNat) :: dd)→KO P X sz ops os (L.put d v') h' R) (hg:qB ops L.tree o.guard=some true:=by exact rfl) (hy:kA L y=some (str s):=by exact rfl) (hs:qQ P ts=some e:=by exact rfl) (hz:qW P e=some [.int .u8 0]:=by exact rfl) (hb:Qm P e=some (by_+1):=by exact rfl) (hxs:P.underlying tx=some .string:=by exact rfl)
 (hsz:(l.length+s.length+1)*(by_+1)≤1099511627776:=by first|omega|(simp only [List.length_nil];omega)|grind) (hdst:o.dst=some d:=by exact rfl) (hds:Nat.blt d sz=true:=by exact rfl):KO P X sz ops (o :: os) L h R:=by
 obtain ⟨v',h',q1,q2⟩:=qcm S hs hz hb hxs i.dt hsz
 exact kY ho hg hx hy q1 (by simp only [qM,hdst,hds]) (w v' h' q2)
theorem usd {x:Operand} {ty e:TypeId} {l:List Nat} {f:Rs→List Rs} {dd:List Rs} {v:Value} {d:Tmp} (S:Hs h0 h rs) (hl:0<l.length) (ho:o.op = .call { callee:=.builtin .unsafeSliceData,args:=#[x],argTypes:=#[ty] }) (hx:kA L x=some v) [i:HasS rs v Nat e 1 eU l f dd]
 (w:∀ b o,v = .slice (some ⟨b,o,none⟩) l.length l.length→KO P X sz ops os (L.put d (.pointer (some ⟨b,o,none⟩))) h R) (hg:qB ops L.tree o.guard=some true:=by exact rfl) (hdst:o.dst=some d:=by exact rfl) (hds:Nat.blt d sz=true:=by exact rfl):KO P X sz ops (o :: os) L h R:=by
 obtain ⟨fp,q1,q2,q3⟩:=i.dt.sep S.sep
 rcases q1 with ⟨rfl,rfl⟩|⟨b,o',cc,slk,g1,g2,g3,g4,g5,g6⟩
 ·simp at hl
 refine qY (v:=.pointer (some ⟨b,o',none⟩)) (h':=h) hg ?_ (by simp only [qM,hdst,hds]) (w b o' g1)
 rw [ho]
 obtain ⟨m,hm⟩:∃ m,l.length=m+1:=⟨l.length - 1,by omega⟩
 subst g1
 have e1:Xe (.slice (some ⟨b,o',none⟩) l.length l.length)=some (.pointer (some ⟨b,o',none⟩)):=by rw [hm];rfl
 simp only [jI,jQ,qL hx,jS,e1,qU]
theorem uns {x y:Operand} {pt nt e:TypeId} {l:List Nat} {f:Rs→List Rs} {dd:List Rs} {b o':Nat} {d:Tmp} (S:Hs h0 h rs) (hl:0<l.length∧l.length≤4611686018427387904) (ho:o.op = .call { callee:=.builtin .unsafeString,args:=#[x,y],argTypes:=#[pt,nt] }) (hx:kA L x=some (.pointer (some ⟨b,o',none⟩))) [i:HasS rs (.slice (some ⟨b,o',none⟩) l.length l.length) Nat e 1 eU l f dd]
 (w:∀ h',Hs h0 h' dd→KO P X sz ops os (L.put d (str (l.map UInt8.ofNat))) h' R) (hy:kA L y=some (.int .i64 l.length):=by exact rfl) (hp:P.underlying pt=some (.pointer e):=by exact rfl) (he:P.underlying e=some (.int .u8):=by exact rfl) (hz:zH P e=some 1:=by exact rfl) (hg:qB ops L.tree o.guard=some true:=by exact rfl) (hdst:o.dst=some d:=by exact rfl) (hds:Nat.blt d sz=true:=by exact rfl):KO P X sz ops (o :: os) L h R:=by
 obtain ⟨fp,q1,q2,q3⟩:=i.dt.sep S.sep
 rcases q1 with ⟨q,-⟩|⟨b',o2,cc,slk,g1,g2,g3,g4,g5,g6⟩
 ·cases q
 cases g1
 have hbl:b<h.next:=(q2 b g3).2.1
 obtain ⟨m,hm⟩:∃ m,l.length=m+1:=⟨l.length - 1,by omega⟩
 have front:Hs h0 h (.sl (.slice (some ⟨b,o',none⟩) l.length l.length) e 1 eU l :: dd):=S.front i.dt
 have S2:Hs h0 (h.put b (.cells cc e slk true)) (.any (fun _ _=>True) :: dd):=by
  refine front.turn .here (Nat.le_refl _) (S.wf.put hbl _) fun fq r1 r2=>?_
  have hb':fq b:=by
   rcases r1 with ⟨q,-⟩|⟨b',o2,cc2,sl2,q3,q4,q5,-⟩
   ·cases q
   ·cases q3;exact q5
  exact ⟨fun j hj hn=>by rw [AH.get_put,if_neg];intro q;subst q;exact hn hb',fun _=>False,fun _ _=>trivial,fun _ q=>q.elim⟩
 refine qY (v:=str (l.map UInt8.ofNat)) (h':=h.put b (.cells cc e slk true)) hg ?_ (by simp only [qM,hdst,hds]) (w _ S2.tail)
 rw [ho]
 rw [Nat.mul_one] at g4
 have k1:Nat.ble l.length 4611686018427387904=true:=Nat.ble_eq_true_of_le hl.2
 have k2:Nat.beq e e=true:=by simp
 have e1:Qq P [pt,nt] (.pointer (some ⟨b,o',none⟩)) (.int .i64 l.length) h=some (str (l.map UInt8.ofNat),h.put b (.cells cc e slk true)):=by
  have hcast:((l.length:Nat):Int)=Int.ofNat l.length:=rfl
  rw [hcast]
  simp only [Qq,hp,g2,he,hz,k1,k2,Bool.and_self,g4,YP]
  rw [hm]
  rfl
 have e2:jX L.tree y=some (.int .i64 l.length):=qL hy
 simp only [jI,jQ,qL hx,e2,jS,e1,Zf]
end
end Go.Proofs.Xx
namespace Go.Proofs.Xx
open Go
set_option linter.unusedSimpArgs false
set_option linter.unusedVariables false
abbrev lpR (l:Nat) (o:Qn):Rs:=.any (fun h fp=>h.get l=some o∧fp l)
def yv (l:Nat):Value:=.func (.yield l) #[] #[]
section
variable {h h0:AH} {rs:List Rs} {l:Nat} {o:Qn}
theorem Hs.bY (S:Hs h0 h rs) {b:Nat} {o:Qn} (hb:h0.get b=some o) (w:WfH h0):b<h.next :=
 Nat.lt_of_lt_of_le (Nat.lt_of_not_le fun q=>by have:=w b q;rw [hb] at this;cases this) S.ext.next
theorem Hs.qbT (S:Hs h0 h (lpR l o :: rs)):h.get l=some o:=by
 obtain ⟨fp,k,-⟩:=S.sep
 exact (k h fun _ _=>rfl).1
theorem Hs.qhb (S:Hs h0 h rs) (o:Qn):Hs h0 (h.add o) (lpR h.next o :: rs) :=
 S.grow (fp:=fun b=>b=h.next) ((Ext.refl S.wf).add _) (fun h' q=>⟨(q _ rfl).trans (by rw [AH.zi,if_pos rfl]),rfl⟩) fun b hb=>by subst hb;exact ⟨Nat.le_refl _,Nat.lt_succ_self _⟩
theorem Hs.qdX (S:Hs h0 h (lpR l o :: rs)) (o':Qn):Hs h0 (h.put l o') (lpR l o' :: rs):=by
 have hl:l<h.next:=by
  obtain ⟨fp,k,k2,-⟩:=S.sep
  exact (k2 l (k h fun _ _=>rfl).2).2.1
 refine S.turn .here (Nat.le_refl _) (S.wf.put hl _) fun fp r1 r2=>?_
 have hf:=(r1 h fun _ _=>rfl).2
 exact ⟨fun j hj hn=>by rw [AH.get_put,if_neg];intro q;subst q;exact hn hf,fun b=>b=l,fun h' q=>⟨(q _ rfl).trans (by rw [AH.get_put,if_pos rfl]),rfl⟩,fun b hb=>by subst hb;exact ⟨hl,.inl hf⟩⟩
end
section
variable {P:Program} {X:Extern} {inR:Bool} {sz:Nat} {L:Ks} {h h0:AH} {rs:List Rs} {ops:Array Oper} {os:List Oper} {o:Oper} {R:Ks→AH→Prop} {Q:KQ}
def Yd (P:Program) (X:Extern) (l:Nat) (args:List Value) (h:AH) (Q:Value→AH→Prop):Prop:=∃ n v h',QZ (exec P X n) l args h=some (v,h')∧Q v h'
theorem Yd.mono {l:Nat} {args:List Value} {Q Q':Value→AH→Prop} (w:Yd P X l args h Q) (hq:∀ v h',Q v h'→Q' v h'):Yd P X l args h Q':=by
 obtain ⟨n,v,h',h1,h2⟩:=w
 exact ⟨n,v,h',h1,hq _ _ h2⟩
theorem qex {t:Tr Value} {R:Tr Value→AH→Prop} {l:Nat} {args:List Value} {d:Tmp} (hg:qB ops t o.guard=some true) (ha:jI P t h o.op=some (.yield l args)) (hd:o.dst=some d) (hs:Nat.blt d sz=true)
 (w:Yd P X l args h (fun v h'=>WO P X sz ops os (t.set d v) h' R)):WO P X sz ops (o :: os) t h R:=by
 obtain ⟨n,v,h1,hc,n2,t2,h2,h3,h4⟩:=w
 refine ⟨max n n2,t2,h2,?_,h4⟩
 simp only [Xp,hg,x9,ha,hd,JV,hs,We (Qu (Nat.le_max_left n n2)) hc]
 exact ZU (Qu (Nat.le_max_right n n2)) _ _ _ _ h3
theorem qeE {l:Nat} {args:List Value} {d:Tmp} (hg:qB ops L.tree o.guard=some true) (ha:jI P L.tree h o.op=some (.yield l args)) (hd:o.dst=some d) (hs:Nat.blt d sz=true)
 (w:Yd P X l args h (fun v h'=>KO P X sz ops os (L.put d v) h' R)):KO P X sz ops (o :: os) L h R:=fun t hk =>
 qex (Qk hk.tle hg) (yY hk.tle ha) hd hs (w.mono fun v h' q=>q _ (hk.put d v))
theorem qh1 {l sz:Nat} {t:Tr Value} {p:Tmp} {a b:Code} {v:Value} {R:Value→AH→Prop} (hk:Kn t L) (S:Hs h0 h (lpR l (.loop .ready none sz t [p] a b) :: rs)) (hp:Nat.blt p sz=true)
 (w:K P X true sz a (L.put p v) h (fun x L1 h1=>x = .norm∧∃ rs1,Hs h0 h1 (lpR l (.loop .ready none sz t [p] a b) :: rs1)∧∀ h2,Hs h0 h2 (lpR l (.loop .busy none sz t [p] a b) :: rs1) →
  K P X true sz b L1 h2 (fun x2 _ h3=>x2 = .norm∧∃ rs3,Hs h0 h3 (lpR l (.loop .busy none sz t [p] a b) :: rs3)∧∀ h4,Hs h0 h4 (lpR l (.loop .ready none sz t [p] a b) :: rs3)→R (.bool true) h4))):Yd P X l [v] h R:=by
 obtain ⟨n,x,t1,h1,e1,L1,k1,rfl,rs1,S1,w1⟩:=w (t.set p v) (hk.put p v)
 obtain ⟨m,x2,t2,h3,e2,L2,k2,rfl,rs3,S3,w3⟩:=w1 _ (S1.qdX _) t1 k1
 refine ⟨max n m,.bool true,_,?_,w3 _ (S3.qdX _)⟩
 unfold QZ
 have hall:([p]:List Tmp).all (fun p=>Nat.blt p sz)=true:=by simp only [List.all_cons,hp,List.all_nil,Bool.and_self]
 simp only [S.qbT,hall,XY,Qu (Nat.le_max_left n m) _ _ _ _ _ _ e1,S1.qbT,Qu (Nat.le_max_right n m) _ _ _ _ _ _ e2,S3.qbT]
theorem qfE {f:Operand} {g:FuncId} {first captured:Array Value} {ps:Array Tmp} {a b:Code} (S:Hs h0 h rs) (hf:kA L f=some (.func (.func g) first captured))
 (w:∀ l t h1,Kn t L→Hs h0 h1 (lpR l (.loop .ready none sz t ps.toList a b) :: rs)→Fn P X g (first.toList ++ (yv l :: captured.toList)) h1 (fun _ h2=>∃ rs2,Hs h0 h2 (lpR l (.loop .ready none sz t ps.toList a b) :: rs2)∧∀ h3,Hs h0 h3 rs2→Q .norm L h3)):K P X false sz (.rangeFunc f ps a b) L h Q:=fun t hk=>by
 obtain ⟨n,v,h2,e,rs2,S2,q⟩:=w h.next t _ hk (S.qhb _)
 refine ⟨n+1,.norm,t,_,?_,L,hk,q _ (S2.qdX (.loop .exhausted none sz t ps.toList a b)).tail⟩
 rw [Qh]
 have e0:jX t f=some (.func (.func g) first captured):=qd6 hk hf
 have e':jH P X (exec P X n) g (first.toList ++ (.func (.yield h.next) #[] #[] :: captured.toList)) (h.add (.loop .ready none sz t ps.toList a b))=some (v,h2):=e
 simp only [zC,e0,e',S2.qbT]
end
end Go.Proofs.Xx
namespace Go.Proofs.Xx
open Go
set_option linter.unusedSimpArgs false
set_option linter.unusedVariables false
section
variable {P:Program} {X:Extern} {sz:Nat} {L:Ks} {h h0:AH} {rs:List Rs} {ops:Array Oper} {os:List Oper} {o:Oper} {R:Ks→AH→Prop}
theorem sBk {L':Ks} {x y:Operand} {ty e:TypeId} {b k:Nat} {c c':List Value} {v:Value} {f:Rs→List Rs} (S:Hs h0 h rs) (ho:o.op = .store ty x y) (hx:kA L x=some (.pointer (some ⟨b,k,none⟩))) [i:HasB rs b c e f] (w:∀ h',Hs h0 h' (f (.blk b c' e))→(∀ j,j≠b→h'.get j=h.get j)→KO P X sz ops os L' h' R)
 (hg:qB ops L.tree o.guard=some true:=by exact rfl) (hy:kA L y=some v:=by exact rfl) (hv:QI P ty c k v=some c':=by exact rfl) (hp:qM sz L o.dst (.tuple #[])=some L':=by exact rfl):KO P X sz ops (o :: os) L h R :=
 Vw ho hg hx hy (Zi S.gB hv) hp (w _ (S.put (i.ut _)) fun j hj=>by rw [AH.get_put,if_neg hj])
end
class HasV (rs:List Rs) (v:Value):Prop where
 fp:∀ {lo:Nat} {h:AH} {U:Fp},Sep lo h rs U→v≠.slice none 0 0→U (Qi v)
instance HasV.there {rs:List Rs} {v:Value} {s:Rs} [k:HasV rs v]:HasV (s :: rs) v:=⟨fun S hv=>by
 obtain ⟨f,-,-,h3⟩:=S
 exact (k.fp h3 hv).1⟩
instance HasV.sl {rs:List Rs} {v:Value} {α:Type} {e:TypeId} {z:Nat} {enc:α→List Value} {l:List α}:HasV (.sl v e z enc l :: rs) v:=⟨fun S hv=>by
 obtain ⟨f,h1,h2,-⟩:=S
 rcases h1 with ⟨q,-⟩|⟨b,o,cc,slk,rfl,-,q,-⟩
 ·exact absurd q hv
 ·exact (h2 b q).2.2⟩
instance HasV.rd {rs:List Rs} {v:Value} {α:Type} {z:Nat} {enc:α→List Value} {l:List α}:HasV (.rd v z enc l :: rs) v:=⟨fun S hv=>by
 obtain ⟨f,h1,h2,-⟩:=S
 rcases h1 with ⟨q,-⟩|⟨b,o,cap,cc,e,s,r,rfl,-,q,-⟩
 ·exact absurd q hv
 ·exact (h2 b q).2.2⟩
class HasK (rs:List Rs) (b:Nat):Prop where
 fp:∀ {lo:Nat} {h:AH} {U:Fp},Sep lo h rs U→U b
instance HasK.there {rs:List Rs} {b:Nat} {s:Rs} [k:HasK rs b]:HasK (s :: rs) b:=⟨fun S=>by
 obtain ⟨f,-,-,h3⟩:=S
 exact (k.fp h3).1⟩
instance HasK.here {rs:List Rs} {b:Nat} {c:List Value} {e:TypeId}:HasK (.blk b c e :: rs) b:=⟨fun S=>by
 obtain ⟨f,h1,h2,-⟩:=S
 exact (h2 b h1.2).2.2⟩
class NeB (rs:List Rs) (b:Nat) (v:Value):Prop where
 ne:∀ {lo:Nat} {h:AH} {U:Fp},Sep lo h rs U→v≠.slice none 0 0→Qi v≠b
instance NeB.there {rs:List Rs} {b:Nat} {v:Value} {s:Rs} [k:NeB rs b v]:NeB (s :: rs) b v:=⟨fun S hv=>by
 obtain ⟨f,-,-,h3⟩:=S
 exact k.ne h3 hv⟩
instance NeB.blk {rs:List Rs} {b:Nat} {v:Value} {c:List Value} {e:TypeId} [k:HasV rs v]:NeB (.blk b c e :: rs) b v:=⟨fun S hv q=>by
 obtain ⟨f,h1,h2,h3⟩:=S
 have:=(k.fp h3 hv).2
 rw [q] at this
 exact this h1.2⟩
instance NeB.sl {rs:List Rs} {b:Nat} {v:Value} {α:Type} {e:TypeId} {z:Nat} {enc:α→List Value} {l:List α} [k:HasK rs b]:NeB (.sl v e z enc l :: rs) b v:=⟨fun S hv q=>by
 obtain ⟨f,h1,h2,h3⟩:=S
 rcases h1 with ⟨q',-⟩|⟨b',o,cc,slk,rfl,-,q',-⟩
 ·exact absurd q' hv
 ·have:=(k.fp h3).2
  exact this (by rw [← q];exact q')⟩
theorem Hs.neB {h0 h:AH} {rs:List Rs} {b:Nat} {v:Value} (S:Hs h0 h rs) [k:NeB rs b v] (hv:v≠.slice none 0 0):Qi v≠b:=k.ne S.sep hv
theorem Hs.qgQ {h0 h:AH} {rs:List Rs} {v:Value} {α:Type} {e:TypeId} {z:Nat} {enc:α→List Value} {l:List α} (S:Hs h0 h rs) (a:At rs (.sl v e z enc l)) (hl:0<l.length):v≠.slice none 0 0:=by
 obtain ⟨fp,k,-⟩:=a.ok S.sep
 rcases k with ⟨-,rfl⟩|⟨b,o,cc,slk,rfl,-⟩
 ·simp at hl
 ·intro q;cases q
section
variable {P:Program} {X:Extern} {sz:Nat} {L:Ks} {h h0:AH} {rs:List Rs} {ops:Array Oper} {os:List Oper} {o:Oper} {R:Ks→AH→Prop}
theorem drB {α:Type} {x lo:Operand} {ty e:TypeId} {v:Value} {z:Nat} {enc:α→List Value} {l:List α} {f:Rs→List Rs} {dd:List Rs} {ik:IntKind} {a:Int} {d:Tmp} (S:Hs h0 h rs) (ho:o.op = .slice ty x (some lo) none none) (hx:kA L x=some v) [i:HasS rs v α e z enc l f dd]
 (w:∀ v',Hs h0 h (f (.sl v' e z enc (l.drop a.toNat)))→(Qi v'=Qi v∧(v≠.slice none 0 0→v'≠.slice none 0 0))→KO P X sz ops os (L.put d v') h R) (hg:qB ops L.tree o.guard=some true:=by exact rfl) (hlo:kA L lo=some (.int ik a):=by exact rfl) (hz:∀ x,(enc x).length=z:=by intro _;rfl) (hu:QQ P ty=some z:=by exact rfl) (ha:0≤a∧a≤l.length:=by first|omega|grind)
 (hdst:o.dst=some d:=by exact rfl) (hds:Nat.blt d sz=true:=by exact rfl):KO P X sz ops (o :: os) L h R:=by
 obtain ⟨k,rfl⟩:=Int.eq_ofNat_of_zero_le ha.1
 have hk:k≤l.length:=by omega
 obtain ⟨fp,k1,k2,-⟩:=(i.ut (.sl v e z enc l)).ok (h':=h) S.ext.next (Nat.le_refl _) S.sep
 have hue:∃ e',P.underlying ty=some (.slice e')∧zH P e'=some z:=by
  unfold QQ at hu
  split at hu
  ·exact ⟨_,by assumption,hu⟩
  ·cases hu
 obtain ⟨e',hu1,hu2⟩:=hue
 have hlo':jX L.tree lo=some (.int ik (Int.ofNat k)):=qL hlo
 have go:∀ v',zM P ty v (some (.int ik (Int.ofNat k))) none none h=some v'→Hs h0 h (f (.sl v' e z enc (l.drop k)))→(Qi v'=Qi v∧(v≠.slice none 0 0→v'≠.slice none 0 0))→KO P X sz ops (o :: os) L h R:=fun v' q1 q2 q3=>by
  refine qY (v:=v') (h':=h) hg ?_ (by simp only [qM,hdst,hds]) (w v' (by simpa using q2) q3)
  rw [ho]
  simp only [jI,qL hx,jr,hlo',q1,qU]
 rcases k1 with ⟨rfl,rfl⟩|⟨b,o',cc,slk,g1,g2,g3,g4,g5,g6⟩
 ·obtain rfl:k=0:=by simpa using hk
  refine go (.slice none 0 0) ?_ (S.same (i.ut _) fun fq q=>by simpa using q) ⟨rfl,id⟩
  simp only [zM,hu1,zA,hu2]
 ·subst g1
  have hle:Nat.ble k l.length=true:=Nat.ble_eq_true_of_le hk
  have hnn:Nat.ble l.length l.length=true:=Nat.ble_eq_true_of_le (Nat.le_refl _)
  have hoc:o'+l.length*z≤cc.length:=by
   rcases g5 with g5|⟨g5,g7⟩
   ·omega
   ·rw [g5];simpa using g7
  have hkz:k*z≤l.length*z:=Nat.mul_le_mul_right z hk
  cases hq:slk.isNone && Nat.beq k l.length with
  | true =>
   rw [Bool.and_eq_true] at hq
   have hkl:=Nat.eq_of_beq_eq_true hq.2
   refine go (.slice (some ⟨b,o',none⟩) (l.length - k) (l.length - k)) ?_ (S.same (i.ut _) fun fq q=>?_) ⟨rfl,fun _ q=>by cases q⟩
   ·simp only [zM,hu1,g2,hu2,zA,hle,hnn,Bool.and_self,hq.1,hq.2]
   ·rcases q with ⟨q1,-⟩|⟨b',o2,cc2,sl2,q1,q2,q3,-⟩
    ·cases q1
    ·cases q1
     have:l.drop k=[]:=by rw [hkl,List.drop_length]
     exact .inr ⟨b,o',cc,slk,by rw [List.length_drop],g2,q3,by rw [this];simp [zx],.inr ⟨this,by omega⟩,g6⟩
  | false =>
   refine go (.slice (some ⟨b,o'+k*z,none⟩) (l.length - k) (l.length - k)) ?_ (S.same (i.ut _) fun fq q=>?_) ⟨rfl,fun _ q=>by cases q⟩
   ·simp only [zM,hu1,g2,hu2,zA,hle,hnn,Bool.and_self,hq]
   ·rcases q with ⟨q1,-⟩|⟨b',o2,cc2,sl2,q1,q2,q3,-⟩
    ·cases q1
    ·cases q1
     have hsub:k*z+(l.length - k)*z=l.length*z:=by rw [← Nat.add_mul];congr 1;omega
     refine .inr ⟨b,o'+k*z,cc,slk,by rw [List.length_drop],g2,q3,?_,?_,g6⟩
     ·rw [List.length_drop,QO hz,Qe g4 (by omega),List.take_of_length_le]
      rw [List.length_drop,zq hz];omega
     ·rcases g5 with g5|⟨g5,g7⟩
      ·left;rw [List.length_drop];omega
      ·right;subst g5;simp at hk ⊢;subst hk;omega
end
theorem qc9 (p:Option Addr) (n c:Nat):JM (.slice p n c)=Qi (.slice p n c):=by cases p<;>rfl
end Go.Proofs.Xx
