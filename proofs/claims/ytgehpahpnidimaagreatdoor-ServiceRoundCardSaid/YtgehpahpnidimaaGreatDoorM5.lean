/-
  make,append,slices of slices,strings: rules over resources.
-/
import Derived.Test.YtgehpahpnidimaaGreatDoorM4
set_option linter.unusedSectionVars false
set_option linter.unusedSimpArgs false
set_option linter.unusedVariables false
namespace Go.Proofs.Xx
open Go
theorem JM {α:Type} {enc:α→List Value} {y:α} {zc:List Value} (h:zc=enc y):∀ n,zeroRow zc n=(List.replicate n y).flatMap enc
 | 0=>rfl
 | n+1=>by rw [zeroRow,JM h n,List.replicate_succ,zG2,h]
section
variable {P:Program} {X:Extern} {inR:Bool} {sz:Nat} {L:Ks} {h h0:AH} {rs:List Rs} {ops:Array Oper} {os:List Oper} {o:Oper} {R:Ks→AH→Prop} {Q:KQ}
theorem Hs.nil {α:Type} (S:Hs h0 h rs) (e:TypeId) (z:Nat) (enc:α→List Value):Hs h0 h (.sl (.slice none 0 0) e z enc [] :: rs) :=
 ⟨S.ext,fun _=>False,.inl ⟨rfl,rfl⟩,fun b hb=>hb.elim,S.sep.mono fun b _=>⟨trivial,id⟩⟩
theorem Y5 {α:Type} {x y:Operand} {ty e:TypeId} {a:Int} {zc:List Value} {by_ z:Nat} {enc:α→List Value} {y0:α} {d:Tmp} (S:Hs h0 h rs) (ho:o.op = .makeSlice ty x y) (hg:qo ops L.tree o.guard=some true) (hx:kA L x=some (.int .i64 a)) (hy:kA L y=some (.int .i64 a))
 (hs:qK P ty=some e) (hz:qN P e=some zc) (hb:jK P e=some by_) (hzl:zc.length=z) (hc:zc=enc y0) (hlen:∀ x,(enc x).length=z) (ha:0≤a∧a.toNat*(by_+1)≤140737488355328) (hd:o.dst=some d) (hsz:Nat.blt d sz=true)
 (w:∀ v h',Hs h0 h' (.sl v e z enc (List.replicate a.toNat y0) :: rs)→KO P X sz ops os (L.put d v) h' R):KO P X sz ops (o :: os) L h R:=by
 subst hzl;obtain ⟨k,rfl⟩:=zH4 ha.1;have hk:k*(by_+1)≤140737488355328:=ha.2;obtain ⟨v,h',h1,h2,h3⟩:=qcc S.wf hs hz hb hk;refine qed ho hg hx hy h1 (by simp only [qE,hd,hsz]) (w v h' ?_);refine S.grow (fp:=fun b=>b=h.next) h3 (.inr ⟨h.next,0,_,none,k,?_,h2.obj,rfl,?_,⟨?_,?_⟩,.inl rfl⟩) fun b hb=>by subst hb;exact ⟨zA3 _,h3.wf.lt h2.obj⟩
 ·rw [h2.val];simp
 ·rw [← JM hc,zA0];simp only [List.length_replicate];rw [← h2.len];exact zT _
 ·simp
 ·rw [zG1];exact Nat.le_of_eq h2.len.symm
theorem qaA {α:Type} {rs':List Rs} {ts tx e:TypeId} {zc:List Value} {by_:Nat} {enc:α→List Value} {l l2:List α} {v x:Value} (S:Hs h0 h rs) (hs:qK P ts=some e) (hz:qN P e=some zc) (hb:jK P e=some (by_+1)) (hx:(qK P tx).isSome=true)
 (hd:Dt rs (.sl v e zc.length enc l) rs') (hr:zo h x zc.length enc l2) (h1:∀ y∈l2,(enc y).all one? = true) (hlen:∀ y,(enc y).length=zc.length) (hsz:(l.length+l2.length+1)*(by_+1)≤140737488355328) :
 ∃ v' h',zC P [ts,tx] v x h=some (v',h')∧Hs h0 h' (.sl v' e zc.length enc (l ++ l2) :: rs'):=by
 have hx':∃ e',P.underlying tx=some (.slice e'):=by
  obtain ⟨e',he⟩:=Option.isSome_iff_exists.1 hx;unfold qK at he;split at he
  ·cases he;exact ⟨_,by assumption⟩
  ·cases he
 obtain ⟨e',hx'⟩:=hx';have hall:(l2.flatMap enc).all one? = true:=by
  rw [zC8];intro u hu;rw [zH0] at hu;obtain ⟨y,hy,hu⟩:=hu;exact zC8.1 (h1 y hy) u hu
 have hnl:(l2.flatMap enc).length=l2.length*zc.length:=qO hlen l2;have k1:Nat.ble ((l2.length+1)*(by_+1)) 140737488355328=true:=zB3 (zD0 (zD3 _ (by omega)) hsz);have k2:Nat.beq (l2.flatMap enc).length (l2.length*zc.length)=true:=by rw [hnl];simp
 have k3:Nat.ble ((l.length+l2.length)*(by_+1)) 140737488355328=true:=zB3 (zD0 (zD3 _ (by omega)) hsz);obtain ⟨fp,q1,q2,q3⟩:=hd.sep S.sep;have S':Hs h0 h rs':=S.del hd;have front:Hs h0 h (.sl v e zc.length enc l :: rs'):=S.front hd;have hsrc:=hr.source;have fresh:∀ (c:List Value) (l3:List α),c=l3.flatMap enc→Hs h0 (h.add (.cells c e (some zc.length) false)) (.sl (.slice (some ⟨h.next,0,none⟩) l3.length l3.length) e zc.length enc l3 :: rs'):=by
  intro c l3 hc;have hcl:c.length=l3.length*zc.length:=by rw [hc];exact qO hlen l3
  refine S'.grow (fp:=fun b=>b=h.next) ((Ext.refl S.wf).add _) (.inr ⟨h.next,0,c,some zc.length,l3.length,rfl,by rw [AH.get_add,if_pos rfl],rfl,?_,⟨zA3 _,by omega⟩,.inr rfl⟩) fun b hb=>by subst hb;exact ⟨zA3 _,zG0 _⟩
  rw [← hcl,zT,hc]
 obtain ⟨n2,hn2⟩:∃ n2,l2.length=n2:=⟨_,rfl⟩
 rcases q1 with ⟨rfl,rfl⟩|⟨b,o,cc,slk,cap,g1,g2,g3,g4,g5,g6⟩
 ·rw [hn2] at hsrc k1 k2;cases n2 with
  | zero =>
   have hl2:l2=[]:=zE9.1 hn2;subst hl2;refine ⟨_,_,?_,front⟩;simp only [zC,hs,hx',hz,hb,hsrc,k1,hall,k2,zF9]
  | succ m =>
   refine ⟨.slice (some ⟨h.next,0,none⟩) (m+1) (m+1),h.add (.cells (l2.flatMap enc) e (some zc.length) false),?_,?_⟩
   ·simp only [zC,hs,hx',hz,hb,hsrc,k1,hall,k2,zF9]
   ·have:=fresh _ l2 rfl;rw [hn2] at this;exact this
 ·subst g1;rw [hn2] at hsrc k1 k2 k3;have hcz:=zD3 zc.length g5.1;have hoc:o+l.length*zc.length≤cc.length:=by have:=g5.2;omega
  cases n2 with
  | zero =>
   have hl2:l2=[]:=zE9.1 hn2;subst hl2;refine ⟨_,_,?_,by rw [zD7];exact front⟩;have:Nat.ble (l.length+0) cap=true:=zB3 g5.1;simp only [zC,hs,hx',hz,hb,hsrc,k1,hall,k2,zF9,g2,this]
  | succ m =>
   have hcat:l.flatMap enc ++ l2.flatMap enc=(l ++ l2).flatMap enc:=by rw [List.flatMap_append]
   have hln:(l ++ l2).length=l.length+(m+1):=by rw [zB2,hn2]
   have hbl:b<h.next:=(q2 b g3).2.1
   by_cases hfit:l.length+(m+1)≤cap
   ·
    have k4:Nat.ble (l.length+(m+1)) cap=true:=zB3 hfit;have hm1:(l.length+(m+1))*zc.length≤cap*zc.length:=zD3 _ hfit;rw [zE1] at hm1;have hnl':(l2.flatMap enc).length=(m+1)*zc.length:=by rw [hnl,hn2]
    have hfl:o+l.length*zc.length+(l2.flatMap enc).length≤cc.length:=by have:=g5.2;omega
    have hput:putCells h b (o+l.length*zc.length) cc e slk (l2.flatMap enc)=some (h.put b (.cells (splice cc (o+l.length*zc.length) (l2.flatMap enc)) e slk false)):=by
     unfold putCells;rw [hall,zB3 hfl];rfl
    refine ⟨.slice (some ⟨b,o,none⟩) (l.length+(m+1)) cap,h.put b (.cells (splice cc (o+l.length*zc.length) (l2.flatMap enc)) e slk false),?_,?_⟩
    ·simp only [zC,hs,hx',hz,hb,hsrc,k1,hall,k2,zF9,g2,k4,hput]
    ·refine front.turn .here (zA3 _) (S.wf.put hbl _) fun fq r1 r2=>?_;have hb':fq b:=by
      rcases r1 with ⟨q,-⟩|⟨b',o2,cc2,sl2,cap2,q3,q4,q5,-⟩
      ·cases q
      ·cases q3;exact q5
     refine ⟨fun j hj hn=>?_,fun j=>j=b,.inr ⟨b,o,_,slk,cap,by rw [hln],by rw [AH.get_put,if_pos rfl],rfl,?_,⟨by omega,by rw [QZ hfl];exact g5.2⟩,g6⟩,fun j hj=>by subst hj;exact ⟨hbl,.inl hb'⟩⟩
     ·rw [AH.get_put,if_neg];intro q;subst q;exact hn hb'
     ·rw [hln,← hcat];have hfe:l.flatMap enc=(cc.drop o).take (l.length*zc.length):=by
       rcases QA g4 with q|⟨q1,q2⟩
       ·exact q.1
       ·rw [q2,q1];simp
      rw [Q8 (by rw [QZ hfl,zE1];omega)];congr 1
      apply List.ext_getElem?
      intro j;have hll:(l.flatMap enc).length=l.length*zc.length:=qO hlen l;rw [zC7,zF0,hll];by_cases hj:j<l.length*zc.length
      ·rw [if_pos (by rw [zE1];omega),if_pos hj,zC3,Jf hfl,if_pos (by omega),hfe,zC7,if_pos hj,zC3]
      ·rw [if_neg hj];by_cases hj2:j<(l.length+(m+1))*zc.length
       ·rw [if_pos hj2,zC3,Jf hfl,if_neg (by omega),if_pos (by rw [zE1] at hj2;omega)];congr 1;omega
       ·rw [if_neg hj2,zG5];rw [zE1] at hj2;omega
   have k4:Nat.ble (l.length+(m+1)) cap=false:=by
    cases hq:Nat.ble (l.length+(m+1)) cap with
    | false=>rfl
    | true=>have:=zB6 hq;omega
   rcases g6 with rfl|rfl
   ·have hfr:=fresh _ (l ++ l2) hcat;rw [zB2,hn2] at hfr;refine ⟨_,_,?_,hfr⟩;simp only [zC,hs,hx',hz,hb,hsrc,k1,hall,k2,zF9,g2,k4,g4,k3]
   ·refine ⟨.slice (some ⟨h.next,0,none⟩) (l.length+(m+1)) (l.length+(m+1)),(h.put b .dead).add (.cells (l.flatMap enc ++ l2.flatMap enc) e (some zc.length) false),?_,?_⟩
    ·have k6:(Nat.beq zc.length zc.length && Nat.beq e e && Nat.ble (o+cap*zc.length) cc.length)=true:=by
      simp [zB3 g5.2]
     simp only [zC,hs,hx',hz,hb,hsrc,k1,hall,k2,zF9,g2,k4,g4,k3,k6]
    ·have hcl:(l.flatMap enc ++ l2.flatMap enc).length=(l ++ l2).length*zc.length:=by rw [hcat];exact qO hlen _
     refine front.turn .here (Nat.le_succ _) ((S.wf.put hbl _).add _) fun fq r1 r2=>?_;have hb':fq b:=by
      rcases r1 with ⟨q,-⟩|⟨b',o2,cc2,sl2,cap2,q3,q4,q5,-⟩
      ·cases q
      ·cases q3;exact q5
     refine ⟨fun j hj hn=>?_,fun j=>j=h.next,.inr ⟨h.next,0,l.flatMap enc ++ l2.flatMap enc,some zc.length,_,by rw [hln],?_,rfl,?_,⟨by omega,by rw [hcl,hln];omega⟩,.inr rfl⟩,fun j hj=>by subst hj;exact ⟨zG0 _,.inr (zA3 _)⟩⟩
     ·rw [AH.get_add,if_neg (by simp only [AH.put];omega),AH.get_put,if_neg];intro q;subst q;exact hn hb'
     ·rw [AH.get_add];exact if_pos rfl
     ·rw [← hcl,zT,hcat]
theorem KG {α:Type} {rs':List Rs} {x y:Operand} {ts tx e:TypeId} {zc:List Value} {by_ z:Nat} {enc:α→List Value} {l l2:List α} {v u:Value} {d:Tmp} (S:Hs h0 h rs) (ho:o.op = .call { callee:=.builtin .append,args:=#[x,y],argTypes:=#[ts,tx] }) (hg:qo ops L.tree o.guard=some true) (hx:kA L x=some v) (hy:kA L y=some u)
 (hd:Dt rs (.sl v e z enc l) rs') (hr:zo h u z enc l2) (hs:qK P ts=some e) (hz:qN P e=some zc) (hzl:zc.length=z) (hb:jK P e=some (by_+1)) (hxs:(qK P tx).isSome=true) (h1:∀ y∈l2,(enc y).all one? = true) (hlen:∀ y,(enc y).length=z)
 (hsz:(l.length+l2.length+1)*(by_+1)≤140737488355328) (hdst:o.dst=some d) (hds:Nat.blt d sz=true) (w:∀ v' h',Hs h0 h' (.sl v' e z enc (l ++ l2) :: rs')→KO P X sz ops os (L.put d v') h' R):KO P X sz ops (o :: os) L h R:=by
 subst hzl;obtain ⟨v',h',q1,q2⟩:=qaA S hs hz hb hxs hd hr h1 hlen hsz;exact vH ho hg hx hy q1 (by simp only [qE,hdst,hds]) (w v' h' q2)
theorem qfN {x:Operand} {ty e:TypeId} {zc:List Value} {z:Nat} {v:Value} {c:List Value} {d:Tmp} (S:Hs h0 h rs) (ho:o.op = .buildSlice ty 1 #[(0,x)]) (hg:qo ops L.tree o.guard=some true) (hx:kA L x=some v) (hs:qK P ty=some e) (hz:qN P e=some zc) (hzl:zc.length=z) (hv:v.cells.toList=c) (hc:c.length=z)
 (hsm:z≤1000) (hdst:o.dst=some d) (hds:Nat.blt d sz=true) (w:∀ u h',Hs h0 h' (.sl u e z Yz [c] :: rs)→KO P X sz ops os (L.put d u) h' R):KO P X sz ops (o :: os) L h R:=by
 subst hv;subst hzl;refine Vu ho hg (show J5 L (#[(0,x)]:Array (Nat×Operand)).toList=some [(0,v)] by simp [J5,hx]) (qe1 hs hz hc hsm h) (by simp only [qE,hdst,hds]) (w (.slice (some ⟨h.next,0,none⟩) 1 1) (h.add (.cells v.cells.toList e none false)) ?_);refine S.grow (fp:=fun b=>b=h.next) ((Ext.refl S.wf).add _) (.inr ⟨h.next,0,v.cells.toList,none,1,rfl,by rw [AH.get_add,if_pos rfl],rfl,?_,⟨zA3 _,by simp [hc]⟩,.inl rfl⟩) fun b hb=>by subst hb;exact ⟨zA3 _,zG0 _⟩
 simp only [zC4,List.length_nil,zG1,Nat.one_mul,zG2,List.flatMap_nil,zD7,Yz];rw [← hc];exact zT _
theorem qeH {α:Type} {rs':List Rs} {x y:Operand} {ts tx e e2:TypeId} {zc c:List Value} {by_ z:Nat} {enc:α→List Value} {l:List α} {y0:α} {v u:Value} {d:Tmp} (S:Hs h0 h (.sl u e2 z Yz [c] :: rs)) (ho:o.op = .call { callee:=.builtin .append,args:=#[x,y],argTypes:=#[ts,tx] }) (hg:qo ops L.tree o.guard=some true) (hx:kA L x=some v) (hy:kA L y=some u)
 (hd:Dt rs (.sl v e z enc l) rs') (hs:qK P ts=some e) (hz:qN P e=some zc) (hzl:zc.length=z) (hb:jK P e=some (by_+1)) (hxs:(qK P tx).isSome=true) (hc:c=enc y0) (h1:c.all one? = true) (hlen:∀ y,(enc y).length=z)
 (hsz:(l.length+2)*(by_+1)≤140737488355328) (hdst:o.dst=some d) (hds:Nat.blt d sz=true) (w:∀ v' h',Hs h0 h' (.sl v' e z enc (l ++ [y0]) :: rs')→KO P X sz ops os (L.put d v') h' R):KO P X sz ops (o :: os) L h R:=by
 subst hc;have hr:zo h u z enc [y0]:=by
  have:=Rd.of_sl S .here;unfold zo at this ⊢;simp only [zG2,List.flatMap_nil,Yz] at this ⊢;exact this
 exact KG S.tail ho hg hx hy hd hr hs hz hzl hb hxs (by simpa using h1) hlen (by simpa using hsz) hdst hds w
theorem qfC {L':Ks} {x:Operand} {ty:TypeId} {l:List UInt8} (ho:o.op = .call { callee:=.builtin .len,args:=#[x],argTypes:=#[ty] }) (hg:qo ops L.tree o.guard=some true) (hx:kA L x=some (str l)) (hu:P.underlying ty=some .string)
 (hp:qE sz L o.dst (.int .i64 l.length)=some L') (w:KO P X sz ops os L' h R):KO P X sz ops (o :: os) L h R :=
 qcY ho hg hx (by unfold str;simp only [PI,hu,zF6]) hp w
theorem qfD {L':Ks} {x i:Operand} {ty:TypeId} {l:List UInt8} {ik:IntKind} {a:Int} (ho:o.op = .index ty x i) (hg:qo ops L.tree o.guard=some true) (hx:kA L x=some (str l)) (hi:kA L i=some (.int ik a)) (hu:P.underlying ty=some .string)
 (ha:0≤a∧a<l.length) (hp:qE sz L o.dst (.int .u8 ((l.getD a.toNat 0).toNat:Int))=some L') (w:KO P X sz ops os L' h R):KO P X sz ops (o :: os) L h R:=by
 obtain ⟨k,rfl⟩:=zH4 ha.1;have hk:k<l.length:=by omega
 refine qW hg ?_ hp w;rw [ho];have:xO P ty (str l) (.int ik (Int.ofNat k))=some (.int .u8 ((l.getD k 0).toNat:Int)):=by
  unfold str;simp only [xO,hu,zF6];rw [zA4 hk,zA2,zA4 hk];rfl
 have hi':zI L.tree i=some (.int ik (Int.ofNat k)):=qB hi;simp only [zD,qB hx,hi',this,qH,zA0]
theorem qeg {L':Ks} {x y:Operand} {ty ty2:TypeId} {l m:List UInt8} (ho:o.op = .binOp .add ty x y ty2) (hg:qo ops L.tree o.guard=some true) (hx:kA L x=some (str l)) (hy:kA L y=some (str m))
 (hb:l.length+m.length≤4611686018427387904) (hp:qE sz L o.dst (str (l ++ m))=some L') (w:KO P X sz ops os L' h R):KO P X sz ops (o :: os) L h R :=
 zN ho hg hx hy (by
  unfold str;simp only [Qe,zF6];rw [zB3 hb]) hp w
theorem Xc (l m:List UInt8):zU ⟨l.toArray⟩ ⟨m.toArray⟩=decide (l=m):=by
 unfold zU;simp only [zF6];rw [Bool.eq_iff_iff];simp
theorem qfE {L':Ks} {op:BinOp} {x y:Operand} {ty ty2:TypeId} {l m:List UInt8} {v:Bool} (ho:o.op = .binOp op ty x y ty2) (hg:qo ops L.tree o.guard=some true) (hx:kA L x=some (str l)) (hy:kA L y=some (str m))
 (hop:(match op with|.eql=>some true|.neq=>some false | _=>none)=some v) (hq:l=m) (hp:qE sz L o.dst (.bool v)=some L') (w:KO P X sz ops os L' h R):KO P X sz ops (o :: os) L h R :=
 zN ho hg hx hy (by
  unfold str;cases op<;>simp only [Option.some.injEq] at hop<;>try (cases hop;done)
  all_goals (subst hop;simp only [Qe,Xc,decide_eq_true hq,Bool.not_true])) hp w
theorem qfG {L':Ks} {op:BinOp} {x y:Operand} {ty ty2:TypeId} {l m:List UInt8} {v:Bool} (ho:o.op = .binOp op ty x y ty2) (hg:qo ops L.tree o.guard=some true) (hx:kA L x=some (str l)) (hy:kA L y=some (str m))
 (hop:(match op with|.eql=>some false|.neq=>some true | _=>none)=some v) (hq:¬ l=m) (hp:qE sz L o.dst (.bool v)=some L') (w:KO P X sz ops os L' h R):KO P X sz ops (o :: os) L h R :=
 zN ho hg hx hy (by
  unfold str;cases op<;>simp only [Option.some.injEq] at hop<;>try (cases hop;done)
  all_goals (subst hop;simp only [Qe,Xc,decide_eq_false hq,Bool.not_false])) hp w
theorem qfF {L1 L2:Ks} {op:BinOp} {x y:Operand} {ty ty2:TypeId} {l m:List UInt8} {v:Bool} (ho:o.op = .binOp op ty x y ty2) (hg:qo ops L.tree o.guard=some true) (hx:kA L x=some (str l)) (hy:kA L y=some (str m))
 (hop:(match op with|.eql=>some true|.neq=>some false | _=>none)=some v) (hp1:qE sz L o.dst (.bool v)=some L1) (hp2:qE sz L o.dst (.bool !v)=some L2) (w1:l=m→KO P X sz ops os L1 h R) (w2:¬ l=m→KO P X sz ops os L2 h R):KO P X sz ops (o :: os) L h R:=by
 by_cases hq:l=m
 ·exact qfE ho hg hx hy hop hq hp1 (w1 hq)
 ·refine qfG (v:=!v) ho hg hx hy ?_ hq hp2 (w2 hq);cases op<;>simp only [Option.some.injEq] at hop ⊢<;>try (cases hop;done)
  all_goals (subst hop;rfl)
end
end Go.Proofs.Xx
namespace Go.Proofs.Xx
open Go
def Zo:Op→Option Operand|.move x|.assign x=>some x | _=>none
section
variable {P:Program} {X:Extern} {inR:Bool} {sz:Nat} {L:Ks} {h h0:AH} {rs:List Rs} {ops:Array Oper} {os:List Oper} {o:Oper} {R:Ks→AH→Prop} {Q:KQ}
theorem qgf {L':Ks} {x:Operand} {v:Value} (ho:Zo o.op=some x) (hg:qo ops L.tree o.guard=some true) (hx:kA L x=some v) (hp:qE sz L o.dst v=some L') (w:KO P X sz ops os L' h R):KO P X sz ops (o :: os) L h R:=by
 refine qW hg ?_ hp w;cases he:o.op with
 | move y=>rw [he] at ho;cases ho;simp only [zD,qB hx,qH]
 | assign y=>rw [he] at ho;cases ho;simp only [zD,qB hx,qH]
 | _=>rw [he] at ho;cases ho
theorem wrap_u8 {n:Int} (h:0≤n∧n≤255):IntKind.u8.wrap n=n:=kz (by simpa [IntKind.min,IntKind.max,IntKind.signed,IntKind.bits] using h)
theorem qe6 {L':Ks} {x y:Operand} {ty ty2:TypeId} {a b:Int} (ho:o.op = .binOp .add ty x y ty2) (hg:qo ops L.tree o.guard=some true) (hx:kA L x=some (.int .u8 a)) (hy:kA L y=some (.int .u8 b))
 (hb:0≤a+b∧a+b≤255) (hp:qE sz L o.dst (.int .u8 (a+b))=some L') (w:KO P X sz ops os L' h R):KO P X sz ops (o :: os) L h R :=
 zN ho hg hx hy (by simp only [Qe,decide_true,wrap_u8 hb]) hp w
theorem qe5 {L':Ks} {x y:Operand} {ty ty2:TypeId} {a b:Int} (ho:o.op = .binOp .sub ty x y ty2) (hg:qo ops L.tree o.guard=some true) (hx:kA L x=some (.int .u8 a)) (hy:kA L y=some (.int .u8 b))
 (hb:0≤a - b∧a - b≤255) (hp:qE sz L o.dst (.int .u8 (a - b))=some L') (w:KO P X sz ops os L' h R):KO P X sz ops (o :: os) L h R :=
 zN ho hg hx hy (by simp only [Qe,decide_true,wrap_u8 hb]) hp w
theorem qgj {L':Ks} {x:Operand} {s d:TypeId} {k k2:IntKind} {a:Int} (ho:o.op = .convert s d x) (hg:qo ops L.tree o.guard=some true) (hx:kA L x=some (.int k a)) (hs:P.underlying s=some (.int k2)) (hd:P.underlying d=some (.int .i64))
 (hb : -9223372036854775808≤a∧a≤9223372036854775807) (hp:qE sz L o.dst (.int .i64 a)=some L') (w:KO P X sz ops os L' h R):KO P X sz ops (o :: os) L h R :=
 qW hg (by rw [ho];simp only [zD,qB hx,zF,hs,hd,wrap_i64 hb.1 hb.2]) hp w
theorem qgi {L':Ks} {x:Operand} {s d:TypeId} {k k2:IntKind} {a:Int} (ho:o.op = .convert s d x) (hg:qo ops L.tree o.guard=some true) (hx:kA L x=some (.int k a)) (hs:P.underlying s=some (.int k2)) (hd:P.underlying d=some (.int .u8))
 (hb:0≤a∧a≤255) (hp:qE sz L o.dst (.int .u8 a)=some L') (w:KO P X sz ops os L' h R):KO P X sz ops (o :: os) L h R :=
 qW hg (by rw [ho];simp only [zD,qB hx,zF,hs,hd,wrap_u8 hb]) hp w
end
end Go.Proofs.Xx
namespace Go.Proofs.Xx
open Go
theorem zk {P:Program} {L:Ks} {h h0:AH} {rs:List Rs} {a b k:Nat} {ty e:TypeId} {c:List Value} {v:Value} {res:List ResultVar} {vs:List Value} (S:Hs h0 h rs) (hx:L.get a=some (.pointer (some ⟨b,k,none⟩))) (hi:At rs (.blk b c e)) (hv:ZX P ty c k=some v) (hr:jq P L.tree h res=some vs) :
 jq P L.tree h (.cell a ty :: res)=some (v :: vs):=by
 simp only [jq,Jh,Ks.tree_get,hx];rw [ZC (YD S hi),hv];simp only [hr]
end Go.Proofs.Xx
namespace Go.Proofs.Xx
open Go
class HasB (rs:List Rs) (b:Nat) (c:outParam (List Value)) (e:outParam TypeId) (f:outParam (Rs→List Rs)):Prop where
 at_:At rs (.blk b c e)
 ut:∀ r,Ut rs (.blk b c e) r (f r)
instance HasB.there {rs:List Rs} {b:Nat} {c:List Value} {e:TypeId} {f:Rs→List Rs} {s:Rs} [k:HasB rs b c e f]:HasB (s :: rs) b c e (fun r=>s :: f r):=⟨.there k.at_,fun r=>.there (k.ut r)⟩
instance HasB.here {rs:List Rs} {b:Nat} {c:List Value} {e:TypeId}:HasB (.blk b c e :: rs) b c e (fun r=>r :: rs):=⟨.here,fun r=>.here⟩
class HasS (rs:List Rs) (v:Value) (α:outParam Type) (e:outParam TypeId) (z:outParam Nat) (enc:outParam (α→List Value)) (l:outParam (List α)) (f:outParam (Rs→List Rs)) (d:outParam (List Rs)):Prop where
 at_:At rs (.sl v e z enc l)
 ut:∀ r,Ut rs (.sl v e z enc l) r (f r)
 dt:Dt rs (.sl v e z enc l) d
instance HasS.there {rs:List Rs} {v:Value} {α:Type} {e:TypeId} {z:Nat} {enc:α→List Value} {l:List α} {f:Rs→List Rs} {d:List Rs} {s:Rs} [k:HasS rs v α e z enc l f d]:HasS (s :: rs) v α e z enc l (fun r=>s :: f r) (s :: d) :=
 ⟨.there k.at_,fun r=>.there (k.ut r),.there k.dt⟩
instance HasS.here {rs:List Rs} {v:Value} {α:Type} {e:TypeId} {z:Nat} {enc:α→List Value} {l:List α}:HasS (.sl v e z enc l :: rs) v α e z enc l (fun r=>r :: rs) rs:=⟨.here,fun r=>.here,.here⟩
class HasR (rs:List Rs) (v:Value) (α:outParam Type) (z:outParam Nat) (enc:outParam (α→List Value)) (l:outParam (List α)):Prop where
 rd:∀ {h0 h:AH},Hs h0 h rs→zo h v z enc l
instance HasR.there {rs:List Rs} {v:Value} {α:Type} {z:Nat} {enc:α→List Value} {l:List α} {s:Rs} [k:HasR rs v α z enc l]:HasR (s :: rs) v α z enc l:=⟨fun S=>k.rd S.tail⟩
instance HasR.sl {rs:List Rs} {v:Value} {α:Type} {e:TypeId} {z:Nat} {enc:α→List Value} {l:List α}:HasR (.sl v e z enc l :: rs) v α z enc l:=⟨fun S=>Rd.of_sl S .here⟩
instance HasR.rdd {rs:List Rs} {v:Value} {α:Type} {z:Nat} {enc:α→List Value} {l:List α}:HasR (.rd v z enc l :: rs) v α z enc l:=⟨fun S=>Rd.of_rd S .here⟩
section
variable {P:Program} {X:Extern} {inR:Bool} {sz:Nat} {L:Ks} {h h0:AH} {rs:List Rs} {ops:Array Oper} {os:List Oper} {o:Oper} {R:Ks→AH→Prop} {Q:KQ}
theorem mv {L':Ks} {x:Operand} {v:Value} (w:KO P X sz ops os L' h R) (ho:Zo o.op=some x:=by exact rfl) (hg:qo ops L.tree o.guard=some true:=by exact rfl) (hx:kA L x=some v:=by exact rfl) (hp:qE sz L o.dst v=some L':=by exact rfl):KO P X sz ops (o :: os) L h R:=qgf ho hg hx hp w
theorem vl {L':Ks} {h':AH} {v:Value} (w:KO P X sz ops os L' h' R) (hg:qo ops L.tree o.guard=some true:=by exact rfl) (ha:zD P L.tree h o.op=some (.val v h'):=by exact rfl) (hp:qE sz L o.dst v=some L':=by exact rfl):KO P X sz ops (o :: os) L h R:=qW hg ha hp w
theorem off {L':Ks} (w:KO P X sz ops os L' h R) (hg:qo ops L.tree o.guard=some false:=by exact rfl) (hp:qE sz L o.dst (.tuple #[])=some L':=by exact rfl):KO P X sz ops (o :: os) L h R:=qfl hg hp w
theorem ad {L':Ks} {x y:Operand} {ty ty2:TypeId} {a b:Int} (w:KO P X sz ops os L' h R) (ho:o.op = .binOp .add ty x y ty2:=by exact rfl) (hg:qo ops L.tree o.guard=some true:=by exact rfl) (hx:kA L x=some (.int .i64 a):=by exact rfl) (hy:kA L y=some (.int .i64 b):=by exact rfl)
 (hb : -9223372036854775808≤a+b∧a+b≤9223372036854775807:=by first|omega|grind) (hp:qE sz L o.dst (.int .i64 (a+b))=some L':=by exact rfl):KO P X sz ops (o :: os) L h R:=qgm ho hg hx hy hb hp w
theorem sb {L':Ks} {x y:Operand} {ty ty2:TypeId} {a b:Int} (w:KO P X sz ops os L' h R) (ho:o.op = .binOp .sub ty x y ty2:=by exact rfl) (hg:qo ops L.tree o.guard=some true:=by exact rfl) (hx:kA L x=some (.int .i64 a):=by exact rfl) (hy:kA L y=some (.int .i64 b):=by exact rfl)
 (hb : -9223372036854775808≤a - b∧a - b≤9223372036854775807:=by first|omega|grind) (hp:qE sz L o.dst (.int .i64 (a - b))=some L':=by exact rfl):KO P X sz ops (o :: os) L h R:=qgb ho hg hx hy hb hp w
theorem ml {L':Ks} {x y:Operand} {ty ty2:TypeId} {a b:Int} (w:KO P X sz ops os L' h R) (ho:o.op = .binOp .mul ty x y ty2:=by exact rfl) (hg:qo ops L.tree o.guard=some true:=by exact rfl) (hx:kA L x=some (.int .i64 a):=by exact rfl) (hy:kA L y=some (.int .i64 b):=by exact rfl)
 (hb : -9223372036854775808≤a*b∧a*b≤9223372036854775807:=by first|omega|grind) (hp:qE sz L o.dst (.int .i64 (a*b))=some L':=by exact rfl):KO P X sz ops (o :: os) L h R:=qge ho hg hx hy hb hp w
theorem qu {L':Ks} {x y:Operand} {ty ty2:TypeId} {a b:Int} (w:KO P X sz ops os L' h R) (ho:o.op = .binOp .quo ty x y ty2:=by exact rfl) (hg:qo ops L.tree o.guard=some true:=by exact rfl) (hx:kA L x=some (.int .i64 a):=by exact rfl) (hy:kA L y=some (.int .i64 b):=by exact rfl)
 (hb:0≤a∧a≤9223372036854775807∧0<b:=by first|omega|grind) (hp:qE sz L o.dst (.int .i64 (a / b))=some L':=by exact rfl):KO P X sz ops (o :: os) L h R:=qgd ho hg hx hy hb hp w
theorem rm {L':Ks} {x y:Operand} {ty ty2:TypeId} {a b:Int} (w:KO P X sz ops os L' h R) (ho:o.op = .binOp .rem ty x y ty2:=by exact rfl) (hg:qo ops L.tree o.guard=some true:=by exact rfl) (hx:kA L x=some (.int .i64 a):=by exact rfl) (hy:kA L y=some (.int .i64 b):=by exact rfl)
 (hb:0≤a∧0<b:=by first|omega|grind) (hp:qE sz L o.dst (.int .i64 (a % b))=some L':=by exact rfl):KO P X sz ops (o :: os) L h R:=qgc ho hg hx hy hb hp w
theorem mn {L':Ks} {x y:Operand} {tys:Array TypeId} {k k':IntKind} {a b:Int} (w:KO P X sz ops os L' h R) (ho:o.op = .call { callee:=.builtin .min,args:=#[x,y],argTypes:=tys }:=by exact rfl) (hg:qo ops L.tree o.guard=some true:=by exact rfl) (hx:kA L x=some (.int k a):=by exact rfl) (hy:kA L y=some (.int k' b):=by exact rfl)
 (hp:qE sz L o.dst (.int k (min a b))=some L':=by exact rfl):KO P X sz ops (o :: os) L h R:=qgg ho hg hx hy hp w
theorem mx {L':Ks} {x y:Operand} {tys:Array TypeId} {k k':IntKind} {a b:Int} (w:KO P X sz ops os L' h R) (ho:o.op = .call { callee:=.builtin .max,args:=#[x,y],argTypes:=tys }:=by exact rfl) (hg:qo ops L.tree o.guard=some true:=by exact rfl) (hx:kA L x=some (.int k a):=by exact rfl) (hy:kA L y=some (.int k' b):=by exact rfl)
 (hp:qE sz L o.dst (.int k (max a b))=some L':=by exact rfl):KO P X sz ops (o :: os) L h R:=qgh ho hg hx hy hp w
theorem aU {L':Ks} {x y:Operand} {ty ty2:TypeId} {a b:Int} (w:KO P X sz ops os L' h R) (ho:o.op = .binOp .add ty x y ty2:=by exact rfl) (hg:qo ops L.tree o.guard=some true:=by exact rfl) (hx:kA L x=some (.int .u8 a):=by exact rfl) (hy:kA L y=some (.int .u8 b):=by exact rfl)
 (hb:0≤a+b∧a+b≤255:=by omega) (hp:qE sz L o.dst (.int .u8 (a+b))=some L':=by exact rfl):KO P X sz ops (o :: os) L h R:=qe6 ho hg hx hy hb hp w
theorem sU {L':Ks} {x y:Operand} {ty ty2:TypeId} {a b:Int} (w:KO P X sz ops os L' h R) (ho:o.op = .binOp .sub ty x y ty2:=by exact rfl) (hg:qo ops L.tree o.guard=some true:=by exact rfl) (hx:kA L x=some (.int .u8 a):=by exact rfl) (hy:kA L y=some (.int .u8 b):=by exact rfl)
 (hb:0≤a - b∧a - b≤255:=by omega) (hp:qE sz L o.dst (.int .u8 (a - b))=some L':=by exact rfl):KO P X sz ops (o :: os) L h R:=qe5 ho hg hx hy hb hp w
theorem cI {L':Ks} {x:Operand} {s d:TypeId} {k k2:IntKind} {a:Int} (w:KO P X sz ops os L' h R) (ho:o.op = .convert s d x:=by exact rfl) (hg:qo ops L.tree o.guard=some true:=by exact rfl) (hx:kA L x=some (.int k a):=by exact rfl) (hs:P.underlying s=some (.int k2):=by exact rfl) (hd:P.underlying d=some (.int .i64):=by exact rfl)
 (hb : -9223372036854775808≤a∧a≤9223372036854775807:=by first|omega|grind) (hp:qE sz L o.dst (.int .i64 a)=some L':=by exact rfl):KO P X sz ops (o :: os) L h R:=qgj ho hg hx hs hd hb hp w
theorem cU {L':Ks} {x:Operand} {s d:TypeId} {k k2:IntKind} {a:Int} (w:KO P X sz ops os L' h R) (ho:o.op = .convert s d x:=by exact rfl) (hg:qo ops L.tree o.guard=some true:=by exact rfl) (hx:kA L x=some (.int k a):=by exact rfl) (hs:P.underlying s=some (.int k2):=by exact rfl) (hd:P.underlying d=some (.int .u8):=by exact rfl)
 (hb:0≤a∧a≤255:=by omega) (hp:qE sz L o.dst (.int .u8 a)=some L':=by exact rfl):KO P X sz ops (o :: os) L h R:=qgi ho hg hx hs hd hb hp w
theorem cT {L':Ks} {op:BinOp} {x y:Operand} {ty ty2:TypeId} {k:IntKind} {a b:Int} {p:Prop} (w:KO P X sz ops os L' h R) (ho:o.op = .binOp op ty x y ty2:=by exact rfl) (hg:qo ops L.tree o.guard=some true:=by exact rfl) (hx:kA L x=some (.int k a):=by exact rfl) (hy:kA L y=some (.int k b):=by exact rfl)
 (hc:Gm op a b=some p:=by exact rfl) (hq:p:=by omega) (hp:qE sz L o.dst (.bool true)=some L':=by exact rfl):KO P X sz ops (o :: os) L h R:=qgk ho hg hx hy hc hq hp w
theorem cF {L':Ks} {op:BinOp} {x y:Operand} {ty ty2:TypeId} {k:IntKind} {a b:Int} {p:Prop} (w:KO P X sz ops os L' h R) (ho:o.op = .binOp op ty x y ty2:=by exact rfl) (hg:qo ops L.tree o.guard=some true:=by exact rfl) (hx:kA L x=some (.int k a):=by exact rfl) (hy:kA L y=some (.int k b):=by exact rfl)
 (hc:Gm op a b=some p:=by exact rfl) (hq:¬ p:=by omega) (hp:qE sz L o.dst (.bool false)=some L':=by exact rfl):KO P X sz ops (o :: os) L h R:=qgl ho hg hx hy hc hq hp w
theorem cS {L1 L2:Ks} {op:BinOp} {x y:Operand} {ty ty2:TypeId} {k:IntKind} {a b:Int} {p:Prop} (w1:p→KO P X sz ops os L1 h R) (w2:¬ p→KO P X sz ops os L2 h R) (ho:o.op = .binOp op ty x y ty2:=by exact rfl) (hg:qo ops L.tree o.guard=some true:=by exact rfl) (hx:kA L x=some (.int k a):=by exact rfl) (hy:kA L y=some (.int k b):=by exact rfl)
 (hc:Gm op a b=some p:=by exact rfl) (hp1:qE sz L o.dst (.bool true)=some L1:=by exact rfl) (hp2:qE sz L o.dst (.bool false)=some L2:=by exact rfl):KO P X sz ops (o :: os) L h R:=qgY ho hg hx hy hc hp1 hp2 w1 w2
theorem tS {L1 L2:Ks} {op:BinOp} {x y:Operand} {ty ty2:TypeId} {l m:List UInt8} {v:Bool} (w1:l=m→KO P X sz ops os L1 h R) (w2:¬ l=m→KO P X sz ops os L2 h R) (ho:o.op = .binOp op ty x y ty2:=by exact rfl) (hg:qo ops L.tree o.guard=some true:=by exact rfl) (hx:kA L x=some (str l):=by exact rfl) (hy:kA L y=some (str m):=by exact rfl)
 (hop:(match op with|.eql=>some true|.neq=>some false | _=>none)=some v:=by exact rfl) (hp1:qE sz L o.dst (.bool v)=some L1:=by exact rfl) (hp2:qE sz L o.dst (.bool !v)=some L2:=by exact rfl):KO P X sz ops (o :: os) L h R:=qfF ho hg hx hy hop hp1 hp2 w1 w2
theorem tl {L':Ks} {x:Operand} {ty:TypeId} {l:List UInt8} (w:KO P X sz ops os L' h R) (ho:o.op = .call { callee:=.builtin .len,args:=#[x],argTypes:=#[ty] }:=by exact rfl) (hg:qo ops L.tree o.guard=some true:=by exact rfl) (hx:kA L x=some (str l):=by exact rfl) (hu:P.underlying ty=some .string:=by exact rfl)
 (hp:qE sz L o.dst (.int .i64 l.length)=some L':=by exact rfl):KO P X sz ops (o :: os) L h R:=qfC ho hg hx hu hp w
theorem ti {L':Ks} {x i:Operand} {ty:TypeId} {l:List UInt8} {ik:IntKind} {a:Int} (w:KO P X sz ops os L' h R) (ho:o.op = .index ty x i:=by exact rfl) (hg:qo ops L.tree o.guard=some true:=by exact rfl) (hx:kA L x=some (str l):=by exact rfl) (hi:kA L i=some (.int ik a):=by exact rfl) (hu:P.underlying ty=some .string:=by exact rfl)
 (ha:0≤a∧a<l.length:=by first|omega|grind) (hp:qE sz L o.dst (.int .u8 ((l.getD a.toNat 0).toNat:Int))=some L':=by exact rfl):KO P X sz ops (o :: os) L h R:=qfD ho hg hx hi hu ha hp w
theorem tc {L':Ks} {x y:Operand} {ty ty2:TypeId} {l m:List UInt8} (w:KO P X sz ops os L' h R) (ho:o.op = .binOp .add ty x y ty2:=by exact rfl) (hg:qo ops L.tree o.guard=some true:=by exact rfl) (hx:kA L x=some (str l):=by exact rfl) (hy:kA L y=some (str m):=by exact rfl)
 (hb:l.length+m.length≤4611686018427387904:=by first|omega|grind) (hp:qE sz L o.dst (str (l ++ m))=some L':=by exact rfl):KO P X sz ops (o :: os) L h R:=qeg ho hg hx hy hb hp w
theorem bx {x:Operand} {e:TypeId} {v:Value} {c:List Value} {d:Tmp} (S:Hs h0 h rs) (w:∀ b h',Hs h0 h' (.blk b c e :: rs)→KO P X sz ops os (L.put d (.pointer (some ⟨b,0,none⟩))) h' R) (ho:o.op = .box e x:=by exact rfl) (hg:qo ops L.tree o.guard=some true:=by exact rfl) (hx:kA L x=some v:=by exact rfl) (hc:v.cells.toList=c:=by exact rfl) (hd:o.dst=some d:=by exact rfl) (hs:Nat.blt d sz=true:=by exact rfl):KO P X sz ops (o :: os) L h R :=
 qfP S ho hg hx hc hd hs w
theorem al {e:TypeId} {v:Value} {c:List Value} {d:Tmp} (S:Hs h0 h rs) (w:∀ b h',Hs h0 h' (.blk b c e :: rs)→KO P X sz ops os (L.put d (.pointer (some ⟨b,0,none⟩))) h' R) (ho:o.op = .alloc e:=by exact rfl) (hg:qo ops L.tree o.guard=some true:=by exact rfl) (hz:Xu P e=some v:=by exact rfl) (hpl:Qs v=true:=by exact rfl) (hc:v.cells.toList=c:=by exact rfl) (hd:o.dst=some d:=by exact rfl) (hs:Nat.blt d sz=true:=by exact rfl):KO P X sz ops (o :: os) L h R :=
 qdz S ho hg hz hpl hc hd hs w
theorem lB {L':Ks} {x:Operand} {ty e:TypeId} {b k:Nat} {c:List Value} {v:Value} {f:Rs→List Rs} (S:Hs h0 h rs) (ho:o.op = .load ty x) (hx:kA L x=some (.pointer (some ⟨b,k,none⟩))) [i:HasB rs b c e f] (w:KO P X sz ops os L' h R) (hg:qo ops L.tree o.guard=some true:=by exact rfl) (hv:ZX P ty c k=some v:=by exact rfl) (hp:qE sz L o.dst v=some L':=by exact rfl):KO P X sz ops (o :: os) L h R :=
 qfO S ho hg hx i.at_ hv hp w
theorem sB {L':Ks} {x y:Operand} {ty e:TypeId} {b k:Nat} {c c':List Value} {v:Value} {f:Rs→List Rs} (S:Hs h0 h rs) (ho:o.op = .store ty x y) (hx:kA L x=some (.pointer (some ⟨b,k,none⟩))) [i:HasB rs b c e f] (w:∀ h',Hs h0 h' (f (.blk b c' e))→KO P X sz ops os L' h' R)
 (hg:qo ops L.tree o.guard=some true:=by exact rfl) (hy:kA L y=some v:=by exact rfl) (hv:ZG P ty c k v=some c':=by exact rfl) (hp:qE sz L o.dst (.tuple #[])=some L':=by exact rfl):KO P X sz ops (o :: os) L h R :=
 qfM S ho hg hx hy (i.ut _) hv hp w
theorem jZ {L':Ks} {x:Operand} {ty:TypeId} {v:Value} {z n:Nat} {c:List Value} (S:Hs h0 h rs) (w:KO P X sz ops os L' h R) (ho:o.op = .call { callee:=.builtin .len,args:=#[x],argTypes:=#[ty] }:=by exact rfl) (hg:qo ops L.tree o.guard=some true:=by exact rfl) (hx:kA L x=some v:=by exact rfl) (hu:(qK P ty).isSome=true:=by exact rfl)
 (hr:Rd h0 v z n c:=by assumption) (wf:WfH h0:=by assumption) (hp:qE sz L o.dst (.int .i64 n)=some L':=by exact rfl):KO P X sz ops (o :: os) L h R:=qei ho hg hx hu (Rd.of_base S hr wf) hp w
theorem yc {L':Ks} {x:Operand} {ty:TypeId} {v:Value} {α:Type} {z:Nat} {enc:α→List Value} {l:List α} (S:Hs h0 h rs) (ho:o.op = .call { callee:=.builtin .len,args:=#[x],argTypes:=#[ty] }) (hx:kA L x=some v) [i:HasR rs v α z enc l] (w:KO P X sz ops os L' h R) (hg:qo ops L.tree o.guard=some true:=by exact rfl) (hu:(qK P ty).isSome=true:=by exact rfl)
 (hp:qE sz L o.dst (.int .i64 l.length)=some L':=by exact rfl):KO P X sz ops (o :: os) L h R:=qei ho hg hx hu (i.rd S) hp w
theorem QE {L':Ks} {x i:Operand} {ty:TypeId} {v:Value} {ik:IntKind} {a:Int} {z n:Nat} {c:List Value} (S:Hs h0 h rs) (w:KO P X sz ops os L' h R) (ho:o.op = .indexAddr ty x i:=by exact rfl) (hg:qo ops L.tree o.guard=some true:=by exact rfl) (hx:kA L x=some v:=by exact rfl) (hi:kA L i=some (.int ik a):=by exact rfl) (hu:Qx P ty=some z:=by exact rfl)
 (hr:Rd h0 v z n c:=by assumption) (wf:WfH h0:=by assumption) (ha:0≤a∧a<n:=by first|omega|grind) (hp:qE sz L o.dst (Vd v z a.toNat 0)=some L':=by exact rfl):KO P X sz ops (o :: os) L h R:=qek ho hg hx hi hu (Rd.of_base S hr wf) ha hp w
theorem Qk {α:Type} [Inhabited α] {L':Ks} {x:Operand} {ty:TypeId} {v u:Value} {z k off:Nat} {enc:α→List Value} {l:List α} (S:Hs h0 h rs) (w:KO P X sz ops os L' h R) (ho:o.op = .load ty x:=by exact rfl) (hg:qo ops L.tree o.guard=some true:=by exact rfl) (hx:kA L x=some (Vd v z k off):=by exact rfl)
 (hr:zo h0 v z enc l:=by assumption) (wf:WfH h0:=by assumption) (hz:∀ x,(enc x).length=z:=by intro _;rfl) (hk:k<l.length:=by first|omega|grind) (hv:ZX P ty (enc (l.getD k default)) off=some u:=by exact rfl) (hp:qE sz L o.dst u=some L':=by exact rfl):KO P X sz ops (o :: os) L h R :=
 qej ho hg hx (Rd.of_base S hr wf) hz hk hv hp w
theorem fA {L':Ks} {x:Operand} {ty:TypeId} {fs:Array Field} {fd:Field} {v:Value} {z k off f m n:Nat} {c:List Value} (w:KO P X sz ops os L' h R) (ho:o.op = .fieldAddr ty x f:=by exact rfl) (hg:qo ops L.tree o.guard=some true:=by exact rfl) (hx:kA L x=some (Vd v z k off):=by exact rfl) (hu:P.underlying ty=some (.struct fs):=by exact rfl) (hf:fs[f]? = some fd:=by exact rfl) (hm:zq P fd.type=some (m+1):=by exact rfl)
 (hr:Rd h v z n c:=by assumption) (hk:k<n:=by first|omega|grind) (hp:qE sz L o.dst (Vd v z k (off+fd.offset))=some L':=by exact rfl):KO P X sz ops (o :: os) L h R:=qce ho hg hx hu hf hm hr hk hp w
theorem one {x:Operand} {ty e:TypeId} {zc:List Value} {v:Value} {c:List Value} {d:Tmp} (z:Nat) (S:Hs h0 h rs) (w:∀ u h',Hs h0 h' (.sl u e z Yz [c] :: rs)→KO P X sz ops os (L.put d u) h' R) (ho:o.op = .buildSlice ty 1 #[(0,x)]:=by exact rfl) (hg:qo ops L.tree o.guard=some true:=by exact rfl) (hx:kA L x=some v:=by exact rfl)
 (hs:qK P ty=some e:=by exact rfl) (hz:qN P e=some zc:=by exact rfl) (hzl:zc.length=z:=by exact rfl) (hv:v.cells.toList=c:=by exact rfl) (hc:c.length=z:=by exact rfl) (hsm:z≤1000:=by decide) (hdst:o.dst=some d:=by exact rfl) (hds:Nat.blt d sz=true:=by exact rfl):KO P X sz ops (o :: os) L h R:=qfN S ho hg hx hs hz hzl hv hc hsm hdst hds w
theorem app {α:Type} {x y:Operand} {ts tx e e2:TypeId} {zc c:List Value} {by_ z z2:Nat} {enc:α→List Value} {l:List α} {f:Rs→List Rs} {dd:List Rs} {v u:Value} {d:Tmp} {y0:α} (S:Hs h0 h (.sl u e2 z2 Yz [c] :: rs)) (ho:o.op = .call { callee:=.builtin .append,args:=#[x,y],argTypes:=#[ts,tx] }) (hx:kA L x=some v) [i:HasS rs v α e z enc l f dd]
 (w:∀ v' h',Hs h0 h' (.sl v' e z enc (l ++ [y0]) :: dd)→KO P X sz ops os (L.put d v') h' R) (hzz:z2=z:=by exact rfl) (hc:c=enc y0:=by exact rfl) (hg:qo ops L.tree o.guard=some true:=by exact rfl) (hy:kA L y=some u:=by exact rfl) (hs:qK P ts=some e:=by exact rfl) (hz:qN P e=some zc:=by exact rfl) (hzl:zc.length=z:=by exact rfl) (hb:jK P e=some (by_+1):=by exact rfl) (hxs:(qK P tx).isSome=true:=by exact rfl)
 (h1:c.all one? = true:=by exact rfl) (hlen:∀ y,(enc y).length=z:=by intro _;rfl) (hsz:(l.length+2)*(by_+1)≤140737488355328:=by first|omega|grind) (hdst:o.dst=some d:=by exact rfl) (hds:Nat.blt d sz=true:=by exact rfl):KO P X sz ops (o :: os) L h R:=by
 subst hzz;exact qeH S ho hg hx hy i.dt hs hz hzl hb hxs hc h1 hlen hsz hdst hds w
end
end Go.Proofs.Xx
namespace Go.Proofs.Xx
open Go
theorem Ks.le_int {L L':Ks} {k:Nat} {ik:IntKind} {n m:Int} (hl:Ks.le L' L) (h:L.get k=some (.int ik m):=by exact rfl) (e:m=n:=by first|omega|grind):Ks.le ((k,.int ik n) :: L') L:=Ks.le_cons (by rw [h,e]) hl
theorem qy {L' L:Ks} (h:Ks.le L' L:=by repeat (first|exact Ks.le_nil _|refine Ks.le_cons rfl ?_|refine Ks.le_int ?_)):Ks.le L' L:=h
section
variable {P:Program} {X:Extern} {inR:Bool} {sz:Nat} {L:Ks} {h h0:AH} {rs:List Rs} {ops:Array Oper} {os:List Oper} {o:Oper} {R:Ks→AH→Prop} {Q:KQ}
theorem Hs.same {r r':Rs} {rs':List Rs} (S:Hs h0 h rs) (u:Ut rs r r' rs') (hk:∀ fp,r.ok h fp→r'.ok h fp):Hs h0 h rs' :=
 S.turn u (zA3 _) S.wf fun fp k1 k2=>⟨fun _ _ _=>rfl,fp,hk fp k1,fun b hb=>⟨(k2 b hb).2,.inl hb⟩⟩
theorem Hs.recode {α β:Type} {v:Value} {e:TypeId} {z:Nat} {enc:α→List Value} {l:List α} {enc2:β→List Value} {l2:List β} (S:Hs h0 h (.sl v e z enc l :: rs)) (hl:l.length=l2.length) (hc:l.flatMap enc=l2.flatMap enc2):Hs h0 h (.sl v e z enc2 l2 :: rs) :=
 S.same .here fun fp k=>by
  rcases k with ⟨rfl,rfl⟩|⟨b,o,cc,slk,cap,h1,h2,h3,h4,h5,h6⟩
  ·have:l2=[]:=zE9.1 hl.symm;exact .inl ⟨rfl,this⟩
  ·exact .inr ⟨b,o,cc,slk,cap,by rw [← hl];exact h1,h2,h3,by rw [← hl,← hc];exact h4,⟨by rw [← hl];exact h5.1,h5.2⟩,h6⟩
theorem Hs.one {α:Type} {v:Value} {e:TypeId} {z:Nat} {c:List Value} (enc:α→List Value) (y:α) (S:Hs h0 h (.sl v e z Yz [c] :: rs)) (hc:c=enc y):Hs h0 h (.sl v e z enc [y] :: rs):=S.recode rfl (by simp [Yz,hc])
theorem dr {α:Type} {x lo:Operand} {ty e:TypeId} {v:Value} {z:Nat} {enc:α→List Value} {l:List α} {f:Rs→List Rs} {dd:List Rs} {ik:IntKind} {a:Int} {d:Tmp} (S:Hs h0 h rs) (ho:o.op = .slice ty x (some lo) none none) (hx:kA L x=some v) [i:HasS rs v α e z enc l f dd]
 (w:∀ v',Hs h0 h (f (.sl v' e z enc (l.drop a.toNat)))→KO P X sz ops os (L.put d v') h R) (hg:qo ops L.tree o.guard=some true:=by exact rfl) (hlo:kA L lo=some (.int ik a):=by exact rfl) (hz:∀ x,(enc x).length=z:=by intro _;rfl) (hu:Qx P ty=some z:=by exact rfl) (ha:0≤a∧a≤l.length:=by first|omega|grind)
 (hdst:o.dst=some d:=by exact rfl) (hds:Nat.blt d sz=true:=by exact rfl):KO P X sz ops (o :: os) L h R:=by
 obtain ⟨k,rfl⟩:=zH4 ha.1;have hk:k≤l.length:=by omega
 obtain ⟨fp,k1,k2,-⟩:=(i.ut (.sl v e z enc l)).ok (h':=h) S.ext.next (zA3 _) S.sep
 have hue:∃ e',P.underlying ty=some (.slice e')∧zq P e'=some z:=by
  unfold Qx at hu;split at hu
  ·exact ⟨_,by assumption,hu⟩
  ·cases hu
 obtain ⟨e',hu1,hu2⟩:=hue;have hlo':zI L.tree lo=some (.int ik (Int.ofNat k)):=qB hlo;have go:∀ v',zh P ty v (some (.int ik (Int.ofNat k))) none none h=some v'→Hs h0 h (f (.sl v' e z enc (l.drop k)))→KO P X sz ops (o :: os) L h R:=fun v' q1 q2=>by
  refine qW (v:=v') (h':=h) hg ?_ (by simp only [qE,hdst,hds]) (w v' (by simpa using q2));rw [ho];simp only [zD,qB hx,zH,hlo',q1,qH,zB]
 rcases k1 with ⟨rfl,rfl⟩|⟨b,o',cc,slk,cap,g1,g2,g3,g4,g5,g6⟩
 ·obtain rfl:k=0:=by simpa using hk
  refine go (.slice none 0 0) ?_ (S.same (i.ut _) fun fq q=>by simpa using q);simp only [zh,hu1,qR,hu2]
 ·subst g1;have hle:Nat.ble k l.length=true:=zB3 hk;have hnn:Nat.ble l.length cap=true:=zB3 g5.1;have hcz:l.length*z≤cap*z:=zD3 z g5.1;have hoc:o'+l.length*z≤cc.length:=by have:=g5.2;omega
  have hkz:k*z≤l.length*z:=zD3 z hk;cases hq:slk.isNone && Nat.beq k cap with
  | true =>
   rw [zA8] at hq;have hkl0:=zA6 hq.2;have hkl:k=l.length:=by have:=g5.1;omega
   refine go (.slice (some ⟨b,o',none⟩) (l.length - k) (cap - k)) ?_ (S.same (i.ut _) fun fq q=>?_)
   ·simp only [zh,hu1,g2,hu2,qR,hle,hnn,zF9,hq.1,hq.2]
   ·rcases q with ⟨q1,-⟩|⟨b',o2,cc2,sl2,cap2,q1,q2,q3,-⟩
    ·cases q1
    ·cases q1
     have:l.drop k=[]:=by rw [hkl,List.drop_length]
     exact .inr ⟨b,o',cc,slk,cap - k,by rw [zB4],g2,q3,by rw [this];simp [qX],⟨by rw [this];exact zB0 _,by rw [show cap - k=0 by omega];omega⟩,g6⟩
  | false =>
   refine go (.slice (some ⟨b,o'+k*z,none⟩) (l.length - k) (cap - k)) ?_ (S.same (i.ut _) fun fq q=>?_)
   ·simp only [zh,hu1,g2,hu2,qR,hle,hnn,zF9,hq]
   ·rcases q with ⟨q1,-⟩|⟨b',o2,cc2,sl2,cap2,q1,q2,q3,-⟩
    ·cases q1
    ·cases q1
     have hsub:k*z+(l.length - k)*z=l.length*z:=by rw [← zE1];congr 1;omega
     have hsub2:k*z+(cap - k)*z=cap*z:=by rw [← zE1];congr 1;have:=g5.1;omega
     refine .inr ⟨b,o'+k*z,cc,slk,cap - k,by rw [zB4],g2,q3,?_,⟨by rw [zB4];have:=g5.1;omega,by have:=g5.2;omega⟩,g6⟩;rw [zB4,Qv hz,jG g4 (by omega),zF8];rw [zB4,qO hz];omega
end
end Go.Proofs.Xx
namespace Go.Proofs.Xx
open Go
def jf:Value→Nat
 | .pointer (some ⟨b,_,_⟩)=>b
 | .slice (some ⟨b,_,_⟩) _ _=>b
 | .map (some b)=>b
 | _=>0
def Xy (t:Tr Value) (op:Op):Option Nat :=
 match op with
 | .load _ a=>match zI t a with|some v=>some (jf v)|none=>none
 | .slice _ x _ _ none=>match zI t x with|some v=>some (jf v)|none=>none
 | .lookup _ m _ _=>match zI t m with|some v=>some (jf v)|none=>none
 | .convert _ _ x=>match zI t x with|some v=>some (jf v)|none=>none
 | _=>none
theorem kD {h k:AH} {v:Value} (e:k.get (jf v)=h.get (jf v)):QK k v=QK h v:=by
 unfold QK;split
 ·simp only [jf] at e;rw [e]
 ·rfl
theorem PG {P:Program} {ty:TypeId} {h k:AH} {v:Value} (e:k.get (jf v)=h.get (jf v)):ZE P ty v k=ZE P ty v h:=by
 unfold ZE;rw [kD e]
theorem Gt {P:Program} {ty:TypeId} {h k:AH} {v:Value} {a b c:Option Value} (e:k.get (jf v)=h.get (jf v)):zh P ty v a b c k=zh P ty v a b c h:=by
 unfold zh;split
 ·rfl
 ·rfl
 ·simp only [jf] at e;rw [e]
 ·simp only [jf] at e;rw [e]
 ·rfl
theorem Gv {h k:AH} {v:Value} (e:k.get (jf v)=h.get (jf v)):Xi v k=Xi v h:=by
 unfold Xi;split
 ·rfl
 ·simp only [jf] at e;rw [e]
 ·rfl
theorem kJ {P:Program} {ty:TypeId} {h k:AH} {v q:Value} {ok:Bool} (e:k.get (jf v)=h.get (jf v)):Qa P ty v q ok k=Qa P ty v q ok h:=by
 unfold Qa;rw [Gv e]
theorem xK {P:Program} {s d:TypeId} {h k:AH} {v:Value} (e:k.get (jf v)=h.get (jf v)):zx P s d v k=zx P s d v h:=by
 unfold zx;split
 ·rfl
 ·simp only [jf] at e;rw [e]
 ·rfl
theorem VW {P:Program} {s d:TypeId} {h k:AH} {v:Value} (e:k.get (jf v)=h.get (jf v)):zM P s d v k=zM P s d v h:=by
 unfold zM;split
 ·simp only [jf] at e;rw [e]
 ·simp only [jf] at e;rw [e]
 ·rfl
theorem qcT {P:Program} {t:Tr Value} {op:Op} {h k:AH} {b:Nat} {v:Value} {u:AH} (hb:Xy t op=some b) (e:k.get b=h.get b) (ha:zD P t h op=some (.val v u)):∃ u',zD P t k op=some (.val v u'):=by
 cases op<;>simp only [Xy] at hb<;>try (cases hb)
 case convert s d x0 =>
  split at hb
  ·rename_i x hx
   cases hb
   simp only [zD,hx,xK e,VW e] at ha ⊢;cases h1:zF P s d x with
   | some y=>rw [h1] at ha;cases ha;exact ⟨_,rfl⟩
   | none =>
    rw [h1] at ha;simp only at ha ⊢;cases h2:zx P s d x h with
    | some y=>rw [h2] at ha;cases ha;exact ⟨_,rfl⟩
    | none =>
     rw [h2] at ha;simp only at ha ⊢;cases h3:zM P s d x h with
     | some y=>rw [h3] at ha;cases ha;exact ⟨_,rfl⟩
     | none=>rw [h3] at ha;cases ha
  ·cases hb
 ·rename_i ty a
  split at hb
  ·rename_i x hx
   cases hb
   simp only [zD,hx,PG e] at ha ⊢;cases hl:ZE P ty x h with
   | none=>rw [hl] at ha;cases ha
   | some y=>rw [hl] at ha;cases ha;exact ⟨_,rfl⟩
  ·cases hb
 ·rename_i ty a lo hi mx
  cases mx with
  | some mx=>cases hb
  | none =>
  simp only at hb;split at hb
  ·rename_i x hx
   cases hb
   simp only [zD,hx] at ha ⊢;cases h1:zH t lo with
   | none=>rw [h1] at ha;cases ha
   | some l =>
    cases h2:zH t hi with
    | none=>rw [h1,h2] at ha;cases ha
    | some r =>
     have h3:zH t none=some none:=rfl
     ·
      rw [h1,h2,h3] at ha;simp only [zB] at ha;simp only [h3,zB,Gt e];cases hl:zh P ty x l r none h with
      | none=>rw [hl] at ha;cases ha
      | some y=>rw [hl] at ha;cases ha;exact ⟨_,rfl⟩
  ·cases hb
 ·rename_i ty a ky ok
  split at hb
  ·rename_i x hx
   cases hb
   simp only [zD,hx] at ha ⊢;cases h1:zI t ky with
   | none=>rw [h1] at ha;cases ha
   | some l =>
    rw [h1] at ha;simp only at ha;simp only [kJ e];cases hl:Qa P ty x l ok h with
    | none=>rw [hl] at ha;cases ha
    | some y=>rw [hl] at ha;cases ha;exact ⟨_,rfl⟩
  ·cases hb
def Z5 (ops:Array Oper) (fl:List Nat) (i:Nat):Nat:=((List.range i).filter (qF ops fl)).length
def Vz:List (Nat×Nat×Nat)→Nat→Option (Nat×Nat)
 | [],_=>none
 | (j,lo,hi) :: r,i=>match Nat.beq j i with|true=>some (lo,hi)|false=>Vz r i
def vF (t:Tr Value) (op:Op):Bool :=
 match op with
 | .convert _ _ x=>match zI t x with|some (.int _ _)=>true | _=>false
 | _=>false
def QW:List (Nat×Nat×Nat)→List (Option Nat)→Nat→Option (Option Nat)
 | (j,_,_) :: r,b :: s,i=>match Nat.beq j i with|true=>some b|false=>QW r s i
 | _,_,_=>none
def keepsX:List (Nat×Nat×Nat)→List (Option Nat)→Nat→AH→AH→Prop
 | (_,lo,hi) :: r,some b :: s,m,h,h'=>((Nat.ble lo m && Nat.blt m hi)=true→h'.get b=h.get b)∧keepsX r s m h h'
 | _ :: r,none :: s,m,h,h'=>keepsX r s m h h'
 | _,_,_,_,_=>True
theorem keepsX.get {h h':AH} {m i lo hi b:Nat}:∀ {rd:List (Nat×Nat×Nat)} {bl:List (Option Nat)},keepsX rd bl m h h'→Vz rd i=some (lo,hi)→QW rd bl i=some (some b)→lo≤m→m<hi→h'.get b=h.get b
 | [],_,_,hw,_,_,_=>by cases hw
 | _ :: _,[],_,_,hb,_,_=>by cases hb
 | (j,l,r) :: rd,some c :: s,k,hw,hb,h1,h2=>by
  simp only [Vz] at hw;simp only [QW] at hb;split at hw
  ·rename_i e
   rw [e] at hb;cases hw;cases hb
   exact k.1 (by rw [zA8];exact ⟨zB3 h1,zB3 h2⟩)
  ·rename_i e
   rw [e] at hb;exact keepsX.get k.2 hw hb h1 h2
 | (j,l,r) :: rd,none :: s,k,hw,hb,h1,h2=>by
  simp only [Vz] at hw;simp only [QW] at hb;split at hw
  ·rename_i e
   rw [e] at hb;cases hb
  ·rename_i e
   rw [e] at hb;exact keepsX.get (rd:=rd) (bl:=s) k hw hb h1 h2
section
variable (P:Program) (ops:Array Oper) (fl:List Nat) (ids:List (Nat×Nat)) (rd:List (Nat×Nat×Nat)) (bl:List (Option Nat))
abbrev looksX (i:Nat) (o:Oper) (t:Tr Value) (h:AH) (b:Nat):Prop :=
 match jO ids i with
 | none=>Xy t o.op=some b
 | some b'=>b'=b∧∃ x c e,jv P t o.op=some (x,c,e)∧h.get b=some (.cells c e none false)
abbrev StepX (i:Nat) (o:Oper) (t:Tr Value) (h h':AH):Prop :=
 (match QW rd bl i with|some (some b)=>qo ops t o.guard=some false∨looksX P ids i o t h b|some none=>(qo ops t o.guard=some false∨vF t o.op=true)∧jO ids i=none|none=>True)∧(match qF ops fl i with|true=>keepsX rd bl (Z5 ops fl i) h h'|false=>h'=h)
def xE:Bool :=
 XM ops (masks ops.toList []) fl && (J9 ops (masks ops.toList []) == fl) &&
  (List.range ops.size).all fun i=>qF ops fl i || match Vz rd i with
   | some (lo,hi)=>(Nat.ble lo (Z5 ops fl i) && Nat.ble (Z5 ops fl i) hi) && (List.range (((List.range ops.size).filter (qF ops fl)).length+1)).all fun m=>xw (masks ops.toList []) ((List.range ops.size).filter (qF ops fl)) m i || (Nat.ble lo m && Nat.ble m hi)
   | none=>match ops[i]? with|some o=>!Y9 fl i && XU [] (masks ops.toList []) ((List.range ops.size).filter (qF ops fl)) i o.op|none=>false
end
def WOX (P:Program) (X:Extern) (sz:Nat) (ops:Array Oper) (fl:List Nat) (ids:List (Nat×Nat)) (rd:List (Nat×Nat×Nat)) (bl:List (Option Nat)) (i:Nat) (os:List Oper) (t:Tr Value) (h:AH) (R:Tr Value→AH→Prop):Prop :=
 ∃ n l t' h',ZQ P X (exec P X n) sz ops ids false i os t h=some (l,t',h')∧(∀ k o,os[k]? = some o→∃ s,l[k]? = some s∧(s.go=true→qo ops s.t o.guard=some true)∧StepX P ops fl ids rd bl (i+k) o s.t s.h (hpAt l h' (k+1)))∧hpAt l h' 0=h∧R t' h'
theorem Z9 {P:Program} {u t:Tr Value} (hl:TLe u t) {op:Op} {x:Option Nat×List Value×TypeId} (h:jv P u op=some x):jv P t op=some x:=by
 cases op<;>simp only [jv] at h ⊢<;>try exact h
 ·split at h
  ·rename_i hx;rw [qU hl hx];exact h
  ·cases h
 ·split at h
  ·rename_i e1 e2;rw [Jp hl e1,e2];exact h
  ·cases h
theorem looksX.le {P:Program} {ids:List (Nat×Nat)} {i:Nat} {o:Oper} {u t:Tr Value} (hl:TLe u t) {h:AH} {b:Nat} (k:looksX P ids i o u h b) (hrd:∀ {op:Op} {b:Nat},Xy u op=some b→Xy t op=some b):looksX P ids i o t h b:=by
 unfold looksX at k ⊢;split
 ·rename_i e;rw [e] at k;exact hrd k
 ·rename_i b' e
  rw [e] at k;obtain ⟨k1,x,c,ee,k2,k3⟩:=k;exact ⟨k1,x,c,ee,Z9 hl k2,k3⟩
theorem qbS {u t:Tr Value} (hl:TLe u t) {op:Op} {b:Nat} (h:Xy u op=some b):Xy t op=some b:=by
 cases op<;>simp only [Xy] at h ⊢<;>try exact h
 case convert s d x0 =>
  split at h
  ·rename_i hx;rw [qU hl hx];exact h
  ·cases h
 ·split at h
  ·rename_i hx;rw [qU hl hx];exact h
  ·cases h
 ·rename_i ty a lo hi mx
  cases mx with
  | some mx=>cases h
  | none =>
  simp only at h ⊢;split at h
  ·rename_i hx;rw [qU hl hx];exact h
  ·cases h
 ·split at h
  ·rename_i hx;rw [qU hl hx];exact h
  ·cases h
theorem qcB {u t:Tr Value} (hl:TLe u t) {op:Op} (h:vF u op=true):vF t op=true:=by
 cases op<;>simp only [vF] at h ⊢<;>try exact h
 split at h
 ·rename_i hx;rw [qU hl hx]
 ·cases h
theorem qeE {P:Program} {X:Extern} {run:zl} {t:Tr Value} {h h1 k:AH} {op:Op} {v:Value} (hr:vF t op=true) (hv:x9 P X run t h op=some (v,h1)):∃ u,zD P t k op=some (.val v u):=by
 cases op<;>simp only [vF] at hr<;>try (cases hr)
 rename_i s d x
 split at hr
 ·rename_i kk n hx
  have e1:∀ g:AH,zx P s d (.int kk n) g=none:=by intro g;unfold zx;split<;>first|rfl|(rename_i q;cases q)
  have e2:∀ g:AH,zM P s d (.int kk n) g=none:=by intro g;unfold zM;split<;>first|rfl|(rename_i q;cases q)
  have e:∀ g:AH,zD P t g (.convert s d x)=(match zF P s d (.int kk n) with|some v=>some (.val v g)|none=>none):=by
   intro g;simp only [zD,hx,e1,e2,qH];cases zF P s d (.int kk n)<;>rfl
  unfold x9 at hv;rw [e h] at hv;rw [e k];cases hw:zF P s d (.int kk n) with
  | none=>rw [hw] at hv;cases hv
  | some w=>rw [hw] at hv;cases hv;exact ⟨_,rfl⟩
 ·cases hr
section
variable {P:Program} {X:Extern} {inR:Bool} {sz:Nat} {L:Ks} {h:AH} {Q:KQ} {ops:Array Oper} {fl:List Nat} {ids:List (Nat×Nat)} {rd:List (Nat×Nat×Nat)} {bl:List (Option Nat)} {i:Nat} {o:Oper} {os:List Oper}
theorem StepX.le {u t:Tr Value} (hl:TLe u t) {h h':AH} (k:StepX P ops fl ids rd bl i o u h h'):StepX P ops fl ids rd bl i o t h h':=by
 refine ⟨?_,k.2⟩;have:=k.1;split at this
 ·rename_i b hb
  exact this.imp (jP hl) (fun k=>looksX.le hl k (qbS hl))
 ·exact ⟨this.1.imp (jP hl) (qcB hl),this.2⟩
 ·trivial
def agreeBl (i m:Nat):List (Nat×Nat×Nat)→List (Option Nat)→List (Option Nat)→Prop
 | [],[],[]=>True
 | (j,lo,_) :: rd,a :: s,b :: u=>(match Nat.blt j i || Nat.blt lo m with|true=>a=b|false=>True)∧agreeBl i m rd s u
 | _,_,_=>False
theorem agreeBl.refl (i m:Nat):∀ {rd:List (Nat×Nat×Nat)} {bl:List (Option Nat)},rd.length=bl.length→agreeBl i m rd bl bl
 | [],[],_=>trivial
 | (j,lo,hi) :: rd,a :: s,h=>⟨by split<;>trivial,agreeBl.refl i m (by simpa using h)⟩
 | [],_ :: _,h=>by cases h
 | _ :: _,[],h=>by cases h
theorem agreeBl.len {i m:Nat}:∀ {rd:List (Nat×Nat×Nat)} {a b:List (Option Nat)},agreeBl i m rd a b→rd.length=a.length∧rd.length=b.length
 | [],[],[],_=>⟨rfl,rfl⟩
 | (j,lo,hi) :: rd,a :: s,b :: u,h=>by have:=h.2.len;exact ⟨by rw [zC4,zC4,this.1],by rw [zC4,zC4,this.2]⟩
 | [],_ :: _,_,h=>by cases h
 | [],[],_ :: _,h=>by cases h
 | _ :: _,[],_,h=>by cases h
 | _ :: _,_ :: _,[],h=>by cases h
theorem agreeBl.trans {i m i' m':Nat} (hi:i≤i') (hm:m≤m'):∀ {rd:List (Nat×Nat×Nat)} {a b c:List (Option Nat)},agreeBl i m rd a b→agreeBl i' m' rd b c→agreeBl i m rd a c
 | [],[],[],[],_,_=>trivial
 | (j,lo,hi') :: rd,a :: s,b :: u,c :: v,h,g=>by
  refine ⟨?_,h.2.trans hi hm g.2⟩;have h1:=h.1;have g1:=g.1;split
  ·rename_i q
   rw [q] at h1;have q':(Nat.blt j i' || Nat.blt lo m')=true:=by
    rw [zG9,Nat.blt_eq,Nat.blt_eq] at q ⊢;omega
   rw [q'] at g1;exact h1.trans g1
  ·trivial
 | [],_ :: _,_,_,h,_=>by cases h
 | [],[],_ :: _,_,h,_=>by cases h
 | _ :: _,[],_,_,h,_=>by cases h
 | _ :: _,_ :: _,[],_,h,_=>by cases h
 | [],[],[],_ :: _,_,g=>by cases g
 | _ :: _,_ :: _,_ :: _,[],_,g=>by cases g
theorem agreeBl.at_ {i m k:Nat} (hk:k<i):∀ {rd:List (Nat×Nat×Nat)} {a b:List (Option Nat)},agreeBl i m rd a b→QW rd a k=QW rd b k
 | [],[],[],_=>rfl
 | (j,lo,hi) :: rd,a :: s,b :: u,h=>by
  simp only [QW];split
  ·rename_i q
   have:=zA6 q;subst this;have h1:=h.1;rw [show (Nat.blt j i || Nat.blt lo m)=true by rw [zG9,Nat.blt_eq];exact .inl hk] at h1;rw [h1]
  ·exact h.2.at_ hk
 | [],_ :: _,_,h=>by cases h
 | [],[],_ :: _,h=>by cases h
 | _ :: _,[],_,h=>by cases h
 | _ :: _,_ :: _,[],h=>by cases h
theorem agreeBl.keeps {i m k:Nat} (hk:k<m) {h h':AH}:∀ {rd:List (Nat×Nat×Nat)} {a b:List (Option Nat)},agreeBl i m rd a b→keepsX rd a k h h'→keepsX rd b k h h'
 | [],[],[],_,_=>trivial
 | (j,lo,hi) :: rd,a :: s,b :: u,g,q=>by
  have g1:=g.1;by_cases c:lo<m
  ·rw [show (Nat.blt j i || Nat.blt lo m)=true by rw [zG9,Nat.blt_eq,Nat.blt_eq];exact .inr c] at g1;simp only at g1;subst g1;cases a with
   | none=>exact g.2.keeps hk q
   | some x=>exact ⟨q.1,g.2.keeps hk q.2⟩
  ·have hq:keepsX rd s k h h':=by cases a with
    | none=>exact q
    | some x=>exact q.2
   cases b with
   | none=>exact g.2.keeps hk hq
   | some x=>exact ⟨fun e=>absurd (zB6 ((zA8 _ _).mp e).1) (by omega),g.2.keeps hk hq⟩
 | [],_ :: _,_,h,_=>by cases h
 | [],[],_ :: _,h,_=>by cases h
 | _ :: _,[],_,h,_=>by cases h
 | _ :: _,_ :: _,[],h,_=>by cases h
def KOX (P:Program) (X:Extern) (sz:Nat) (ops:Array Oper) (fl:List Nat) (ids:List (Nat×Nat)) (rd:List (Nat×Nat×Nat)) (bl:List (Option Nat)) (i:Nat) (os:List Oper) (L:Ks) (h:AH) (R:Ks→AH→Prop):Prop :=
 rd.length=bl.length→∀ t,Kn t L→∃ bl',agreeBl i (Z5 ops fl i) rd bl bl'∧WOX P X sz ops fl ids rd bl' i os t h (fun t' h'=>∃ L',Kn t' L'∧R L' h')
theorem jw {R:Ks→AH→Prop} (hq:R L h):KOX P X sz ops fl ids rd bl i [] L h R:=fun hn t hk=>⟨bl,agreeBl.refl _ _ hn,0,[],t,h,rfl,fun k o ho=>by simp at ho,rfl,L,hk,hq⟩
theorem Vg (k:Nat):Z5 ops fl k≤Z5 ops fl (k+1)∧(qF ops fl k=true→Z5 ops fl k<Z5 ops fl (k+1)):=by
 unfold Z5;rw [List.range_succ,zD1,zB2];cases hk:qF ops fl k<;>simp [zD8,hk]
theorem StepX.agree {bl':List (Option Nat)} (a:agreeBl (i+1) (Z5 ops fl (i+1)) rd bl bl') {t:Tr Value} {h h':AH} (k:StepX P ops fl ids rd bl i o t h h'):StepX P ops fl ids rd bl' i o t h h':=by
 refine ⟨?_,?_⟩
 ·rw [← a.at_ (zG0 i)];exact k.1
 ·have k2:=k.2;cases hc:qF ops fl i with
  | true =>
   rw [hc] at k2;exact a.keeps ((Vg (ops:=ops) (fl:=fl) i).2 hc) k2
  | false=>rw [hc] at k2;exact k2
theorem qh {R:Ks→AH→Prop} (w:KO P X sz ops [o] L h (fun L' h'=>StepX P ops fl ids rd bl i o L.tree h h'∧KOX P X sz ops fl ids rd bl (i+1) os L' h' R)) (hid:jO ids i=none:=by exact rfl):KOX P X sz ops fl ids rd bl i (o :: os) L h R:=fun hn t hk=>by
 obtain ⟨n,t1,h1,e1,L',k1,sx,w2⟩:=w t hk;obtain ⟨bl',ag,n2,l,t2,h2,e2,g2,z2,L2,k2,q2⟩:=w2 hn t1 k1;have hx:=(sx.le hk.tle).agree ag;refine ⟨bl',(agreeBl.refl _ _ hn).trans (Nat.le_succ _) (Vg (ops:=ops) (fl:=fl) i).1 ag,?_⟩;have M:=Y0 (P:=P) (X:=X) (Zx (P:=P) (X:=X) (Nat.le_max_right n n2)) (sz:=sz) (ops:=ops) (ids:=ids) (pl:=false) os (i+1) t1 h1 _ e2;have e3:=ZT (P:=P) (X:=X) (Zx (P:=P) (X:=X) (Nat.le_max_left n n2)) (sz:=sz) (ops:=ops) [o] t h _ e1;have key:∀ (go:Bool) (v:Value),(go=true→qo ops t o.guard=some true)→∀ k o',(o :: os)[k]? = some o'→∃ s,((⟨t,h,go,v⟩:zt) :: l)[k]? = some s∧(s.go=true→qo ops s.t o'.guard=some true)∧StepX P ops fl ids rd bl' (i+k) o' s.t s.h (hpAt ((⟨t,h,go,v⟩:zt) :: l) h2 (k+1)):=by
  intro go v hgo k o' ho;cases k with
  | zero =>
   simp only [List.getElem?_cons_zero,Option.some.injEq] at ho;subst ho;refine ⟨_,rfl,hgo,?_⟩;have:hpAt ((⟨t,h,go,v⟩:zt) :: l) h2 (0+1)=h1:=by rw [← z2];simp [hpAt]
   rw [this];exact hx
  | succ k =>
   simp only [zH5] at ho;obtain ⟨s,s1,s2,s3⟩:=g2 k o' ho;refine ⟨s,by simpa using s1,s2,?_⟩;have:hpAt ((⟨t,h,go,v⟩:zt) :: l) h2 (k+1+1)=hpAt l h2 (k+1):=by simp [hpAt]
   rw [this,show i+(k+1)=i+1+k by omega];exact s3
 simp only [JZ] at e3;split at e3
 ·rename_i hg
  split at e3
  ·rename_i v h3 ho
   split at e3
   ·rename_i t3 hp
    cases e3
    exact ⟨max n n2,⟨t,h,true,v⟩ :: l,t2,h2,by simp only [ZQ,hg,stepD,hid,ho,hp,M,Xf],key true v (fun _=>hg),rfl,L2,k2,q2⟩
   ·cases e3
  ·cases e3
 ·rename_i hg
  split at e3
  ·rename_i t3 hp
   cases e3
   exact ⟨max n n2,⟨t,h,false,.tuple #[]⟩ :: l,t2,h2,by simp only [ZQ,hg,hp,M,Xf],key false _ (fun q=>by cases q),rfl,L2,k2,q2⟩
  ·cases e3
 ·cases e3
theorem qgw {R:Ks→AH→Prop} {b:Nat} {L':Ks} {x:Option Nat} {c:List Value} {e:TypeId} (hi:jO ids i=some b) (hf:jv P L.tree o.op=some (x,c,e)) (hb:h.get b=some (.cells c e none false)) (hbl:QW rd bl i=some (some b)) (hc:qF ops fl i=false)
 (hg:qo ops L.tree o.guard=some true) (hp:qE sz L o.dst (Qu x b)=some L') (w:KOX P X sz ops fl ids rd bl (i+1) os L' h R):KOX P X sz ops fl ids rd bl i (o :: os) L h R:=fun hn t hk=>by
 obtain ⟨t1,e1,k1⟩:=Xn hk hp;obtain ⟨bl',ag,n2,l,t2,h2,e2,g2,z2,q2⟩:=w hn t1 k1;rw [ag.at_ (zG0 i)] at hbl;refine ⟨bl',(agreeBl.refl _ _ hn).trans (Nat.le_succ _) (Vg (ops:=ops) (fl:=fl) i).1 ag,?_⟩;have hf':=Z9 hk.tle hf;have hg':=jP hk.tle hg;refine ⟨n2,⟨t,h,true,Qu x b⟩ :: l,t2,h2,by simp only [ZQ,hg',stepD,hi,hf',e1,e2,Xf],?_,rfl,q2⟩;intro k o' ho;cases k with
 | zero =>
  simp only [List.getElem?_cons_zero,Option.some.injEq] at ho;subst ho;refine ⟨_,rfl,fun _=>hg',?_⟩;have:hpAt ((⟨t,h,true,Qu x b⟩:zt) :: l) h2 (0+1)=h:=by rw [← z2];simp [hpAt]
  rw [this,Nat.add_zero];refine ⟨?_,?_⟩
  ·rw [hbl];refine .inr ?_;unfold looksX;rw [hi];exact ⟨rfl,x,c,e,hf',hb⟩
  ·rw [hc]
 | succ k =>
  simp only [zH5] at ho;obtain ⟨s,s1,s2,s3⟩:=g2 k o' ho;refine ⟨s,by simpa using s1,s2,?_⟩;have:hpAt ((⟨t,h,true,Qu x b⟩:zt) :: l) h2 (k+1+1)=hpAt l h2 (k+1):=by simp [hpAt]
  rw [this,show i+(k+1)=i+1+k by omega];exact s3
theorem qb3 {run:zl} {t:Tr Value} {h h1:AH} {op:Op} {b:Nat} {v:Value} (hr:Xy t op=some b) (hv:x9 P X run t h op=some (v,h1)):∃ u,zD P t h op=some (.val v u):=by
 unfold x9 at hv;have key:∀ o':Option Value,zD P t h op=qH o' h→∃ u,zD P t h op=some (.val v u):=by
  intro o' ho;rw [ho] at hv ⊢;cases o' with
  | none=>cases hv
  | some y=>cases hv;exact ⟨_,rfl⟩
 cases op<;>simp only [Xy] at hr<;>try (cases hr)
 case convert s d x0 =>
  split at hr
  ·rename_i x hx
   cases h1:zF P s d x with
   | some y =>
    have e:zD P t h (.convert s d x0)=some (.val y h):=by simp only [zD,hx,h1]
    rw [e] at hv;cases hv;exact ⟨_,e⟩
   | none =>
    cases h2:zx P s d x h with
    | some y =>
     have e:zD P t h (.convert s d x0)=some (.val y h):=by simp only [zD,hx,h1,h2]
     rw [e] at hv;cases hv;exact ⟨_,e⟩
    | none=>exact key (zM P s d x h) (by simp only [zD,hx,h1,h2])
  ·cases hr
 ·rename_i ty a
  split at hr
  ·rename_i x hx
   exact key (ZE P ty x h) (by simp only [zD,hx])
  ·cases hr
 ·rename_i ty a lo hi mx
  cases mx with
  | some mx=>cases hr
  | none =>
  simp only at hr;split at hr
  ·rename_i x hx
   cases h1:zH t lo with
   | none=>simp only [zD,hx,h1] at hv;cases hv
   | some l =>
    cases h2:zH t hi with
    | none=>simp only [zD,hx,h1,h2] at hv;cases hv
    | some r =>
     have h3:zH t none=some none:=rfl;exact key (zh P ty x l r none h) (by simp only [zD,hx,h1,h2,h3,zB])
  ·cases hr
 ·rename_i ty a ky ok
  split at hr
  ·rename_i x hx
   cases h1:zI t ky with
   | none=>simp only [zD,hx,h1] at hv;cases hv
   | some l=>exact key (Qa P ty x l ok h) (by simp only [zD,hx,h1])
  ·cases hr
theorem Jz {p:Nat→Bool}:∀ (n m i:Nat),((List.range n).filter p)[m]? = some i→((List.range i).filter p).length=m∧p i=true∧i<n
 | 0,m,i,h=>by simp at h
 | n+1,m,i,h=>by
  rw [List.range_succ,zD1] at h;rw [zF0] at h;split at h
  ·obtain ⟨a,b,c⟩:=Jz n m i h;exact ⟨a,b,by omega⟩
  ·rename_i hm
   cases hp:p n with
   | false=>simp [hp] at h
   | true =>
    simp only [zD8,hp,if_true,List.filter_nil] at h;cases hd:m - ((List.range n).filter p).length with
    | zero =>
     rw [hd] at h;simp only [List.getElem?_cons_zero,Option.some.injEq] at h;subst h;exact ⟨by omega,hp,by omega⟩
    | succ k=>rw [hd] at h;simp at h
theorem Vf (k:Nat):Z5 ops fl (k+1)=Z5 ops fl k+(if qF ops fl k then 1 else 0):=by
 unfold Z5;rw [List.range_succ,zD1,zB2];cases hk:qF ops fl k<;>simp [zD8,hk]
theorem VH {t:Tr Value} {Q:Tr Value→AH→Prop} (hd:xE ops fl rd=true) (hid:∀ i b,jO ids i=some b→Y9 fl i=true) (hlen:rd.length=bl.length) (w:WOX P X sz ops fl ids rd bl 0 ops.toList t h Q) :
 ∃ n t' h',JY P X (exec P X n) sz ops (masks ops.toList []) fl ids t h=some (t',h')∧Q t' h':=by
 obtain ⟨n,l,t',h',hl,hg,hz,hq⟩:=w;refine ⟨n,_,_,?_,hq⟩;unfold xE at hd;rw [zA8,zA8,zC8] at hd;obtain ⟨⟨hp,hf⟩,hs⟩:=hd;obtain ⟨q1,q2,q3,q4⟩:=Xm ops.toList 0 t h l t' h' hl;have hbl:∀ (rd:List (Nat×Nat×Nat)) (bl:List (Option Nat)) (i lo hi:Nat),rd.length=bl.length→Vz rd i=some (lo,hi)→∃ b,QW rd bl i=some b:=by
  intro rd;induction rd with
  | nil=>intro bl i lo hi _ hw;cases hw
  | cons a rd ih =>
   intro bl i lo hi hn hw;obtain ⟨j,a1,a2⟩:=a;cases bl with
   | nil=>simp at hn
   | cons b bl =>
    simp only [Vz] at hw;simp only [QW];split
    ·exact ⟨b,rfl⟩
    ·rename_i e
     rw [e] at hw;exact ih bl i lo hi (by simpa using hn) hw
 have hopd:JY P X (exec P X n) sz ops (masks ops.toList []) fl ids t h=some (t',h'):=by
  unfold JY;rw [hl];simp only;split
  ·rfl
  ·rw [if_pos];intro i hi hc o s ho hs' hgo hcalm m k hm hfar;have h1:=hs i (zE3.2 hi);rw [hc,Bool.false_or] at h1;cases hw:Vz rd i with
   | none =>
    rw [hw] at h1;simp only [ho,zA8,zG3] at h1;have hn:jO ids i=none:=by
     cases hq:jO ids i with
     | none=>rfl
     | some b=>rw [hid i b hq] at h1;cases h1.1
    have h2:=h1.2;unfold XU at hcalm h2;simp only [hn,jO] at hcalm h2;rw [h2] at hcalm;cases hcalm
   | some lh =>
    obtain ⟨lo,hi'⟩:=lh;rw [hw] at h1;simp only [zA8,zC8,zG9] at h1;obtain ⟨⟨a1,a2⟩,a3⟩:=h1;have a1:=zB6 a1;have a2:=zB6 a2;obtain ⟨ob,hb⟩:=hbl rd bl i lo hi' hlen hw;obtain ⟨s2,e2,hgs,sx⟩:=hg i o (by rw [zC1];exact ho);rw [hs'] at e2;cases e2
    obtain ⟨s3,e3,sf⟩:=q4 i o (by rw [zC1];exact ho);rw [hs'] at e3;cases e3
    have hv:=sf.2.2.1 hgo;cases ob with
    | none =>
     have:=sx.1;rw [zG1,hb] at this;obtain ⟨this,hn⟩:=this;simp only [stepD,zG1,hn] at hv;unfold OkAtP;rw [hn];rcases this with q|q
     ·rw [hgs hgo] at q;cases q
     ·exact qeE q hv
    | some b =>
    have agree:∀ q p,p≤q→q≤ops.size→lo≤Z5 ops fl p→Z5 ops fl q≤hi'→(hpAt l h' q).get b=(hpAt l h' p).get b:=by
     intro q;induction q with
     | zero=>intro p hp _ _ _;rw [Nat.le_zero.1 hp]
     | succ q ih =>
      intro p hp hqs hlo hhi;rcases Nat.eq_or_lt_of_le hp with e|e
      ·rw [e]
      ·have hc1:=Vf (ops:=ops) (fl:=fl) q;have hmono:∀ a c,a≤c→Z5 ops fl a≤Z5 ops fl c:=by
        intro a c hac;induction hac with
        | refl=>exact zA3 _
        | step _ ih2=>rw [Vf];omega
       have hpq:=hmono p q (by omega);rw [← ih p (by omega) (by omega) hlo (by omega)];obtain ⟨s2,e2,_,sx⟩:=hg q ops[q] (by rw [zC1];exact zE2 (by omega));have hsh:hpAt l h' q=s2.h:=by unfold hpAt;rw [e2]
       rw [hsh];have sx2:=sx.2;rw [zG1] at sx2;split at sx2
       ·rename_i hch
        rw [hch,if_pos rfl] at hc1;exact sx2.get hw hb (by omega) (by omega)
       ·rw [sx2]
    have hpos:∃ p,p≤ops.size∧Z5 ops fl p=m∧k=hpAt l h' p:=by
     cases m with
     | zero =>
      simp only [List.getElem?_cons_zero,Option.some.injEq] at hm;exact ⟨0,by omega,by simp [Z5],by rw [← hm,q2]⟩
     | succ m =>
      simp only [zH5,zH8] at hm;cases hj:((List.range ops.size).filter (qF ops fl))[m]? with
      | none=>rw [hj] at hm;cases hm
      | some j =>
       rw [hj] at hm;simp only [Option.map_some,Option.some.injEq] at hm;obtain ⟨c1,c2,c3⟩:=Jz _ _ _ hj;refine ⟨j+1,by omega,?_,hm.symm⟩;rw [Vf,c2,if_pos rfl];unfold Z5;omega
    obtain ⟨p,p1,p2,rfl⟩:=hpos;have hin:lo≤m∧m≤hi':=by
     have hml:m<((List.range ops.size).filter (qF ops fl)).length+1:=by
      have:=(zD6.1 hm).1;simpa using this
     have:=a3 m (zE3.2 hml);rw [hfar] at this;rcases this with q|q
     ·cases q
     ·exact ⟨zB6 q.1,zB6 q.2⟩
    have hr:looksX P ids i o s.t s.h b:=by
     have:=sx.1;rw [zG1,hb] at this;rcases this with q|q
     ·rw [hgs hgo] at q;cases q
     ·exact q
    have hsh:hpAt l h' i=s.h:=by unfold hpAt;rw [hs']
    have same:(hpAt l h' p).get b=s.h.get b:=by
     rw [← hsh];rcases Nat.le_total p i with e|e
     ·exact (agree i p e (by omega) (by omega) (by omega)).symm
     ·exact agree p i e p1 (by omega) (by omega)
    unfold looksX at hr;unfold OkAtP;split at hr
    ·rename_i hn
     rw [hn];simp only [stepD,zG1,hn] at hv;show ∃ u,zD P s.t (hpAt l h' p) o.op=some (.val s.v u)
     obtain ⟨u,hu⟩:=qb3 hr hv;exact qcT hr same hu
    ·rename_i b' hn
     rw [hn];obtain ⟨rfl,x,c,e,r1,r2⟩:=hr;exact ⟨x,c,e,r1,by rw [same,r2]⟩
 exact hopd
theorem jm {id:Nat} (rd:List (Nat×Nat×Nat)) (bl:List (Option Nat)) (w:KOX P X sz ops [] [] rd bl 0 ops.toList L h (Q .norm)) (hn:rd.length=bl.length:=by exact rfl) (hd:xE ops [] rd=true:=by decide +kernel):K P X inR sz (.region id ops true) L h Q:=fun t hk=>by
 obtain ⟨bl',ag,w'⟩:=w hn t hk;obtain ⟨n,t',h',e,L',k,q⟩:=VH hd (fun i b q=>by cases q) ag.len.2 w';unfold xE at hd;rw [zA8,zA8] at hd;obtain ⟨⟨hp,hf⟩,hs⟩:=hd;have hf:J9 ops (masks ops.toList [])=[]:=by simpa using hf
 refine ⟨n+1,_,_,_,?_,L',k,q⟩;rw [jU];simp only [zg];have:VS P X (exec P X n) sz ops t h=some (t',h'):=by
  unfold VS;simp only [hf,hp];exact e
 rw [this]
def HintOk (P:Program) (ops:Array Oper) (sz:Nat) (L:Ks) (h:AH) (j:Nat) (c:List Value) (e:TypeId):Prop:=∀ t,Kn t L→Jk P ops sz h t j = .cells c e none false
theorem HintOk.direct {j:Nat} {o:Oper} {x:Option Nat} {c:List Value} {e:TypeId} (ho:ops[j]? = some o:=by exact rfl) (hf:jv P L.tree o.op=some (x,c,e):=by exact rfl) (hp:Wi ops (masks ops.toList []) j=[]:=by decide +kernel):HintOk P ops sz L h j c e:=fun t hk=>by
 unfold Jk;rw [ho,hp];simp only [List.foldl_nil,Z9 hk.tle hf]
theorem HintOk.one {j k:Nat} {o ok:Oper} {x:Option Nat} {c:List Value} {e:TypeId} {v:Value} {h':AH} {L':Ks} (hp:Wi ops (masks ops.toList []) j=[k]) (ho:ops[j]? = some o) (hok:ops[k]? = some ok) (hg:qo ops L.tree ok.guard=some true) (ha:zD P L.tree h ok.op=some (.val v h')) (hd:qE sz L ok.dst v=some L')
 (hf:jv P L'.tree o.op=some (x,c,e)):HintOk P ops sz L h j c e:=fun t hk=>by
 obtain ⟨t1,e1,k1⟩:=Xn hk hd;unfold Jk;rw [ho,hp];have:yI P ops sz h t k=t1:=by
  unfold yI;simp only [hok,jP hk.tle hg,xM hk.tle ha,e1]
 simp only [List.foldl_cons,List.foldl_nil,this,Z9 k1.tle hf]
def hintsK (P:Program) (ops:Array Oper) (sz:Nat) (L:Ks) (h:AH):List Nat→List jV→Prop
 | [],[]=>True
 | j :: r,ob :: s=>(∃ c e,HintOk P ops sz L h j c e∧ob = .cells c e none false)∧hintsK P ops sz L h r s
 | _,_=>False
theorem hintsK.eq {t:Tr Value} (hk:Kn t L):∀ {fl:List Nat} {objs:List jV},hintsK P ops sz L h fl objs→fl.map (Jk P ops sz h t)=objs
 | [],[],_=>rfl
 | j :: r,ob :: s,⟨⟨c,e,h1,h2⟩,h4⟩=>by rw [List.map_cons,hintsK.eq hk h4,h2,h1 t hk]
 | [],_ :: _,h=>by cases h
 | _ :: _,[],h=>by cases h
theorem VI:∀ (l:List Nat) (n i b:Nat),jO (numbered n l) i=some b→Y9 l i=true
 | [],n,i,b,h=>by cases h
 | j :: r,n,i,b,h=>by
  simp only [numbered,jO] at h;unfold Y9;rw [List.any_cons,zG9];split at h
  ·rename_i hj
   have:=zA6 hj;subst this;exact .inl (by simp)
  ·exact .inr (VI r (n+1) i b h)
theorem qeb {id j:Nat} {r:List Nat} (objs:List jV) (rd:List (Nat×Nat×Nat)) (bl:List (Option Nat)) (ho:hintsK P ops sz L h (j :: r) objs) (w:KOX P X sz ops (j :: r) (numbered h.next (j :: r)) rd bl 0 ops.toList L (objs.foldl AH.add h) (Q .norm)) (hn:rd.length=bl.length:=by exact rfl)
 (hd:xE ops (j :: r) rd=true:=by decide +kernel):K P X inR sz (.region id ops true) L h Q:=fun t hk=>by
 obtain ⟨bl',ag,w'⟩:=w hn t hk;obtain ⟨n,t',h',e,L',k,q⟩:=VH hd (fun i b q=>VI _ _ _ _ q) ag.len.2 w';unfold xE at hd;rw [zA8,zA8] at hd;obtain ⟨⟨hp,hf⟩,hs⟩:=hd;have hf:J9 ops (masks ops.toList [])=j :: r:=by simpa using hf
 refine ⟨n+1,_,_,_,?_,L',k,q⟩;rw [jU];simp only [zg];have:VS P X (exec P X n) sz ops t h=some (t',h'):=by
  unfold VS;simp only [hf,hp,ho.eq hk];exact e
 rw [this]
end
end Go.Proofs.Xx
namespace Go.Proofs.Xx
open Go
def Xr:Value→Nat
 | .slice (some ⟨b,_,_⟩) _ _=>b
 | _=>0
theorem QG (v:Value) (z k off:Nat):jf (Vd v z k off)=Xr v:=by
 unfold Vd;split
 ·rfl
 ·unfold Xr;split
  ·rename_i h;exact absurd rfl (h _ _ _ _ _)
  ·rfl
section
variable {h0 h h':AH} {rs rs1:List Rs} {b:Nat} {c:List Value} {e:TypeId} {f:Rs→List Rs}
theorem Hs.gB (S:Hs h0 h rs) [i:HasB rs b c e f]:h.get b=some (.cells c e none false):=by
 obtain ⟨fp,h1,h2⟩:=i.at_.ok S.sep;exact h1.1
theorem Hs.bB (S:Hs h0 h rs) [i:HasB rs b c e f]:b<h.next:=by
 obtain ⟨fp,h1,h2⟩:=i.at_.ok S.sep;exact (h2 b h1.2).2.1
theorem Rd.bS {v:Value} {z n:Nat} {c:List Value} (w:WfH h) (r:Rd h v z n c) (hn:0<n):Xr v<h.next:=by
 rcases r with ⟨rfl,rfl,rfl⟩|⟨b,o,cap,cc,e,s,q,rfl,h1,h2⟩
 ·omega
 ·exact w.lt h1
theorem Hs.bR {v:Value} {α:Type} {z:Nat} {enc:α→List Value} {l:List α} (S:Hs h0 h rs) [i:HasR rs v α z enc l] (hl:0<l.length):Xr v<h.next:=(i.rd S).bS S.wf hl
theorem Hs.bX {v:Value} {α:Type} {z:Nat} {enc:α→List Value} {l:List α} (S:Hs h0 h rs) (r:zo h0 v z enc l) (w:WfH h0) (hl:0<l.length):Xr v<h.next:=zE4 (r.bS w hl) S.ext.next
end
end Go.Proofs.Xx
namespace Go.Proofs.Xx
open Go
section
variable {P:Program} {X:Extern} {sz:Nat} {L:Ks} {h h0:AH} {rs:List Rs} {ops:Array Oper} {os:List Oper} {o:Oper} {R:Ks→AH→Prop}
theorem gQ {α:Type} {ty:TypeId} {v:Value} {z a b:Nat} {enc:α→List Value} {l:List α} {vlo vhi:Option Value} (hr:zo h v z enc l) (hc:zV v) (hz:∀ x,(enc x).length=z) (hu:Qx P ty=some z)
 (h1:qR vlo 0=some a) (h2:qR vhi l.length=some b) (hab:a≤b∧b≤l.length):∃ v',zh P ty v vlo vhi none h=some v'∧zo h v' z enc ((l.drop a).take (b - a))∧zV v':=by
 have hue:∃ e',P.underlying ty=some (.slice e')∧zq P e'=some z:=by
  unfold Qx at hu;split at hu
  ·exact ⟨_,by assumption,hu⟩
  ·cases hu
 obtain ⟨e',hu1,hu2⟩:=hue;have hlen:((l.drop a).take (b - a)).length=b - a:=by simp;omega
 have hfl:∀ m:List α,(m.flatMap enc).length=m.length*z:=qO hz;unfold zo at hr ⊢;rw [hlen];rcases hr with ⟨rfl,g1,g2⟩|⟨b',o',cap,cc,e,s,q,rfl,g1,g2⟩
 ·rw [g1] at hab h2;obtain rfl:b=0:=by omega
  obtain rfl:a=0:=by omega
  refine ⟨.slice none 0 0,?_,.inl ⟨rfl,rfl,by simp⟩,zA3 _⟩;simp only [zh,hu1,hu2,h1,h2]
 ·have hcap:l.length≤cap:=hc;have t1:Nat.ble a b=true:=zB3 hab.1;have t2:Nat.ble b cap=true:=zB3 (by omega);have sub:=jG (i:=a*z) (m:=(b - a)*z) g2 (by rw [← zE1];exact zD3 z (by omega));have hd:(l.flatMap enc).drop (a*z)=(l.drop a).flatMap enc:=by
   have e:l.flatMap enc=(l.take a).flatMap enc ++ (l.drop a).flatMap enc:=by rw [← List.flatMap_append,zH1]
   rw [e,List.drop_left' (by rw [hfl,zA9,zE5 (by omega)])]
  have ht:((l.drop a).flatMap enc).take ((b - a)*z)=((l.drop a).take (b - a)).flatMap enc:=by
   have e:(l.drop a).flatMap enc=((l.drop a).take (b - a)).flatMap enc ++ ((l.drop a).drop (b - a)).flatMap enc:=by rw [← List.flatMap_append,zH1]
   rw [e,List.take_left' (by rw [hfl,hlen])]
  rw [hd,ht] at sub;cases hk:(s.isNone && Nat.beq a cap) with
  | false =>
   refine ⟨.slice (some ⟨b',o'+a*z,none⟩) (b - a) (cap - a),?_,.inr ⟨b',o'+a*z,cap - a,cc,e,s,q,rfl,g1,sub⟩,by show b - a≤cap - a;omega⟩;simp only [zh,hu1,hu2,g1,h1,h2,t1,t2,hk,zF9]
  | true =>
   have hac:a=cap:=by rw [zA8] at hk;exact zA6 hk.2
   have hba:b - a=0:=by omega
   refine ⟨.slice (some ⟨b',o',none⟩) (b - a) (cap - a),?_,.inr ⟨b',o',cap - a,cc,e,s,q,rfl,g1,?_⟩,by show b - a≤cap - a;omega⟩
   ·simp only [zh,hu1,hu2,g1,h1,h2,t1,t2,hk,zF9]
   ·rw [hba];simp [qX]
theorem su {α:Type} {x:Operand} {lo hi:Option Operand} {vlo vhi:Option Value} {ty:TypeId} {v:Value} {z:Nat} {enc:α→List Value} {l:List α} {d:Tmp} (a b:Nat) (hr:zo h v z enc l) (hc:zV v)
 (w:∀ v',zo h v' z enc ((l.drop a).take (b - a))→zV v'→KO P X sz ops os (L.put d v') h R) (ho:o.op = .slice ty x lo hi none:=by exact rfl) (hx:kA L x=some v:=by exact rfl) (hg:qo ops L.tree o.guard=some true:=by exact rfl)
 (hlo:zH L.tree lo=some vlo:=by exact rfl) (hhi:zH L.tree hi=some vhi:=by exact rfl) (hz:∀ x,(enc x).length=z:=by intro _;rfl) (hu:Qx P ty=some z:=by exact rfl)
 (h1:qR vlo 0=some a:=by exact rfl) (h2:qR vhi l.length=some b:=by exact rfl) (hab:a≤b∧b≤l.length:=by first|omega|grind) (hdst:o.dst=some d:=by exact rfl) (hds:Nat.blt d sz=true:=by exact rfl):KO P X sz ops (o :: os) L h R:=by
 obtain ⟨v',e1,e2,e3⟩:=gQ hr hc hz hu h1 h2 hab;refine qW (v:=v') (h':=h) hg ?_ (by simp only [qE,hdst,hds]) (w v' e2 e3);rw [ho];simp only [zD,qB hx,hlo,hhi,show zH L.tree none=some none from rfl,e1,qH,zB]
theorem lH {L':Ks} {x:Operand} {ty e:TypeId} {b k:Nat} {c:List Value} {v:Value} {q:Option Nat} {r:Bool} (S:Hs h0 h rs) (w:KO P X sz ops os L' h R) (ho:o.op = .load ty x:=by exact rfl) (hx:kA L x=some (.pointer (some ⟨b,k,none⟩)):=by exact rfl)
 (hb:h0.get b=some (.cells c e q r):=by assumption) (wf:WfH h0:=by assumption) (hg:qo ops L.tree o.guard=some true:=by exact rfl) (hv:ZX P ty c k=some v:=by exact rfl) (hp:qE sz L o.dst v=some L':=by exact rfl):KO P X sz ops (o :: os) L h R :=
 kT ho hg hx (by rw [ZC (S.ext.get wf hb)];exact hv) hp w
end
end Go.Proofs.Xx
namespace Go.Proofs.Xx
open Go
section
variable {P:Program} {X:Extern} {inR:Bool} {sz:Nat} {L:Ks} {h h0:AH} {rs:List Rs} {ops:Array Oper} {os:List Oper} {o:Oper} {R:Ks→AH→Prop} {Q:KQ}
theorem xZ {id j1:Nat} {c1:List Value} {e1:TypeId} {rd:List (Nat×Nat×Nat)} (bl:Nat→List (Option Nat)) (S:Hs h0 h rs) (ho1:HintOk P ops sz L h j1 c1 e1)
 (w:∀ b1 h',Hs h0 h' (.blk b1 c1 e1 :: rs)→KOX P X sz ops [j1] [(j1,b1)] rd (bl b1) 0 ops.toList L h' (Q .norm)) (hd:xE ops [j1] rd=true:=by decide +kernel) (hn:∀ b1,rd.length=(bl b1).length:=by intro _;rfl):K P X inR sz (.region id ops true) L h Q :=
 qeb (j:=j1) (r:=[]) [.cells c1 e1 none false] rd (bl h.next) ⟨⟨c1,e1,ho1,rfl⟩,trivial⟩ (w h.next _ (S.add c1 e1)) (hn _) hd
theorem fl {fls:List Nat} {ids:List (Nat×Nat)} {rd:List (Nat×Nat×Nat)} {bl:List (Option Nat)} {i b:Nat} {L':Ks} {x:Option Nat} {c:List Value} {e:TypeId} (S:Hs h0 h rs) (hi:jO ids i=some b) (hf:jv P L.tree o.op=some (x,c,e)) (hb:h.get b=some (.cells c e none false)) (w:KOX P X sz ops fls ids rd bl (i+1) os L' h R)
 (hbl:QW rd bl i=some (some b):=by exact rfl) (hc:qF ops fls i=false:=by decide +kernel) (hg:qo ops L.tree o.guard=some true:=by exact rfl) (hp:qE sz L o.dst (Qu x b)=some L':=by exact rfl):KOX P X sz ops fls ids rd bl i (o :: os) L h R:=qgw hi hf hb hbl hc hg hp w
theorem Hs.asSl {b z:Nat} {c:List Value} {e:TypeId} {α:Type} (enc:α→List Value) (l:List α) (S:Hs h0 h (.blk b c e :: rs)) (hc:c=l.flatMap enc:=by rfl) (hz:c.length=l.length*z:=by rfl):Hs h0 h (.sl (.slice (some ⟨b,0,none⟩) l.length l.length) e z enc l :: rs) :=
 S.same .here fun fp k=>.inr ⟨b,0,c,none,l.length,rfl,k.1,k.2,by rw [← hz,← hc,zT],⟨zA3 _,by omega⟩,.inl rfl⟩
theorem th {α:Type} {x hi:Operand} {ty e:TypeId} {v vh:Value} {z:Nat} {enc:α→List Value} {l:List α} {f:Rs→List Rs} {dd:List Rs} {d:Tmp} (b:Nat) (S:Hs h0 h rs) (ho:o.op = .slice ty x none (some hi) none) (hx:kA L x=some v) [i:HasS rs v α e z enc l f dd]
 (w:∀ v',Hs h0 h (f (.rd v' z enc (l.take b)))→KO P X sz ops os (L.put d v') h R) (hg:qo ops L.tree o.guard=some true:=by exact rfl) (hhi:kA L hi=some vh:=by exact rfl) (hbo:qR (some vh) l.length=some b:=by exact rfl) (hb:b≤l.length:=by first|omega|grind)
 (hz:∀ x,(enc x).length=z:=by intro _;rfl) (hu:Qx P ty=some z:=by exact rfl) (hdst:o.dst=some d:=by exact rfl) (hds:Nat.blt d sz=true:=by exact rfl):KO P X sz ops (o :: os) L h R:=by
 obtain ⟨fp,k1,k2,-⟩:=(i.ut (.sl v e z enc l)).ok (h':=h) S.ext.next (zA3 _) S.sep
 have hue:∃ e',P.underlying ty=some (.slice e')∧zq P e'=some z:=by
  unfold Qx at hu;split at hu
  ·exact ⟨_,by assumption,hu⟩
  ·cases hu
 obtain ⟨e',hu1,hu2⟩:=hue;have hhi':zI L.tree hi=some vh:=qB hhi;have go:∀ v',zh P ty v none (some vh) none h=some v'→(∀ fq,(Rs.sl v e z enc l).ok h fq→(Rs.rd v' z enc (l.take b)).ok h fq)→KO P X sz ops (o :: os) L h R:=fun v' q1 q2=>by
  refine qW (v:=v') (h':=h) hg ?_ (by simp only [qE,hdst,hds]) (w v' (S.same (i.ut _) q2));rw [ho];simp only [zD,qB hx,zH,hhi',q1,qH,zB]
 have h0b:qR none 0=some 0:=rfl;rcases k1 with ⟨rfl,rfl⟩|⟨bb,o',cc,slk,cap,g1,g2,g3,g4,g5,g6⟩
 ·obtain rfl:b=0:=by simpa using hb
  refine go (.slice none 0 0) ?_ fun fq q=>.inl ⟨rfl,by simp⟩;have:qR (some vh) 0=some 0:=hbo;simp only [zh,hu1,hu2,this,h0b]
 ·subst g1;have t1:Nat.ble 0 b=true:=by simp
  have t2:Nat.ble b cap=true:=zB3 (zD0 hb g5.1);have hlen:(l.take b).length=b:=by simp;omega
  have sub:=jG (i:=0) (m:=b*z) g4 (by rw [zG1];exact zD3 z hb);rw [List.drop_zero,← jQ hz,Nat.add_zero] at sub;have fin:∀ c2,(Rs.rd (.slice (some ⟨bb,o',none⟩) (b - 0) c2) z enc (l.take b)).ok h fp:=fun c2 =>
   .inr ⟨bb,o',c2,cc,e,slk,false,by rw [hlen,Nat.sub_zero],g2,g3,by rw [hlen];exact sub⟩
  have key:∀ c2,∀ fq,(Rs.sl (.slice (some ⟨bb,o',none⟩) l.length cap) e z enc l).ok h fq→(Rs.rd (.slice (some ⟨bb,o',none⟩) (b - 0) c2) z enc (l.take b)).ok h fq:=fun c2 fq q=>by
   rcases q with ⟨q1,-⟩|⟨b2,o2,cc2,sl2,cap2,q1,q2,q3,-⟩
   ·cases q1
   ·cases q1
    exact .inr ⟨bb,o',c2,cc,e,slk,false,by rw [hlen,Nat.sub_zero],g2,q3,by rw [hlen];exact sub⟩
  cases hk:(slk.isNone && Nat.beq 0 cap) with
  | false =>
   refine go (.slice (some ⟨bb,o',none⟩) (b - 0) (cap - 0)) ?_ (key _);simp only [zh,hu1,hu2,g2,h0b,hbo,t1,t2,hk,zF9,Nat.zero_mul,Nat.add_zero]
  | true =>
   refine go (.slice (some ⟨bb,o',none⟩) (b - 0) (cap - 0)) ?_ (key _);simp only [zh,hu1,hu2,g2,h0b,hbo,t1,t2,hk,zF9]
theorem nw {α:Type} {ty e:TypeId} {zc:List Value} {d:Tmp} (z:Nat) (enc:α→List Value) (S:Hs h0 h rs) (w:∀ u h',Hs h0 h' (.sl u e z enc [] :: rs)→KO P X sz ops os (L.put d u) h' R) (ho:o.op = .buildSlice ty 0 #[]:=by exact rfl) (hg:qo ops L.tree o.guard=some true:=by exact rfl)
 (hs:qK P ty=some e:=by exact rfl) (hz:qN P e=some zc:=by exact rfl) (hdst:o.dst=some d:=by exact rfl) (hds:Nat.blt d sz=true:=by exact rfl):KO P X sz ops (o :: os) L h R :=
 Vu ho hg (show J5 L (#[]:Array (Nat×Operand)).toList=some [] by rfl) (qe2 hs hz h) (by simp only [qE,hdst,hds]) (w (.slice (some ⟨h.next,0,none⟩) 0 0) _ ((S.add [] e).asSl (z:=z) enc [] rfl (by simp)))
theorem apd {α:Type} {x y:Operand} {ts tx e:TypeId} {zc:List Value} {by_ z:Nat} {enc:α→List Value} {l l2:List α} {f:Rs→List Rs} {dd:List Rs} {v u:Value} {d:Tmp} (S:Hs h0 h rs) (ho:o.op = .call { callee:=.builtin .append,args:=#[x,y],argTypes:=#[ts,tx] }) (hx:kA L x=some v) [i:HasS rs v α e z enc l f dd]
 (hr:zo h u z enc l2) (w:∀ v' h',Hs h0 h' (.sl v' e z enc (l ++ l2) :: dd)→KO P X sz ops os (L.put d v') h' R) (h1:∀ y∈l2,(enc y).all one? = true:=by intro _ _;rfl) (hg:qo ops L.tree o.guard=some true:=by exact rfl) (hy:kA L y=some u:=by exact rfl) (hs:qK P ts=some e:=by exact rfl) (hz:qN P e=some zc:=by exact rfl) (hzl:zc.length=z:=by exact rfl) (hb:jK P e=some (by_+1):=by exact rfl) (hxs:(qK P tx).isSome=true:=by exact rfl)
 (hlen:∀ y,(enc y).length=z:=by intro _;rfl) (hsz:(l.length+l2.length+1)*(by_+1)≤140737488355328:=by first|omega|(simp only [List.length_nil];omega)|grind) (hdst:o.dst=some d:=by exact rfl) (hds:Nat.blt d sz=true:=by exact rfl):KO P X sz ops (o :: os) L h R:=KG S ho hg hx hy i.dt hr hs hz hzl hb hxs h1 hlen hsz hdst hds w
theorem fB {L':Ks} {x:Operand} {ty:TypeId} {fs:Array Field} {fd:Field} {v:Value} {z k off f m n:Nat} {c:List Value} (S:Hs h0 h rs) (w:KO P X sz ops os L' h R) (ho:o.op = .fieldAddr ty x f:=by exact rfl) (hg:qo ops L.tree o.guard=some true:=by exact rfl)
 (hx:kA L x=some (Vd v z k off):=by exact rfl) (hu:P.underlying ty=some (.struct fs):=by exact rfl) (hf:fs[f]? = some fd:=by exact rfl) (hm:zq P fd.type=some (m+1):=by exact rfl) (hr:Rd h0 v z n c:=by assumption) (wf:WfH h0:=by assumption) (hk:k<n:=by first|omega|grind)
 (hp:qE sz L o.dst (Vd v z k (off+fd.offset))=some L':=by exact rfl):KO P X sz ops (o :: os) L h R:=qce ho hg hx hu hf hm (hr.ext wf S.ext) hk hp w
theorem fS {L':Ks} {x:Operand} {ty:TypeId} {fs:Array Field} {fd:Field} {v:Value} {z z' k off f m:Nat} {α:Type} {enc:α→List Value} {l:List α} (S:Hs h0 h rs) (ho:o.op = .fieldAddr ty x f) (hx:kA L x=some (Vd v z' k off)) [i:HasR rs v α z enc l] (w:KO P X sz ops os L' h R) (hzz:z'=z:=by exact rfl) (hg:qo ops L.tree o.guard=some true:=by exact rfl)
 (hu:P.underlying ty=some (.struct fs):=by exact rfl) (hf:fs[f]? = some fd:=by exact rfl) (hm:zq P fd.type=some (m+1):=by exact rfl) (hk:k<l.length:=by first|omega|grind) (hp:qE sz L o.dst (Vd v z' k (off+fd.offset))=some L':=by exact rfl):KO P X sz ops (o :: os) L h R:=by
 subst hzz;exact qce ho hg hx hu hf hm (i.rd S) hk hp w
end
end Go.Proofs.Xx
namespace Go.Proofs.Xx
open Go
section
variable {P:Program} {X:Extern} {inR:Bool} {sz:Nat} {L:Ks} {h h0:AH} {rs:List Rs} {ops:Array Oper} {os:List Oper} {o:Oper} {R:Ks→AH→Prop} {Q:KQ}
theorem wrap_u64 {n:Int} (h:0≤n∧n≤18446744073709551615):IntKind.u64.wrap n=n:=kz (by simpa [IntKind.min,IntKind.max,IntKind.signed,IntKind.bits] using h)
theorem cW {L':Ks} {x:Operand} {s d:TypeId} {k k2:IntKind} {a:Int} (w:KO P X sz ops os L' h R) (ho:o.op = .convert s d x:=by exact rfl) (hg:qo ops L.tree o.guard=some true:=by exact rfl) (hx:kA L x=some (.int k a):=by exact rfl) (hs:P.underlying s=some (.int k2):=by exact rfl) (hd:P.underlying d=some (.int .u64):=by exact rfl)
 (hb:0≤a∧a≤18446744073709551615:=by first|omega|grind) (hp:qE sz L o.dst (.int .u64 a)=some L':=by exact rfl):KO P X sz ops (o :: os) L h R :=
 qW hg (by rw [ho];simp only [zD,qB hx,zF,hs,hd,wrap_u64 hb]) hp w
theorem sR {L':Ks} {x y:Operand} {ty ty2:TypeId} {k k2:IntKind} {a b:Int} (w:KO P X sz ops os L' h R) (ho:o.op = .binOp .shr ty x y ty2:=by exact rfl) (hg:qo ops L.tree o.guard=some true:=by exact rfl) (hx:kA L x=some (.int k a):=by exact rfl) (hy:kA L y=some (.int k2 b):=by exact rfl)
 (hb:decide (b<0)=false:=by exact rfl) (hp:qE sz L o.dst (.int k (a / (2 ^ (min b.toNat k.bits):Nat)))=some L':=by exact rfl):KO P X sz ops (o :: os) L h R :=
 zN ho hg hx hy (by
  simp only [Qe,hb];rw [Int.fdiv_eq_ediv_of_nonneg _ (by exact_mod_cast zB0 _)];norm_cast) hp w
def qeY {σ:Type} (I:σ→AH→Prop) (sl:σ→Ks) (Q:KQ):KQ
 | .norm,L',h'=>∃ s,I s h'∧Ks.le (sl s) L'
 | x,L',h'=>Q x L' h'
theorem sR1 {L':Ks} {x y:Operand} {ty ty2:TypeId} {k2:IntKind} {a:Int} (w:KO P X sz ops os L' h R) (ho:o.op = .binOp .shr ty x y ty2:=by exact rfl) (hg:qo ops L.tree o.guard=some true:=by exact rfl) (hx:kA L x=some (.int .u64 a):=by exact rfl) (hy:kA L y=some (.int k2 1):=by exact rfl)
 (hp:qE sz L o.dst (.int .u64 (a / 2))=some L':=by exact rfl):KO P X sz ops (o :: os) L h R:=sR (b:=1) w ho hg hx hy rfl (by rw [show (2 ^ (min (1:Int).toNat (IntKind.bits .u64)):Nat)=2 by rfl];exact hp)
theorem jI {L':Ks} {x i:Operand} {ty:TypeId} {v:Value} {ik:IntKind} {a:Int} {α:Type} {z:Nat} {enc:α→List Value} {l:List α} (S:Hs h0 h rs) (ho:o.op = .indexAddr ty x i) (hx:kA L x=some v) [k:HasR rs v α z enc l] (w:KO P X sz ops os L' h R) (hg:qo ops L.tree o.guard=some true:=by exact rfl) (hi:kA L i=some (.int ik a):=by exact rfl) (hu:Qx P ty=some z:=by exact rfl)
 (ha:0≤a∧a<l.length:=by first|omega|(simp only [zF5,zB2,zC4,List.length_nil];omega)|grind) (hp:qE sz L o.dst (Vd v z a.toNat 0)=some L':=by exact rfl):KO P X sz ops (o :: os) L h R:=qek ho hg hx hi hu (k.rd S) ha hp w
theorem jT {α:Type} [Inhabited α] {L':Ks} {x:Operand} {ty:TypeId} {v u:Value} {z' z k off:Nat} {enc:α→List Value} {l:List α} (S:Hs h0 h rs) (ho:o.op = .load ty x) (hx:kA L x=some (Vd v z' k off)) [i:HasR rs v α z enc l] (w:KO P X sz ops os L' h R) (hzz:z'=z:=by exact rfl) (hg:qo ops L.tree o.guard=some true:=by exact rfl)
 (hz:∀ x,(enc x).length=z:=by intro _;rfl) (hk:k<l.length:=by first|omega|(simp only [zF5,zB2,zC4,List.length_nil];omega)|grind) (hv:ZX P ty (enc (l.getD k default)) off=some u:=by exact rfl) (hp:qE sz L o.dst u=some L':=by exact rfl):KO P X sz ops (o :: os) L h R:=by
 subst hzz;exact qej ho hg hx (i.rd S) hz hk hv hp w
theorem sE2 {α:Type} [Inhabited α] {L':Ks} {x yo:Operand} {ty e:TypeId} {v u:Value} {z' z k off:Nat} {enc:α→List Value} {l:List α} {f:Rs→List Rs} {d:List Rs} {y:α} (S:Hs h0 h rs) (ho:o.op = .store ty x yo) (hx:kA L x=some (Vd v z' k off)) [i:HasS rs v α e z enc l f d] (w:∀ h',Hs h0 h' (f (.sl v e z enc (l.set k y)))→KO P X sz ops os L' h' R)
 (hzz:z'=z:=by exact rfl) (hg:qo ops L.tree o.guard=some true:=by exact rfl) (hy:kA L yo=some u:=by exact rfl) (hz:∀ x,(enc x).length=z:=by intro _;rfl) (hk:k<l.length:=by first|omega|(simp only [zF5,zB2,zC4,List.length_nil];omega)|grind) (hv:ZG P ty (enc (l.getD k default)) off u=some (enc y):=by exact rfl) (hp:qE sz L o.dst (.tuple #[])=some L':=by exact rfl):KO P X sz ops (o :: os) L h R:=by
 subst hzz;exact qfL S ho hg hx hy (i.ut _) hz hk hv hp w
end
end Go.Proofs.Xx
