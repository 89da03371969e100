/-
  The back of a slice of one's own,seen beside it;clear;bytes.
-/
import Derived.Test.YtidmdnenlgjpeaaGreatDoorM6
set_option linter.unusedSimpArgs false
set_option linter.unusedVariables false
set_option maxRecDepth 100000
namespace Go.Proofs.Xx
open Go
def IsView (v v2:Value) (z k n:Nat):Prop:=∃ b o cap c2,v = .slice (some ⟨b,o,none⟩) n cap∧v2 = .slice (some ⟨b,o+k*z,none⟩) (n - k) c2
theorem IsView.el {v v2:Value} {z k n:Nat} (V:IsView v v2 z k n) (j off:Nat):Y1 v2 z j off=Y1 v z (k+j) off:=by
 obtain ⟨b,o,cap,c2,rfl,rfl⟩:=V;simp only [Y1];rw [show o+k*z+j*z+off=o+(k+j)*z+off by rw [zE1];omega]
theorem IsView.rd {α:Type} {v v2:Value} {z k:Nat} {h:AH} {enc:α→List Value} {l:List α} (V:IsView v v2 z k l.length) (r:Qk h v z enc l) (hz:∀ x,(enc x).length=z) (hk:k≤l.length):Qk h v2 z enc (l.drop k):=by
 obtain ⟨b,o,cap,c2,rfl,rfl⟩:=V;rcases r with ⟨q,-⟩|⟨b',o',cap,cc,e,s,q,e1,h1,h2⟩
 ·cases q
 ·cases e1
  have hkz:k*z≤l.length*z:=zD3 z hk;have hsub:k*z+(l.length - k)*z=l.length*z:=by rw [← zE1];congr 1;omega
  refine .inr ⟨b,o+k*z,c2,cc,e,s,q,by rw [zB4],h1,?_⟩;rw [zB4,Qa hz,jO h2 (by omega),zF8];rw [zB4,qQ hz];omega
section
variable {P:Program} {X:Extern} {inR:Bool} {sz:Nat} {L:Ks} {h h0:AH} {rs:List Rs} {ops:Array Oper} {os:List Oper} {o:Oper} {R:Ks→AH→Prop} {Q:KQ}
theorem cl {α:Type} {x:Operand} {ty e e':TypeId} {v v2:Value} {z k:Nat} {enc:α→List Value} {l:List α} {f:Rs→List Rs} {dd:List Rs} (y0:α) (S:Hs h0 h rs) (V:IsView v v2 z k l.length) (ho:o.op = .call { callee:=.builtin .clear,args:=#[x],argTypes:=#[ty] }) (hx:kA L x=some v2) [i:HasS rs v α e z enc l f dd]
 (w:∀ h',Hs h0 h' (f (.sl v e z enc (l.take k ++ List.replicate (l.length - k) y0)))→KO P X sz ops os L h' R) (hu:P.underlying ty=some (.slice e'):=by exact rfl) (hz0:qX P e'=some (enc y0):=by exact rfl) (h1:(enc y0).all one? = true:=by exact rfl)
 (hz:∀ x,(enc x).length=z:=by intro _;rfl) (hk:k<l.length:=by omega) (hzz:0<z:=by decide) (hg:qC ops L.tree o.guard=some true:=by exact rfl) (hdst:o.dst=none:=by exact rfl):KO P X sz ops (o :: os) L h R:=by
 obtain ⟨b,o',cap,c2,rfl,rfl⟩:=V;obtain ⟨fp,k1,k2,-⟩:=(i.ut (.sl (.slice (some ⟨b,o',none⟩) l.length cap) e z enc l)).ok (h':=h) S.ext.next (zA3 _) S.sep
 rcases k1 with ⟨q,-⟩|⟨b',o2,cc,slk,cap2,g1,g2,g3,g4,g5,g6⟩
 ·cases q
 cases g1
 have hrow:zg (enc y0) (l.length - k)=(List.replicate (l.length - k) y0).flatMap enc:=Xb rfl _;have hrl:((List.replicate (l.length - k) y0).flatMap enc).length=(l.length - k)*z:=by rw [qQ hz];simp
 have hkz:k*z+(l.length - k)*z=l.length*z:=by rw [← zE1];congr 1;omega
 obtain ⟨he,hlen⟩:l.flatMap enc=(cc.drop o').take (l.length*z)∧o'+l.length*z≤cc.length:=by
  rcases QN g4 with q|⟨q1,q2⟩
  ·exact q
  ·exfalso
   have:l.length*z=0:=q1;have:=Nat.mul_pos (show 0<l.length by omega) hzz;omega
 have hall:((List.replicate (l.length - k) y0).flatMap enc).all one? = true:=by
  rw [zC8];intro u hu;rw [zH0] at hu;obtain ⟨y,hy,hu⟩:=hu;rw [List.mem_replicate] at hy;rw [hy.2] at hu;exact zC8.1 h1 u hu
 have hput:putCells h b (o'+k*z) cc e slk (zg (enc y0) (l.length - k))=some (h.put b (.cells (splice cc (o'+k*z) ((List.replicate (l.length - k) y0).flatMap enc)) e slk false)):=by
  rw [hrow];unfold putCells;rw [hall,zB3 (by rw [hrl];omega)];rfl
 obtain ⟨m,hm⟩:∃ m,l.length - k=m+1:=⟨l.length - k - 1,by omega⟩
 have hclear:xI P ty (.slice (some ⟨b,o'+k*z,none⟩) (l.length - k) c2) h=some (h.put b (.cells (splice cc (o'+k*z) ((List.replicate (l.length - k) y0).flatMap enc)) e slk false)):=by
  rw [hm] at hput ⊢;simp only [xI,hu,hz0,g2,hput]
 refine zi (v:=.tuple #[]) (h':=h.put b (.cells (splice cc (o'+k*z) ((List.replicate (l.length - k) y0).flatMap enc)) e slk false)) hg ?_ (by simp only [qL,hdst]) (w _ ?_)
 ·rw [ho];simp only [zZ,jl,qG hx,jc,hclear]
 ·have hsp:splice cc (o'+k*z) ((List.replicate (l.length - k) y0).flatMap enc)=splice cc (o'+k*z+0) ((List.replicate (l.length - k) y0).flatMap enc):=rfl;have hin:=yD (cc:=cc) (uc:=(List.replicate (l.length - k) y0).flatMap enc) (o:=o') (n:=l.length*z) (a:=k*z) (z:=(l.length - k)*z) (off:=0) hlen (by omega) (by rw [hrl];omega);have hfl:((l.take k ++ List.replicate (l.length - k) y0).flatMap enc)=splice ((cc.drop o').take (l.length*z)) (k*z) (splice ((((cc.drop o').take (l.length*z)).drop (k*z)).take ((l.length - k)*z)) 0 ((List.replicate (l.length - k) y0).flatMap enc)):=by
   rw [← he];have hll:(l.flatMap enc).length=l.length*z:=qQ hz l;rw [List.flatMap_append,QI hz];simp only [splice,List.take_zero,zC0,zG1];rw [hrl,List.drop_of_length_le (l:=(((l.flatMap enc).drop (k*z)).take ((l.length - k)*z))) (by rw [zA9];omega),zD7,hrl,List.drop_of_length_le (by omega),zD7]
  refine S.turn (i.ut _) (zA3 _) (S.wf.put (k2 b g3).2.1 _) fun fq q1 q2=>?_;have hb:fq b:=by
   rcases q1 with ⟨q,-⟩|⟨b',o2,cc2,sl2,cap2,q3,q4,q5,-⟩
   ·cases q
   ·cases q3;exact q5
  have hnl:(l.take k ++ List.replicate (l.length - k) y0).length=l.length:=by simp;omega
  refine ⟨fun j _ hj=>by rw [AH.get_put,if_neg];intro q;subst q;exact hj hb,fun j=>j=b,.inr ⟨b,o',_,slk,cap,by rw [hnl],by rw [AH.get_put,if_pos rfl],rfl,?_,?_,g6⟩,fun j hj=>by subst hj;exact ⟨(k2 _ g3).2.1,.inl hb⟩⟩
  ·rw [hnl,hfl];exact hin
  ·rw [hnl,Zj (by rw [hrl];omega)];exact g5
theorem rmU {L':Ks} {x y:Operand} {ty ty2:TypeId} {a b:Int} (w:KO P X sz ops os L' h R) (ho:o.op = .binOp .rem ty x y ty2:=by exact rfl) (hg:qC ops L.tree o.guard=some true:=by exact rfl) (hx:kA L x=some (.int .u8 a):=by exact rfl) (hy:kA L y=some (.int .u8 b):=by exact rfl)
 (hb:0≤a∧0<b:=by omega) (hp:qL sz L o.dst (.int .u8 (a % b))=some L':=by exact rfl):KO P X sz ops (o :: os) L h R :=
 zS ho hg hx hy (by
  have h1:¬ b=0:=by omega
  have h2:a.tmod b=a % b:=Int.tmod_eq_emod_of_nonneg hb.1;simp only [Qi,decide_true,decide_eq_false h1,h2]) hp w
theorem su0 {α:Type} {x:Operand} {lo hi:Option Operand} {vlo vhi:Option Value} {ty:TypeId} {v:Value} {z:Nat} {enc:α→List Value} {l:List α} {d:Tmp} (a b:Nat) (S:Hs h0 h rs) (w0:WfH h0) (hr:Qk h0 v z enc l) (hc:ZI v)
 (w:∀ v',Qk h0 v' z enc ((l.drop a).take (b - a))→ZI v'→KO P X sz ops os (L.put d v') h R) (ho:o.op = .slice ty x lo hi none:=by exact rfl) (hx:kA L x=some v:=by exact rfl) (hg:qC ops L.tree o.guard=some true:=by exact rfl)
 (hlo:zO L.tree lo=some vlo:=by exact rfl) (hhi:zO L.tree hi=some vhi:=by exact rfl) (hz:∀ x,(enc x).length=z:=by intro _;rfl) (hu:Qu P ty=some z:=by exact rfl)
 (h1:qR vlo 0=some a:=by exact rfl) (h2:qR vhi l.length=some b:=by exact rfl) (hab:a≤b∧b≤l.length:=by first|omega|grind) (hdst:o.dst=some d:=by exact rfl) (hds:Nat.blt d sz=true:=by exact rfl):KO P X sz ops (o :: os) L h R:=by
 obtain ⟨v',e1,e2,e3⟩:=gy hr hc hz hu h1 h2 hab;have hue:∃ e',P.underlying ty=some (.slice e')∧zD P e'=some z:=by
  unfold Qu at hu;split at hu
  ·exact ⟨_,by assumption,hu⟩
  ·cases hu
 obtain ⟨e',hu1,hu2⟩:=hue;have e4:zt P ty v vlo vhi none h=zt P ty v vlo vhi none h0:=by
  rcases hr with ⟨rfl,g1,g2⟩|⟨b',o',cap,cc,e,s,q,rfl,g1,g2⟩
  ·simp only [zt,hu1]
  ·simp only [zt,hu1,S.ext.get w0 g1,g1]
 refine zi (v:=v') (h':=h) hg ?_ (by simp only [qL,hdst,hds]) (w v' e2 e3);rw [ho];simp only [zZ,qG hx,hlo,hhi,show zO L.tree none=some none from rfl,e4,e1,qO,zH]
theorem Ym:∀ l:List Nat,bytesOf? (l.flatMap eU)=some (l.map UInt8.ofNat)
 | []=>rfl
 | x :: l=>by
  rw [zG2];show (match byteOf? (.int .u8 (Int.ofNat x)),bytesOf? (l.flatMap eU) with|some b,some s=>some (b :: s) | _,_=>none)=_
  rw [Ym l];rfl
theorem bS {L':Ks} {x:Operand} {s dt e:TypeId} {v:Value} {l:List Nat} (hr:Qk h v 1 eU l) (w:KO P X sz ops os L' h R) (ho:o.op = .convert s dt x:=by exact rfl) (hg:qC ops L.tree o.guard=some true:=by exact rfl) (hx:kA L x=some v:=by exact rfl)
 (hs:P.underlying s=some (.slice e):=by exact rfl) (he:P.underlying e=some (.int .u8):=by exact rfl) (hd:P.underlying dt=some .string:=by exact rfl) (hp:qL sz L o.dst (str (l.map UInt8.ofNat))=some L':=by exact rfl):KO P X sz ops (o :: os) L h R:=by
 refine zi hg ?_ hp w;rw [ho];have e1:zL P s dt v h=some (str (l.map UInt8.ofNat)):=by
  rcases hr with ⟨rfl,g1,g2⟩|⟨b',o',cap,cc,e0,s0,q,rfl,g1,g2⟩
  ·have:l=[]:=zE9.1 g1;subst this;simp only [zL,hs,hd,he];rfl
  ·rw [Nat.mul_one] at g2;simp only [zL,hs,hd,he,g1,g2,Ym];rfl
 have e2:zQ P s dt v=none:=by
  unfold zQ;rw [hs]
 simp only [zZ,qG hx,e2,e1]
end
end Go.Proofs.Xx
namespace Go.Proofs.Xx
open Go
section
variable {P:Program} {X:Extern} {inR:Bool} {sz:Nat} {L:Ks} {h h0:AH} {rs:List Rs} {ops:Array Oper} {os:List Oper} {o:Oper} {R:Ks→AH→Prop} {Q:KQ}
def qf2 (P:Program) (ty:TypeId):Option (Nat×Nat):=match P.underlying ty with|some (.array n e)=>(match zD P e with|some z=>some (n,z)|none=>none) | _=>none
end
end Go.Proofs.Xx
namespace Go.Proofs.Xx
open Go
section
variable {P:Program} {X:Extern} {inR:Bool} {sz:Nat} {L:Ks} {h h0:AH} {rs:List Rs} {ops:Array Oper} {os:List Oper} {o:Oper} {R:Ks→AH→Prop} {Q:KQ}
theorem qea (s:List UInt8):(s.map UInt8.toNat).flatMap eU=s.map fun b=>Value.int .u8 (b.toNat:Int):=by
 induction s with
 | nil=>rfl
 | cons a s ih=>rw [List.map_cons,zG2,ih];rfl
theorem qao {rs':List Rs} {ts tx e:TypeId} {by_:Nat} {l:List Nat} {s:List UInt8} {v:Value} (S:Hs h0 h rs) (hs:qP P ts=some e) (hz:qX P e=some [.int .u8 0]) (hb:jT P e=some (by_+1)) (hx':P.underlying tx=some .string)
 (hd:Dt rs (.sl v e 1 eU l) rs') (hsz:(l.length+s.length+1)*(by_+1)≤140737488355328) :
 ∃ v' h',zN P [ts,tx] v (str s) h=some (v',h')∧Hs h0 h' (.sl v' e 1 eU (l ++ s.map UInt8.toNat) :: rs'):=by
 have hlen:∀ y,(eU y).length=1:=fun _=>rfl;obtain ⟨l2,hl2⟩:∃ l2,s.map UInt8.toNat=l2:=⟨_,rfl⟩
 have hsl:s.length=l2.length:=by rw [← hl2];simp
 have hall:(l2.flatMap eU).all one? = true:=by
  rw [zC8];intro u hu;rw [zH0] at hu;obtain ⟨y,hy,hu⟩:=hu;simp only [eU,zB5] at hu;subst hu;rfl
 have hsrc:Z5 ([Value.int .u8 0]:List Value).length (str s) h=some (l2.length,l2.flatMap eU):=by
  subst hl2;unfold str;simp only [Z5,zF6,qea,zC5]
 rw [hl2];rw [hsl] at hsz;have hnl:(l2.flatMap eU).length=l2.length*([Value.int .u8 0]:List Value).length:=qQ hlen l2;have k1:Nat.ble ((l2.length+1)*(by_+1)) 140737488355328=true:=zB3 (zD0 (zD3 _ (by omega)) hsz);have k2:Nat.beq (l2.flatMap eU).length (l2.length*([Value.int .u8 0]:List Value).length)=true:=by rw [hnl];simp
 have k3:Nat.ble ((l.length+l2.length)*(by_+1)) 140737488355328=true:=zB3 (zD0 (zD3 _ (by omega)) hsz);obtain ⟨fp,q1,q2,q3⟩:=hd.sep S.sep;have S':Hs h0 h rs':=S.del hd;have front:Hs h0 h (.sl v e 1 eU l :: rs'):=S.front hd;have fresh:∀ (c:List Value) (l3:List Nat),c=l3.flatMap eU→Hs h0 (h.add (.cells c e (some 1) false)) (.sl (.slice (some ⟨h.next,0,none⟩) l3.length l3.length) e 1 eU l3 :: rs'):=by
  intro c l3 hc;have hcl:c.length=l3.length*1:=by rw [hc];exact qQ hlen l3
  refine S'.grow (fp:=fun b=>b=h.next) ((Ext.refl S.wf).add _) (.inr ⟨h.next,0,c,some 1,l3.length,rfl,by rw [AH.qW,if_pos rfl],rfl,?_,⟨zA3 _,by omega⟩,.inr rfl⟩) fun b hb=>by subst hb;exact ⟨zA3 _,zG0 _⟩
  rw [← hcl,ja,hc]
 obtain ⟨n2,hn2⟩:∃ n2,l2.length=n2:=⟨_,rfl⟩
 rcases q1 with ⟨rfl,rfl⟩|⟨b,o,cc,slk,cap,g1,g2,g3,g4,g5,g6⟩
 ·rw [hn2] at hsrc k1 k2;cases n2 with
  | zero =>
   have hl2:l2=[]:=zE9.1 hn2;subst hl2;refine ⟨_,_,?_,front⟩;simp only [zN,hs,hx',hz,hb,hsrc,k1,hall,k2,zF9]
  | succ m =>
   refine ⟨.slice (some ⟨h.next,0,none⟩) (m+1) (m+1),h.add (.cells (l2.flatMap eU) e (some 1) false),?_,?_⟩
   ·simp only [zN,hs,hx',hz,hb,hsrc,k1,hall,k2,zF9];rfl
   ·have:=fresh _ l2 rfl;rw [hn2] at this;exact this
 ·subst g1;rw [hn2] at hsrc k1 k2 k3;have hcz:=zD3 1 g5.1;have hoc:o+l.length*1≤cc.length:=by have:=g5.2;omega
  cases n2 with
  | zero =>
   have hl2:l2=[]:=zE9.1 hn2;subst hl2;refine ⟨_,_,?_,by rw [zD7];exact front⟩;have:Nat.ble (l.length+0) cap=true:=zB3 g5.1;simp only [zN,hs,hx',hz,hb,hsrc,k1,hall,k2,zF9,g2,this]
  | succ m =>
   have hcat:l.flatMap eU ++ l2.flatMap eU=(l ++ l2).flatMap eU:=by rw [List.flatMap_append]
   have hln:(l ++ l2).length=l.length+(m+1):=by rw [zB2,hn2]
   have hbl:b<h.next:=(q2 b g3).2.1
   by_cases hfit:l.length+(m+1)≤cap
   ·
    have k4:Nat.ble (l.length+(m+1)) cap=true:=zB3 hfit;have hm1:(l.length+(m+1))*1≤cap*1:=zD3 _ hfit;rw [zE1] at hm1;have hnl':(l2.flatMap eU).length=(m+1)*1:=by rw [hnl,hn2];rfl
    have hfl:o+l.length*1+(l2.flatMap eU).length≤cc.length:=by have:=g5.2;omega
    have hput:putCells h b (o+l.length*1) cc e slk (l2.flatMap eU)=some (h.put b (.cells (splice cc (o+l.length*1) (l2.flatMap eU)) e slk false)):=by
     unfold putCells;rw [hall,zB3 hfl];rfl
    refine ⟨.slice (some ⟨b,o,none⟩) (l.length+(m+1)) cap,h.put b (.cells (splice cc (o+l.length*1) (l2.flatMap eU)) e slk false),?_,?_⟩
    ·have hput':putCells h b (o+l.length*([Value.int .u8 0]:List Value).length) cc e slk (l2.flatMap eU)=some (h.put b (.cells (splice cc (o+l.length*1) (l2.flatMap eU)) e slk false)):=hput;simp only [zN,hs,hx',hz,hb,hsrc,k1,hall,k2,zF9,g2,k4,hput']
    ·refine front.turn .here (zA3 _) (S.wf.put hbl _) fun fq r1 r2=>?_;have hb':fq b:=by
      rcases r1 with ⟨q,-⟩|⟨b',o2,cc2,sl2,cap2,q3,q4,q5,-⟩
      ·cases q
      ·cases q3;exact q5
     refine ⟨fun j hj hn=>?_,fun j=>j=b,.inr ⟨b,o,_,slk,cap,by rw [hln],by rw [AH.get_put,if_pos rfl],rfl,?_,⟨by omega,by rw [Zj hfl];exact g5.2⟩,g6⟩,fun j hj=>by subst hj;exact ⟨hbl,.inl hb'⟩⟩
     ·rw [AH.get_put,if_neg];intro q;subst q;exact hn hb'
     ·rw [hln,← hcat];have hfe:l.flatMap eU=(cc.drop o).take (l.length*1):=by
       rcases QN g4 with q|⟨q1,q2⟩
       ·exact q.1
       ·rw [q2,q1];simp
      rw [Jj (by rw [Zj hfl,zE1];omega)];congr 1
      apply List.ext_getElem?
      intro j;have hll:(l.flatMap eU).length=l.length*1:=qQ hlen l;rw [zC7,zF0,hll];by_cases hj:j<l.length*1
      ·rw [if_pos (by rw [zE1];omega),if_pos hj,zC3,JE hfl,if_pos (by omega),hfe,zC7,if_pos hj,zC3]
      ·rw [if_neg hj];by_cases hj2:j<(l.length+(m+1))*1
       ·rw [if_pos hj2,zC3,JE hfl,if_neg (by omega),if_pos (by rw [zE1] at hj2;omega)];congr 1;omega
       ·rw [if_neg hj2,zG5];rw [zE1] at hj2;omega
   have k4:Nat.ble (l.length+(m+1)) cap=false:=by
    cases hq:Nat.ble (l.length+(m+1)) cap with
    | false=>rfl
    | true=>have:=zB6 hq;omega
   have g4':zo cc o (l.length*([Value.int .u8 0]:List Value).length)=some (l.flatMap eU):=g4;rcases g6 with rfl|rfl
   ·have hfr:=fresh _ (l ++ l2) hcat;rw [zB2,hn2] at hfr;refine ⟨_,_,?_,hfr⟩;simp only [zN,hs,hx',hz,hb,hsrc,k1,hall,k2,zF9,g2,k4,g4',k3];rfl
   ·refine ⟨.slice (some ⟨h.next,0,none⟩) (l.length+(m+1)) (l.length+(m+1)),(h.put b .dead).add (.cells (l.flatMap eU ++ l2.flatMap eU) e (some 1) false),?_,?_⟩
    ·have k6:(Nat.beq 1 ([Value.int .u8 0]:List Value).length && Nat.beq e e && Nat.ble (o+cap*1) cc.length)=true:=by
      simp [zB3 (show o+cap≤cc.length by have:=g5.2;omega)]
     simp only [zN,hs,hx',hz,hb,hsrc,k1,hall,k2,zF9,g2,k4,g4',k3,k6];rfl
    ·have hcl:(l.flatMap eU ++ l2.flatMap eU).length=(l ++ l2).length*1:=by rw [hcat];exact qQ hlen _
     refine front.turn .here (Nat.le_succ _) ((S.wf.put hbl _).add _) fun fq r1 r2=>?_;have hb':fq b:=by
      rcases r1 with ⟨q,-⟩|⟨b',o2,cc2,sl2,cap2,q3,q4,q5,-⟩
      ·cases q
      ·cases q3;exact q5
     refine ⟨fun j hj hn=>?_,fun j=>j=h.next,.inr ⟨h.next,0,l.flatMap eU ++ l2.flatMap eU,some 1,_,by rw [hln],?_,rfl,?_,⟨by omega,by rw [hcl,hln];omega⟩,.inr rfl⟩,fun j hj=>by subst hj;exact ⟨zG0 _,.inr (zA3 _)⟩⟩
     ·rw [AH.qW,if_neg (by simp only [AH.put];omega),AH.get_put,if_neg];intro q;subst q;exact hn hb'
     ·rw [AH.qW];exact if_pos rfl
     ·rw [← hcl,ja,hcat]
theorem apS {x y:Operand} {ts tx e:TypeId} {by_:Nat} {l:List Nat} {s:List UInt8} {f:Rs→List Rs} {dd:List Rs} {v:Value} {d:Tmp} (S:Hs h0 h rs) (ho:o.op = .call { callee:=.builtin .append,args:=#[x,y],argTypes:=#[ts,tx] }) (hx:kA L x=some v) [i:HasS rs v Nat e 1 eU l f dd]
 (w:∀ v' h',Hs h0 h' (.sl v' e 1 eU (l ++ s.map UInt8.toNat) :: dd)→KO P X sz ops os (L.put d v') h' R) (hg:qC ops L.tree o.guard=some true:=by exact rfl) (hy:kA L y=some (str s):=by exact rfl) (hs:qP P ts=some e:=by exact rfl) (hz:qX P e=some [.int .u8 0]:=by exact rfl) (hb:jT P e=some (by_+1):=by exact rfl) (hxs:P.underlying tx=some .string:=by exact rfl)
 (hsz:(l.length+s.length+1)*(by_+1)≤140737488355328:=by first|omega|(simp only [List.length_nil];omega)|grind) (hdst:o.dst=some d:=by exact rfl) (hds:Nat.blt d sz=true:=by exact rfl):KO P X sz ops (o :: os) L h R:=by
 obtain ⟨v',h',q1,q2⟩:=qao S hs hz hb hxs i.dt hsz;exact vz ho hg hx hy q1 (by simp only [qL,hdst,hds]) (w v' h' q2)
theorem usd {x:Operand} {ty e:TypeId} {l:List Nat} {f:Rs→List Rs} {dd:List Rs} {v:Value} {d:Tmp} (S:Hs h0 h rs) (hl:0<l.length) (ho:o.op = .call { callee:=.builtin .unsafeSliceData,args:=#[x],argTypes:=#[ty] }) (hx:kA L x=some v) [i:HasS rs v Nat e 1 eU l f dd]
 (w:∀ b o cap,v = .slice (some ⟨b,o,none⟩) l.length cap→KO P X sz ops os (L.put d (.pointer (some ⟨b,o,none⟩))) h R) (hg:qC ops L.tree o.guard=some true:=by exact rfl) (hdst:o.dst=some d:=by exact rfl) (hds:Nat.blt d sz=true:=by exact rfl):KO P X sz ops (o :: os) L h R:=by
 obtain ⟨fp,q1,q2,q3⟩:=i.dt.sep S.sep;rcases q1 with ⟨rfl,rfl⟩|⟨b,o',cc,slk,cap,g1,g2,g3,g4,g5,g6⟩
 ·simp at hl
 refine zi (v:=.pointer (some ⟨b,o',none⟩)) (h':=h) hg ?_ (by simp only [qL,hdst,hds]) (w b o' cap g1);rw [ho];obtain ⟨m,hm⟩:∃ m,cap=m+1:=⟨cap - 1,by have:=g5.1;omega⟩
 subst g1;have e1:JS (.slice (some ⟨b,o',none⟩) l.length cap)=some (.pointer (some ⟨b,o',none⟩)):=by rw [hm];rfl
 simp only [zZ,jl,qG hx,jc,e1,qO]
theorem uns {x y:Operand} {pt nt e:TypeId} {l:List Nat} {f:Rs→List Rs} {dd:List Rs} {b o' cap:Nat} {d:Tmp} (S:Hs h0 h rs) (hl:0<l.length∧l.length≤4611686018427387904) (ho:o.op = .call { callee:=.builtin .unsafeString,args:=#[x,y],argTypes:=#[pt,nt] }) (hx:kA L x=some (.pointer (some ⟨b,o',none⟩))) [i:HasS rs (.slice (some ⟨b,o',none⟩) l.length cap) Nat e 1 eU l f dd]
 (w:∀ h',Hs h0 h' dd→KO P X sz ops os (L.put d (str (l.map UInt8.ofNat))) h' R) (hy:kA L y=some (.int .i64 l.length):=by exact rfl) (hp:P.underlying pt=some (.pointer e):=by exact rfl) (he:P.underlying e=some (.int .u8):=by exact rfl) (hz:zD P e=some 1:=by exact rfl) (hg:qC ops L.tree o.guard=some true:=by exact rfl) (hdst:o.dst=some d:=by exact rfl) (hds:Nat.blt d sz=true:=by exact rfl):KO P X sz ops (o :: os) L h R:=by
 obtain ⟨fp,q1,q2,q3⟩:=i.dt.sep S.sep;rcases q1 with ⟨q,-⟩|⟨b',o2,cc,slk,cap2,g1,g2,g3,g4,g5,g6⟩
 ·cases q
 cases g1
 have hbl:b<h.next:=(q2 b g3).2.1
 obtain ⟨m,hm⟩:∃ m,l.length=m+1:=⟨l.length - 1,by omega⟩
 have front:Hs h0 h (.sl (.slice (some ⟨b,o',none⟩) l.length cap) e 1 eU l :: dd):=S.front i.dt;have S2:Hs h0 (h.put b (.cells cc e slk true)) (.any (fun _ _=>True) :: dd):=by
  refine front.turn .here (zA3 _) (S.wf.put hbl _) fun fq r1 r2=>?_;have hb':fq b:=by
   rcases r1 with ⟨q,-⟩|⟨b',o2,cc2,sl2,cap3,q3,q4,q5,-⟩
   ·cases q
   ·cases q3;exact q5
  exact ⟨fun j hj hn=>by rw [AH.get_put,if_neg];intro q;subst q;exact hn hb',fun _=>False,fun _ _=>trivial,fun _ q=>q.elim⟩
 refine zi (v:=str (l.map UInt8.ofNat)) (h':=h.put b (.cells cc e slk true)) hg ?_ (by simp only [qL,hdst,hds]) (w _ S2.tail);rw [ho];rw [Nat.mul_one] at g4;have k1:Nat.ble l.length 4611686018427387904=true:=zB3 hl.2;have k2:Nat.beq e e=true:=by simp
 have e1:Qh P [pt,nt] (.pointer (some ⟨b,o',none⟩)) (.int .i64 l.length) h=some (str (l.map UInt8.ofNat),h.put b (.cells cc e slk true)):=by
  have hcast:((l.length:Nat):Int)=Int.ofNat l.length:=rfl;rw [hcast];simp only [Qh,hp,g2,he,hz,k1,k2,zF9,g4,Ym];rw [hm];rfl
 have e2:zT L.tree y=some (.int .i64 l.length):=qG hy;simp only [zZ,jl,qG hx,e2,jc,e1,jZ]
end
end Go.Proofs.Xx
namespace Go.Proofs.Xx
open Go
abbrev Gs (l:Nat) (o:jC):Rs:=.any (fun h fp=>h.get l=some o∧fp l)
def yv (l:Nat):Value:=.func (.yield l) #[] #[]
section
variable {h h0:AH} {rs:List Rs} {l:Nat} {o:jC}
theorem Hs.bY (S:Hs h0 h rs) {b:Nat} {o:jC} (hb:h0.get b=some o) (w:WfH h0):b<h.next :=
 zE4 (Nat.lt_of_not_le fun q=>by have:=w b q;rw [hb] at this;cases this) S.ext.next
theorem Hs.VO (S:Hs h0 h (Gs l o :: rs)):h.get l=some o:=by
 obtain ⟨fp,k,-⟩:=S.sep;exact (k h fun _ _=>rfl).1
theorem Hs.qe0 (S:Hs h0 h rs) (o:jC):Hs h0 (h.add o) (Gs h.next o :: rs) :=
 S.grow (fp:=fun b=>b=h.next) ((Ext.refl S.wf).add _) (fun h' q=>⟨(q _ rfl).trans (by rw [AH.qW,if_pos rfl]),rfl⟩) fun b hb=>by subst hb;exact ⟨zA3 _,zG0 _⟩
theorem Hs.KE (S:Hs h0 h (Gs l o :: rs)) (o':jC):Hs h0 (h.put l o') (Gs l o' :: rs):=by
 have hl:l<h.next:=by
  obtain ⟨fp,k,k2,-⟩:=S.sep;exact (k2 l (k h fun _ _=>rfl).2).2.1
 refine S.turn .here (zA3 _) (S.wf.put hl _) fun fp r1 r2=>?_;have hf:=(r1 h fun _ _=>rfl).2;exact ⟨fun j hj hn=>by rw [AH.get_put,if_neg];intro q;subst q;exact hn hf,fun b=>b=l,fun h' q=>⟨(q _ rfl).trans (by rw [AH.get_put,if_pos rfl]),rfl⟩,fun b hb=>by subst hb;exact ⟨hl,.inl hf⟩⟩
end
section
variable {P:Program} {X:Extern} {inR:Bool} {sz:Nat} {L:Ks} {h h0:AH} {rs:List Rs} {ops:Array Oper} {os:List Oper} {o:Oper} {R:Ks→AH→Prop} {Q:KQ}
def Yd (P:Program) (X:Extern) (l:Nat) (args:List Value) (h:AH) (Q:Value→AH→Prop):Prop:=∃ n v h',Qx (exec P X n) l args h=some (v,h')∧Q v h'
theorem Yd.mono {l:Nat} {args:List Value} {Q Q':Value→AH→Prop} (w:Yd P X l args h Q) (hq:∀ v h',Q v h'→Q' v h'):Yd P X l args h Q':=by
 obtain ⟨n,v,h',h1,h2⟩:=w;exact ⟨n,v,h',h1,hq _ _ h2⟩
theorem qck {t:Tr Value} {R:Tr Value→AH→Prop} {l:Nat} {args:List Value} {d:Tmp} (hg:qC ops t o.guard=some true) (ha:zZ P t h o.op=some (.yield l args)) (hd:o.dst=some d) (hs:Nat.blt d sz=true)
 (w:Yd P X l args h (fun v h'=>WO P X sz ops os (t.set d v) h' R)):WO P X sz ops (o :: os) t h R:=by
 obtain ⟨n,v,h1,hc,n2,t2,h2,h3,h4⟩:=w;refine ⟨max n n2,t2,h2,?_,h4⟩;simp only [J8,hg,WP,ha,hd,JH,hs,VE (jK (Nat.le_max_left n n2)) hc];exact Zu (jK (Nat.le_max_right n n2)) _ _ _ _ h3
theorem Gn {l:Nat} {args:List Value} {d:Tmp} (hg:qC ops L.tree o.guard=some true) (ha:zZ P L.tree h o.op=some (.yield l args)) (hd:o.dst=some d) (hs:Nat.blt d sz=true)
 (w:Yd P X l args h (fun v h'=>KO P X sz ops os (L.put d v) h' R)):KO P X sz ops (o :: os) L h R:=fun t hk =>
 qck (jG hk.tle hg) (Vs hk.tle ha) hd hs (w.mono fun v h' q=>q _ (hk.put d v))
end
end Go.Proofs.Xx
namespace Go.Proofs.Xx
open Go
section
variable {P:Program} {X:Extern} {sz:Nat} {L:Ks} {h h0:AH} {rs:List Rs} {ops:Array Oper} {os:List Oper} {o:Oper} {R:Ks→AH→Prop}
end
class HasV (rs:List Rs) (v:Value):Prop where
 fp:∀ {lo:Nat} {h:AH} {U:Fp},Sep lo h rs U→v≠.slice none 0 0→U (ZK v)
instance HasV.there {rs:List Rs} {v:Value} {s:Rs} [k:HasV rs v]:HasV (s :: rs) v:=⟨fun S hv=>by
 obtain ⟨f,-,-,h3⟩:=S;exact (k.fp h3 hv).1⟩
instance HasV.sl {rs:List Rs} {v:Value} {α:Type} {e:TypeId} {z:Nat} {enc:α→List Value} {l:List α}:HasV (.sl v e z enc l :: rs) v:=⟨fun S hv=>by
 obtain ⟨f,h1,h2,-⟩:=S;rcases h1 with ⟨q,-⟩|⟨b,o,cc,slk,cap,rfl,-,q,-⟩
 ·exact absurd q hv
 ·exact (h2 b q).2.2⟩
instance HasV.rd {rs:List Rs} {v:Value} {α:Type} {z:Nat} {enc:α→List Value} {l:List α}:HasV (.rd v z enc l :: rs) v:=⟨fun S hv=>by
 obtain ⟨f,h1,h2,-⟩:=S;rcases h1 with ⟨q,-⟩|⟨b,o,cap,cc,e,s,r,rfl,-,q,-⟩
 ·exact absurd q hv
 ·exact (h2 b q).2.2⟩
class HasK (rs:List Rs) (b:Nat):Prop where
 fp:∀ {lo:Nat} {h:AH} {U:Fp},Sep lo h rs U→U b
instance HasK.there {rs:List Rs} {b:Nat} {s:Rs} [k:HasK rs b]:HasK (s :: rs) b:=⟨fun S=>by
 obtain ⟨f,-,-,h3⟩:=S;exact (k.fp h3).1⟩
instance HasK.here {rs:List Rs} {b:Nat} {c:List Value} {e:TypeId}:HasK (.blk b c e :: rs) b:=⟨fun S=>by
 obtain ⟨f,h1,h2,-⟩:=S;exact (h2 b h1.2).2.2⟩
class NeB (rs:List Rs) (b:Nat) (v:Value):Prop where
 ne:∀ {lo:Nat} {h:AH} {U:Fp},Sep lo h rs U→v≠.slice none 0 0→ZK v≠b
instance NeB.there {rs:List Rs} {b:Nat} {v:Value} {s:Rs} [k:NeB rs b v]:NeB (s :: rs) b v:=⟨fun S hv=>by
 obtain ⟨f,-,-,h3⟩:=S;exact k.ne h3 hv⟩
instance NeB.blk {rs:List Rs} {b:Nat} {v:Value} {c:List Value} {e:TypeId} [k:HasV rs v]:NeB (.blk b c e :: rs) b v:=⟨fun S hv q=>by
 obtain ⟨f,h1,h2,h3⟩:=S;have:=(k.fp h3 hv).2;rw [q] at this;exact this h1.2⟩
instance NeB.sl {rs:List Rs} {b:Nat} {v:Value} {α:Type} {e:TypeId} {z:Nat} {enc:α→List Value} {l:List α} [k:HasK rs b]:NeB (.sl v e z enc l :: rs) b v:=⟨fun S hv q=>by
 obtain ⟨f,h1,h2,h3⟩:=S;rcases h1 with ⟨q',-⟩|⟨b',o,cc,slk,cap,rfl,-,q',-⟩
 ·exact absurd q' hv
 ·have:=(k.fp h3).2;exact this (by rw [← q];exact q')⟩
theorem Hs.qfE {h0 h:AH} {rs:List Rs} {v:Value} {α:Type} {e:TypeId} {z:Nat} {enc:α→List Value} {l:List α} (S:Hs h0 h rs) (a:At rs (.sl v e z enc l)) (hl:0<l.length):v≠.slice none 0 0:=by
 obtain ⟨fp,k,-⟩:=a.ok S.sep;rcases k with ⟨-,rfl⟩|⟨b,o,cc,slk,cap,rfl,-⟩
 ·simp at hl
 ·intro q;cases q
section
variable {P:Program} {X:Extern} {sz:Nat} {L:Ks} {h h0:AH} {rs:List Rs} {ops:Array Oper} {os:List Oper} {o:Oper} {R:Ks→AH→Prop}
theorem drB {α:Type} {x lo:Operand} {ty e:TypeId} {v:Value} {z:Nat} {enc:α→List Value} {l:List α} {f:Rs→List Rs} {dd:List Rs} {ik:IntKind} {a:Int} {d:Tmp} (S:Hs h0 h rs) (ho:o.op = .slice ty x (some lo) none none) (hx:kA L x=some v) [i:HasS rs v α e z enc l f dd]
 (w:∀ v',Hs h0 h (f (.sl v' e z enc (l.drop a.toNat)))→(ZK v'=ZK v∧(v≠.slice none 0 0→v'≠.slice none 0 0))→KO P X sz ops os (L.put d v') h R) (hg:qC ops L.tree o.guard=some true:=by exact rfl) (hlo:kA L lo=some (.int ik a):=by exact rfl) (hz:∀ x,(enc x).length=z:=by intro _;rfl) (hu:Qu P ty=some z:=by exact rfl) (ha:0≤a∧a≤l.length:=by first|omega|grind)
 (hdst:o.dst=some d:=by exact rfl) (hds:Nat.blt d sz=true:=by exact rfl):KO P X sz ops (o :: os) L h R:=by
 obtain ⟨k,rfl⟩:=zH4 ha.1;have hk:k≤l.length:=by omega
 obtain ⟨fp,k1,k2,-⟩:=(i.ut (.sl v e z enc l)).ok (h':=h) S.ext.next (zA3 _) S.sep
 have hue:∃ e',P.underlying ty=some (.slice e')∧zD P e'=some z:=by
  unfold Qu at hu;split at hu
  ·exact ⟨_,by assumption,hu⟩
  ·cases hu
 obtain ⟨e',hu1,hu2⟩:=hue;have hlo':zT L.tree lo=some (.int ik (Int.ofNat k)):=qG hlo;have go:∀ v',zt P ty v (some (.int ik (Int.ofNat k))) none none h=some v'→Hs h0 h (f (.sl v' e z enc (l.drop k)))→(ZK v'=ZK v∧(v≠.slice none 0 0→v'≠.slice none 0 0))→KO P X sz ops (o :: os) L h R:=fun v' q1 q2 q3=>by
  refine zi (v:=v') (h':=h) hg ?_ (by simp only [qL,hdst,hds]) (w v' (by simpa using q2) q3);rw [ho];simp only [zZ,qG hx,zO,hlo',q1,qO,zH]
 rcases k1 with ⟨rfl,rfl⟩|⟨b,o',cc,slk,cap,g1,g2,g3,g4,g5,g6⟩
 ·obtain rfl:k=0:=by simpa using hk
  refine go (.slice none 0 0) ?_ (S.same (i.ut _) fun fq q=>by simpa using q) ⟨rfl,id⟩;simp only [zt,hu1,qR,hu2]
 ·subst g1;have hle:Nat.ble k l.length=true:=zB3 hk;have hnn:Nat.ble l.length cap=true:=zB3 g5.1;have hcz:l.length*z≤cap*z:=zD3 z g5.1;have hoc:o'+l.length*z≤cc.length:=by have:=g5.2;omega
  have hkz:k*z≤l.length*z:=zD3 z hk;cases hq:slk.isNone && Nat.beq k cap with
  | true =>
   rw [zA8] at hq;have hkl0:=zA6 hq.2;have hkl:k=l.length:=by have:=g5.1;omega
   refine go (.slice (some ⟨b,o',none⟩) (l.length - k) (cap - k)) ?_ (S.same (i.ut _) fun fq q=>?_) ⟨rfl,fun _ q=>by cases q⟩
   ·simp only [zt,hu1,g2,hu2,qR,hle,hnn,zF9,hq.1,hq.2]
   ·rcases q with ⟨q1,-⟩|⟨b',o2,cc2,sl2,cap2,q1,q2,q3,-⟩
    ·cases q1
    ·cases q1
     have:l.drop k=[]:=by rw [hkl,List.drop_length]
     exact .inr ⟨b,o',cc,slk,cap - k,by rw [zB4],g2,q3,by rw [this];simp [zo],⟨by rw [this];exact zB0 _,by rw [show cap - k=0 by omega];omega⟩,g6⟩
  | false =>
   refine go (.slice (some ⟨b,o'+k*z,none⟩) (l.length - k) (cap - k)) ?_ (S.same (i.ut _) fun fq q=>?_) ⟨rfl,fun _ q=>by cases q⟩
   ·simp only [zt,hu1,g2,hu2,qR,hle,hnn,zF9,hq]
   ·rcases q with ⟨q1,-⟩|⟨b',o2,cc2,sl2,cap2,q1,q2,q3,-⟩
    ·cases q1
    ·cases q1
     have hsub:k*z+(l.length - k)*z=l.length*z:=by rw [← zE1];congr 1;omega
     have hsub2:k*z+(cap - k)*z=cap*z:=by rw [← zE1];congr 1;have:=g5.1;omega
     refine .inr ⟨b,o'+k*z,cc,slk,cap - k,by rw [zB4],g2,q3,?_,⟨by rw [zB4];have:=g5.1;omega,by have:=g5.2;omega⟩,g6⟩;rw [zB4,Qa hz,jO g4 (by omega),zF8];rw [zB4,qQ hz];omega
end
theorem qaU (p:Option Addr) (n c:Nat):jr (.slice p n c)=ZK (.slice p n c):=by cases p<;>rfl
abbrev okV (ok:Bool) (v:Value) (b:Bool):Value:=match ok with|true=>.tuple #[v,.bool b]|false=>v
def Zc {α:Type} (k:List UInt8):List (List UInt8×α)→Nat→Option (Nat×α)
 | [],_=>none
 | p :: r,i=>if p.1=k then some (i,p.2) else Zc k r (i+1)
def zW {α:Type} (l:List (List UInt8×α)) (k:List UInt8):Option α:=(Zc k l 0).map (·.2)
theorem qdd (a b:List UInt8):((⟨a.toArray⟩:ByteArray) == ⟨b.toArray⟩)=decide (a=b):=by
 rw [Bool.eq_iff_iff];constructor
 ·intro h;have h2:=ba_eq h;have h3:a.toArray=b.toArray:=congrArg ByteArray.data h2;simpa using h3
 ·intro h;have h2:a=b:=by simpa using h
  subst h2;exact qac _
theorem xG {α:Type} {enc:α→Value} {k:List UInt8}:∀ {es:List (Value×Value×Nat)} {l:List (List UInt8×α)} {i:Nat},es.map (fun e=>(e.1,e.2.1))=l.map (fun p=>(Value.string ⟨p.1.toArray⟩,enc p.2)) →
 X4 .string (str k) es i=some ((Zc k l i).map fun q=>(q.1,enc q.2))
 | [],[],i,_=>rfl
 | [],p :: r,i,h=>by simp at h
 | e :: es,[],i,h=>by simp at h
 | e :: es,p :: r,i,h=>by
  simp only [List.map_cons,List.cons.injEq,Prod.mk.injEq] at h;obtain ⟨⟨h1,h2⟩,h3⟩:=h;have hs:Instr.sameNow .string (str k) e.1=some (decide (k=p.1)):=by
   rw [h1];show some (((⟨k.toArray⟩:ByteArray) == ⟨p.1.toArray⟩))=_
   rw [qdd]
  unfold X4;unfold Zc;by_cases hk:p.1=k
  ·rw [hs,decide_eq_true hk.symm,if_pos hk,h2];rfl
  ·rw [hs,decide_eq_false (fun q=>hk q.symm),if_neg hk];exact xG h3
theorem yP {α:Type} {l:List (List UInt8×α)} {k:List UInt8} (h:zW l k=none):Zc k l 0=none:=by
 unfold zW at h;cases hq:Zc k l 0 with
 | none=>rfl
 | some q=>rw [hq] at h;cases h
theorem qaz {α:Type} {l:List (List UInt8×α)} {k:List UInt8} {x:α} (h:zW l k=some x):∃ i,Zc k l 0=some (i,x):=by
 unfold zW at h;cases hq:Zc k l 0 with
 | none=>rw [hq] at h;cases h
 | some q=>rw [hq] at h;cases h;exact ⟨q.1,rfl⟩
section
variable {P:Program} {X:Extern} {inR:Bool} {sz:Nat} {L:Ks} {h h0:AH} {rs:List Rs} {ops:Array Oper} {os:List Oper} {o:Oper} {R:Ks→AH→Prop} {Q:KQ}
theorem pz {α:Type} {b:Nat} {enc:α→Value} {l:List (List UInt8×α)} (S:Hs h0 h rs) (a:At rs (.mp b enc l)):∃ es clock,h.get b=some (.map es clock)∧es.map (fun e=>(e.1,e.2.1))=l.map (fun p=>(Value.string ⟨p.1.toArray⟩,enc p.2))∧(∀ e∈es,e.2.2<clock)∧(es.map (·.2.2)).Nodup:=by
 obtain ⟨fp,k,_⟩:=a.ok S.sep;obtain ⟨es,clock,h1,h2,h3⟩:=k;exact ⟨es,clock,h1,h3⟩
theorem qaA {α:Type} {b:Nat} {enc:α→Value} {l:List (List UInt8×α)} (S:Hs h0 h rs) (a:At rs (.mp b enc l)) {ty kt et:TypeId} {key:List UInt8} {z:Value} (ok:Bool)
 (hu:P.underlying ty=some (.map kt et)) (hkt:P.underlying kt=some .string) (hz:zeroV P et=some z) :
 QY P ty (.map (some b)) (str key) ok h=some (match zW l key with
  | some x=>(okV ok (enc x) true)
  | none=>(okV ok z false)):=by
 obtain ⟨es,clock,h1,h2,-⟩:=pz S a;have hT:ww P ty (str key)=some (.string,et):=by
  unfold ww;simp only [hu,hkt];rfl
 have hM:Yn (.map (some b)) h=some es:=by
  unfold Yn;simp only [h1]
 have hF:=xG (enc:=enc) (k:=key) (i:=0) h2;unfold QY;rw [hT,hM];simp only [hF];cases hq:zW l key with
 | none=>rw [yP hq];simp only [Option.map_none,hz];rfl
 | some x =>
  obtain ⟨i,hi⟩:=qaz hq;rw [hi];simp only [Option.map_some];rfl
theorem lk {α:Type} {b:Nat} {enc:α→Value} {l:List (List UInt8×α)} {m k:Operand} {ty kt et:TypeId} {key:List UInt8} {z:Value} {d:Tmp} {ok:Bool} (S:Hs h0 h rs) (a:At rs (.mp b enc l))
 (w1:∀ x,zW l key=some x→KO P X sz ops os (L.put d (okV ok (enc x) true)) h R)
 (w2:zW l key=none→KO P X sz ops os (L.put d (okV ok z false)) h R)
 (ho:o.op = .lookup ty m k ok:=by exact rfl) (hg:qC ops L.tree o.guard=some true:=by exact rfl) (hm:kA L m=some (.map (some b)):=by exact rfl) (hk:kA L k=some (str key):=by exact rfl)
 (hu:P.underlying ty=some (.map kt et):=by exact rfl) (hkt:P.underlying kt=some .string:=by exact rfl) (hz:zeroV P et=some z:=by exact rfl) (hdst:o.dst=some d:=by exact rfl) (hds:Nat.blt d sz=true:=by exact rfl):KO P X sz ops (o :: os) L h R:=by
 have e:=qaA (key:=key) S a ok hu hkt hz;cases hq:zW l key with
 | none =>
  rw [hq] at e;refine zi hg (v:=okV ok z false) (h':=h) ?_ (show qL sz L o.dst _=some (L.put d _) by simp only [qL,hdst,hds]) (w2 hq);rw [ho];simp only [zZ,qG hm,qG hk,e,qO]
 | some x =>
  rw [hq] at e;refine zi hg (v:=okV ok (enc x) true) (h':=h) ?_ (show qL sz L o.dst _=some (L.put d _) by simp only [qL,hdst,hds]) (w1 x hq);rw [ho];simp only [zZ,qG hm,qG hk,e,qO]
theorem Hs.qdy {α:Type} {rs':List Rs} {b clock2:Nat} {enc:α→Value} {l l2:List (List UInt8×α)} {es2:List (Value×Value×Nat)} (S:Hs h0 h rs) (u:Ut rs (.mp b enc l) (.mp b enc l2) rs')
 (h2:es2.map (fun e=>(e.1,e.2.1))=l2.map (fun p=>(Value.string ⟨p.1.toArray⟩,enc p.2))) (hc:∀ e∈es2,e.2.2<clock2) (hn:(es2.map (·.2.2)).Nodup):Hs h0 (h.put b (.map es2 clock2)) rs':=by
 obtain ⟨fp,k,k2,-⟩:=u.ok (h':=h) S.ext.next (zA3 _) S.sep
 obtain ⟨es,clock,g1,g2,-⟩:=k;refine S.turn u (zA3 _) (S.wf.put (k2 b g2).2.1 _) fun fq q1 q2=>⟨fun j _ hj=>?_,fun j=>j=b,⟨es2,clock2,by rw [AH.get_put,if_pos rfl],rfl,h2,hc,hn⟩,fun j hj=>?_⟩
 ·obtain ⟨_,_,_,g,_⟩:=q1;rw [AH.get_put,if_neg];intro q;subst q;exact hj g
 ·obtain ⟨_,_,_,g,_⟩:=q1;subst hj;exact ⟨(q2 _ g).2,.inl g⟩
theorem Hs.qeT {α:Type} (enc:α→Value) (S:Hs h0 h rs):Hs h0 (h.add (.map [] 0)) (.mp h.next enc [] :: rs) :=
 S.grow (fp:=fun b=>b=h.next) ((Ext.refl S.wf).add _) ⟨[],0,by rw [AH.qW,if_pos rfl],rfl,rfl,(fun e he=>by cases he),List.Pairwise.nil⟩ fun b hb=>by subst hb;exact ⟨zA3 _,zG0 _⟩
theorem mkm {α:Type} (enc:α→Value) {ty:TypeId} {d:Tmp} (S:Hs h0 h rs) (w:∀ b h',Hs h0 h' (.mp b enc [] :: rs)→KO P X sz ops os (L.put d (.map (some b))) h' R) (ho:o.op = .makeMap ty none:=by exact rfl) (hg:qC ops L.tree o.guard=some true:=by exact rfl) (hdst:o.dst=some d:=by exact rfl) (hds:Nat.blt d sz=true:=by exact rfl):KO P X sz ops (o :: os) L h R :=
 zi hg (v:=.map (some h.next)) (h':=h.add (.map [] 0)) (by rw [ho];rfl) (show qL sz L o.dst _=some (L.put d _) by simp only [qL,hdst,hds]) (w _ _ (S.qeT enc))
def Jd {α:Type} (l:List (List UInt8×α)) (k:List UInt8) (x:α):List (List UInt8×α):=match Zc k l 0 with|some q=>l.set q.1 (k,x)|none=>l ++ [(k,x)]
theorem modify_eq_set {β:Type} {l:List β} {i:Nat} {f:β→β} {y e:β} (he:l[i]? = some e) (hf:f e=y):l.modify i f=l.set i y:=by
 apply List.ext_getElem?
 intro j;rw [List.getElem?_modify,List.getElem?_set];by_cases hj:i=j
 ·subst hj;have hl:i<l.length:=(zD6.1 he).1;have e2:l[i]=e:=(zD6.1 he).2;simp [hl,e2,hf]
 ·simp [hj]
theorem wz {α:Type} {k:List UInt8}:∀ {l:List (List UInt8×α)} {i:Nat} {q:Nat×α},Zc k l i=some q→i≤q.1∧l[q.1 - i]? = some (k,q.2)
 | [],i,q,h=>by cases h
 | p :: r,i,q,h=>by
  unfold Zc at h;split at h
  ·rename_i hk
   cases h
   refine ⟨zA3 _,?_⟩;rw [zG6];show some p=_
   rw [← hk]
  ·obtain ⟨h1,h2⟩:=wz h;refine ⟨by omega,?_⟩;rw [show q.1 - i=(q.1 - (i+1))+1 by omega];exact h2
theorem qaj {α:Type} {key:List UInt8} {b:Nat} {enc:α→Value} {l:List (List UInt8×α)} {rs':List Rs} {x:α} (S:Hs h0 h rs) (u:Ut rs (.mp b enc l) (.mp b enc (Jd l key x)) rs') (a:At rs (.mp b enc l)) {ty kt et:TypeId}
 (hu:P.underlying ty=some (.map kt et)) (hkt:P.underlying kt=some .string) :
 ∃ h',QT P ty (.map (some b)) (str key) (enc x) h=some h'∧Hs h0 h' rs':=by
 obtain ⟨es,clock,h1,h2,h3,h4⟩:=pz S a;have hT:ww P ty (str key)=some (.string,et):=by
  unfold ww;simp only [hu,hkt];rfl
 have hF:=xG (enc:=enc) (k:=key) (i:=0) h2;unfold QT;simp only [hT,h1,hF];unfold Jd at u;cases hq:Zc key l 0 with
 | none =>
  rw [hq] at u;refine ⟨_,rfl,S.qdy u ?_ ?_ ?_⟩
  ·rw [zC9,zC9,h2];rfl
  ·intro e he;rcases zB8.1 he with q|q
   ·have:=h3 e q;omega
   ·simp at q;subst q;exact zG0 _
  ·rw [zC9,zG4];refine ⟨h4,by simp,?_⟩;intro c hc d hd;obtain ⟨e,he,rfl⟩:=zF1.1 hc;simp at hd;subst hd;have:=h3 e he;omega
 | some q =>
  rw [hq] at u;obtain ⟨i,y⟩:=q;obtain ⟨-,hl⟩:=wz hq;have hle:es.length=l.length:=by simpa using congrArg List.length h2
  obtain ⟨e,he⟩:∃ e,es[i]? = some e:=⟨es[i]'(by have:=(zD6.1 hl).1;omega),by simp⟩
  have hm:=modify_eq_set (f:=fun e:Value×Value×Nat=>(str key,enc x,e.2.2)) (y:=(str key,enc x,e.2.2)) he rfl;refine ⟨_,rfl,S.qdy u ?_ ?_ ?_⟩
  ·rw [hm,List.map_set,List.map_set,h2];rfl
  ·intro e1 h1;rw [hm] at h1;rcases List.mem_or_eq_of_mem_set h1 with q|q
   ·exact h3 e1 q
   ·subst q;exact h3 e (List.mem_of_getElem? he)
  ·rw [hm,List.map_set];have:(es.map (·.2.2)).set i e.2.2=es.map (·.2.2):=by
    apply List.ext_getElem?
    intro j;rw [List.getElem?_set];by_cases hj:i=j
    ·subst hj;have hl2:=(zD6.1 he)
     obtain ⟨g1,g2⟩:=hl2;simp [g1,g2]
    ·simp [hj]
   rw [this];exact h4
theorem up {α:Type} {L':Ks} {b:Nat} {enc:α→Value} {l:List (List UInt8×α)} {rs':List Rs} {key:List UInt8} {y:Value} {m k v:Operand} {ty kt et:TypeId} (x:α) (S:Hs h0 h rs) (a:At rs (.mp b enc l)) (u:Ut rs (.mp b enc l) (.mp b enc (Jd l key x)) rs')
 (w:∀ h',Hs h0 h' rs'→KO P X sz ops os L' h' R) (ho:o.op = .mapUpdate ty m k v∨o.op = .insert ty m k v) (hg:qC ops L.tree o.guard=some true:=by exact rfl) (hm:kA L m=some (.map (some b)):=by exact rfl) (hk:kA L k=some (str key):=by exact rfl) (hv:kA L v=some y:=by exact rfl) (hy:y=enc x:=by exact rfl)
 (hu:P.underlying ty=some (.map kt et):=by exact rfl) (hkt:P.underlying kt=some .string:=by exact rfl) (hp:qL sz L o.dst (.tuple #[])=some L':=by exact rfl):KO P X sz ops (o :: os) L h R:=by
 subst hy;obtain ⟨h',e1,e2⟩:=qaj (x:=x) S u a hu hkt;refine qaf hg (h':=h') ?_ hp (w h' e2);rcases ho with ho|ho
 ·rw [ho];simp only [zZ,qG hm,qG hk,qG hv,e1]
 ·rw [ho];simp only [zZ,qG hm,qG hk,qG hv,e1]
theorem Jt {α:Type} {l:List (List UInt8×α)} {k:List UInt8} {x:α}:∀ (j:List UInt8),zW (Jd l k x) j=if j=k then some x else zW l j:=by
 intro j;have key:∀ (l:List (List UInt8×α)) (i:Nat),(Zc j (match Zc k l i with|some q=>l.set (q.1 - i) (k,x)|none=>l ++ [(k,x)]) i).map (·.2)=if j=k then some x else (Zc j l i).map (·.2):=by
  intro l;induction l with
  | nil =>
   intro i;simp only [Zc,zC0];by_cases h:j=k
   ·subst h;simp
   ·rw [if_neg (fun q=>h q.symm),if_neg h]
  | cons p r ih =>
   intro i;by_cases hk:p.1=k
   ·simp only [Zc,if_pos hk,zG6,List.set_cons_zero];by_cases hj:j=k
    ·subst hj;simp
    ·rw [if_neg (fun q=>hj q.symm),if_neg hj,if_neg (fun q=>hj (q.symm.trans hk))]
   ·have e:=ih (i+1);simp only [Zc,if_neg hk];cases hq:Zc k r (i+1) with
    | none =>
     rw [hq] at e;simp only [zC6,Zc] at e ⊢;by_cases hj:p.1=j
     ·rw [if_pos hj,if_pos hj,if_neg (fun q=>hk (hj.trans q))]
     ·rw [if_neg hj,if_neg hj];exact e
    | some q =>
     rw [hq] at e;obtain ⟨g1,-⟩:=wz hq;simp only at e ⊢;rw [show q.1 - i=(q.1 - (i+1))+1 by omega];simp only [List.set_cons_succ,Zc];by_cases hj:p.1=j
     ·rw [if_pos hj,if_pos hj,if_neg (fun q=>hk (hj.trans q))]
     ·rw [if_neg hj,if_neg hj];exact e
 have:=key l 0;unfold zW Jd;exact this
end
def jk (a b:List UInt8):Prop:=Op.bytesLess a b=true
instance (a b:List UInt8):Decidable (jk a b):=inferInstanceAs (Decidable (_=true))
theorem YC (a:List UInt8):¬ jk a []:=by unfold jk;cases a<;>simp [Op.bytesLess]
theorem Wl (b:UInt8) (l:List UInt8):jk [] (b :: l):=by unfold jk;simp [Op.bytesLess]
theorem Zz {a b:UInt8} {x y:List UInt8}:jk (a :: x) (b :: y)↔a<b∨(a=b∧jk x y):=by
 unfold jk;simp [Op.bytesLess]
theorem zA:∀ a:List UInt8,¬ jk a a
 | []=>YC _
 | a :: x=>by
  rw [Zz];rintro (h|⟨-,h⟩)
  ·exact UInt8.lt_irrefl _ h
  ·exact zA x h
theorem jY:∀ {a b c:List UInt8},jk a b→jk b c→jk a c
 | _,[],_,h,_=>absurd h (YC _)
 | _,_ :: _,[],_,h=>absurd h (YC _)
 | [],_ :: _,c :: z,_,_=>Wl _ _
 | a :: x,b :: y,c :: z,h1,h2=>by
  rw [Zz] at h1 h2 ⊢;rcases h1 with h1|⟨rfl,h1⟩<;>rcases h2 with h2|⟨rfl,h2⟩
  ·exact .inl (UInt8.lt_trans h1 h2)
  ·exact .inl h1
  ·exact .inl h2
  ·exact .inr ⟨rfl,jY h1 h2⟩
theorem ZN:∀ (a b:List UInt8),jk a b∨a=b∨jk b a
 | [],[]=>.inr (.inl rfl)
 | [],b :: y=>.inl (Wl _ _)
 | a :: x,[]=>.inr (.inr (Wl _ _))
 | a :: x,b :: y=>by
  rw [Zz,Zz];rcases zE7 a.toNat b.toNat with h|h|h
  ·exact .inl (.inl (UInt8.lt_iff_toNat_lt.2 h))
  ·have e:a=b:=UInt8.toNat_inj.1 h;subst e;rcases ZN x y with h|h|h
   ·exact .inl (.inr ⟨rfl,h⟩)
   ·exact .inr (.inl (by rw [h]))
   ·exact .inr (.inr (.inr ⟨rfl,h⟩))
  ·exact .inr (.inr (.inl (UInt8.lt_iff_toNat_lt.2 h)))
theorem jF {a b:List UInt8} (h:jk a b):¬ jk b a:=fun q=>zA a (jY h q)
theorem WE {a b:List UInt8} (h:jk a b):a≠b:=fun e=>by subst e;exact zA _ h
theorem Xg {a b:List UInt8} (h:¬ jk a b):b=a∨jk b a:=by
 rcases ZN a b with q|q|q
 ·exact absurd q h
 ·exact .inl q.symm
 ·exact .inr q
theorem vV {a b c:List UInt8} (h1:¬ jk b a) (h2:jk b c):jk a c:=by
 rcases Xg h1 with rfl|h
 ·exact h2
 ·exact jY h h2
def Q3 (a b:List UInt8):List UInt8:=if jk b a then b else a
def Q4 (a b:List UInt8):List UInt8:=if jk a b then b else a
def qdU (op:BinOp) (a b:List UInt8):Option Prop :=
 match op with
 | .lss=>some (jk a b)
 | .geq=>some (¬ jk a b)
 | .gtr=>some (jk b a)
 | .leq=>some (¬ jk b a)
 | _=>none
theorem WU (a b:List UInt8):(Op.bytesLess a b || zV ⟨a.toArray⟩ ⟨b.toArray⟩) = !(Op.bytesLess b a):=by
 rw [Q8];rcases ZN a b with h|h|h
 ·have h2:Op.bytesLess b a=false:=by
   have:=jF h;unfold jk at this;simpa using this
  unfold jk at h;rw [h,h2];rfl
 ·subst h;have h2:Op.bytesLess a a=false:=by
   have:=zA a;unfold jk at this;simpa using this
  rw [h2];simp
 ·have h2:Op.bytesLess a b=false:=by
   have:=jF h;unfold jk at this;simpa using this
  have h3:decide (a=b)=false:=decide_eq_false fun e=>zA b (by rw [e] at h;exact h);unfold jk at h;rw [h,h2,h3];rfl
theorem Kr {P:Program} {op:BinOp} {ty:TypeId} {a b:List UInt8} {p:Prop} (h:qdU op a b=some p) (v:Bool) (hv:p↔v=true):Qi P op ty (str a) (str b)=some (.bool v):=by
 have key:∀ q:Prop,∀ d:Bool,(q↔d=true)→(q↔v=true)→d=v:=fun q d h1 h2=>by
  cases d<;>cases v<;>simp_all
 unfold str;cases op<;>simp only [qdU,Option.some.injEq] at h<;>try (cases h;done)
 all_goals (subst h)
 all_goals (simp only [Qi,zF6,WU,Option.some.injEq,Value.bool.injEq])
 ·exact key _ _ Iff.rfl hv
 ·exact key _ _ (by unfold jk;simp) hv
 ·exact key _ _ (by unfold jk;simp) hv
 ·exact key _ _ (by unfold jk;simp) hv
section
variable {P:Program} {X:Extern} {inR:Bool} {sz:Nat} {L:Ks} {h h0:AH} {rs:List Rs} {ops:Array Oper} {os:List Oper} {o:Oper} {R:Ks→AH→Prop} {Q:KQ}
theorem tO {L1 L2:Ks} {op:BinOp} {x y:Operand} {ty ty2:TypeId} {l m:List UInt8} {p:Prop} (w1:p→KO P X sz ops os L1 h R) (w2:¬ p→KO P X sz ops os L2 h R) (ho:o.op = .binOp op ty x y ty2:=by exact rfl) (hg:qC ops L.tree o.guard=some true:=by exact rfl) (hx:kA L x=some (str l):=by exact rfl) (hy:kA L y=some (str m):=by exact rfl)
 (hop:qdU op l m=some p:=by exact rfl) (hp1:qL sz L o.dst (.bool true)=some L1:=by exact rfl) (hp2:qL sz L o.dst (.bool false)=some L2:=by exact rfl):KO P X sz ops (o :: os) L h R:=by
 by_cases q:p
 ·exact zS ho hg hx hy (Kr hop true (by simp [q])) hp1 (w1 q)
 ·exact zS ho hg hx hy (Kr hop false (by simp [q])) hp2 (w2 q)
theorem mnS {L':Ks} {x y:Operand} {tys:Array TypeId} {a b:List UInt8} (w:KO P X sz ops os L' h R) (ho:o.op = .call { callee:=.builtin .min,args:=#[x,y],argTypes:=tys }:=by exact rfl) (hg:qC ops L.tree o.guard=some true:=by exact rfl) (hx:kA L x=some (str a):=by exact rfl) (hy:kA L y=some (str b):=by exact rfl)
 (hp:qL sz L o.dst (str (Q3 a b))=some L':=by exact rfl):KO P X sz ops (o :: os) L h R :=
 zi hg (by
  rw [ho];unfold str;have e:(if (Op.bytesLess a b || zV ⟨a.toArray⟩ ⟨b.toArray⟩)=true then (⟨a.toArray⟩:ByteArray) else ⟨b.toArray⟩)=⟨(Q3 a b).toArray⟩:=by
   rw [WU];unfold Q3 jk;by_cases hb:Op.bytesLess b a=true<;>simp [hb]
  have hx':=qG hx;have hy':=qG hy;unfold str at hx' hy';simp only [zZ,jl,hx',hy',jc,YM,lesser,qO,e]) hp w
theorem mxS {L':Ks} {x y:Operand} {tys:Array TypeId} {a b:List UInt8} (w:KO P X sz ops os L' h R) (ho:o.op = .call { callee:=.builtin .max,args:=#[x,y],argTypes:=tys }:=by exact rfl) (hg:qC ops L.tree o.guard=some true:=by exact rfl) (hx:kA L x=some (str a):=by exact rfl) (hy:kA L y=some (str b):=by exact rfl)
 (hp:qL sz L o.dst (str (Q4 a b))=some L':=by exact rfl):KO P X sz ops (o :: os) L h R :=
 zi hg (by
  rw [ho];unfold str;have e:(if (!Op.bytesLess a b)=true then (⟨a.toArray⟩:ByteArray) else ⟨b.toArray⟩)=⟨(Q4 a b).toArray⟩:=by
   unfold Q4 jk;by_cases hb:Op.bytesLess a b=true<;>simp [hb]
  have hx':=qG hx;have hy':=qG hy;unfold str at hx' hy';simp only [zZ,jl,hx',hy',jc,YM,greater,qO,e]) hp w
theorem gE {L1 L2:Ks} {op:BinOp} {x y:Operand} {ty ty2:TypeId} {a b:Array Value} {fs:Array Field} {r v:Bool} (w1:r=true→KO P X sz ops os L1 h R) (w2:r=false→KO P X sz ops os L2 h R) (ho:o.op = .binOp op ty x y ty2:=by exact rfl) (hg:qC ops L.tree o.guard=some true:=by exact rfl)
 (hx:kA L x=some (.agg a):=by exact rfl) (hy:kA L y=some (.agg b):=by exact rfl) (hu:P.underlying ty=some (.struct fs):=by exact rfl) (hf:P5 P ty=true:=by decide +kernel) (hr:ZW P fs.toList a.toList b.toList=some r:=by exact rfl)
 (hn:(match a.toList with|.int .i64 _ :: _=>false | _=>true)=true:=by exact rfl) (hop:(match op with|.eql=>some true|.neq=>some false | _=>none)=some v:=by exact rfl) (hp1:qL sz L o.dst (.bool v)=some L1:=by exact rfl) (hp2:qL sz L o.dst (.bool !v)=some L2:=by exact rfl):KO P X sz ops (o :: os) L h R:=by
 have hq:Xq P ty a.toList b.toList=some r:=by unfold Xq;rw [hu,hf];exact hr
 have key:Qi P op ty (.agg a) (.agg b)=some (.bool (if v then r else !r)):=by
  cases op<;>simp only [Option.some.injEq] at hop<;>try (cases hop;done)
  all_goals subst hop
  all_goals unfold Qi
  ·simp only;split
   ·rename_i e1 e2;rw [e1] at hn;cases hn
   ·rename_i e;rw [hq];rfl
   ·rename_i e;cases e
   ·rename_i e _ ; exact absurd rfl (by assumption)
  ·simp only [hq];rfl
 cases r with
 | true=>exact zS ho hg hx hy key (by cases v<;>exact hp1) (w1 rfl)
 | false=>exact zS ho hg hx hy key (by cases v<;>exact hp2) (w2 rfl)
end
section
variable {P:Program} {X:Extern} {inR:Bool} {sz:Nat} {L:Ks} {h h0:AH} {rs:List Rs} {ops:Array Oper} {os:List Oper} {o:Oper} {R:Ks→AH→Prop} {Q:KQ}
theorem pU1 {L':Ks} {x:Operand} {s dt e t:TypeId} {b m:Nat} {c:List Value} (hb:h.get b=some (.cells c e none false)) (w:KO P X sz ops os L' h R) (ho:o.op = .convert s dt x:=by exact rfl) (hg:qC ops L.tree o.guard=some true:=by exact rfl) (hx:kA L x=some (.pointer (some ⟨b,0,none⟩)):=by exact rfl)
 (hs:P.underlying s=some (.pointer t):=by exact rfl) (hd:P.underlying dt=some .unsafePointer:=by exact rfl) (hz:zD P t=some (m+1):=by exact rfl) (hc:Nat.blt 0 c.length=true:=by exact rfl) (hp:qL sz L o.dst (.pointer (some ⟨b,0,none⟩))=some L':=by exact rfl):KO P X sz ops (o :: os) L h R :=
 zi hg (by rw [ho];simp only [zZ,qG hx,zQ,hs,hd,zL,zX,hb,hz,hc,qO]) hp w
theorem pU2 {L':Ks} {x:Operand} {s dt e t:TypeId} {b m:Nat} {c:List Value} (hb:h.get b=some (.cells c e none false)) (w:KO P X sz ops os L' h R) (ho:o.op = .convert s dt x:=by exact rfl) (hg:qC ops L.tree o.guard=some true:=by exact rfl) (hx:kA L x=some (.pointer (some ⟨b,0,none⟩)):=by exact rfl)
 (hs:P.underlying s=some .unsafePointer:=by exact rfl) (hd:P.underlying dt=some (.pointer t):=by exact rfl) (hz:zD P t=some (m+1):=by exact rfl) (hc:liesAt P P.depth e (c.length / P.cellsOf e) 0 t 1=true:=by exact rfl) (hp:qL sz L o.dst (.pointer (some ⟨b,0,none⟩))=some L':=by exact rfl):KO P X sz ops (o :: os) L h R :=
 zi hg (by rw [ho];simp only [zZ,qG hx,zQ,hs,hd,zL,zX,hb,hz,hc,qO]) hp w
theorem pN {L':Ks} {x y:Operand} {ty ty2 e:TypeId} {b m:Nat} (w:KO P X sz ops os L' h R) (ho:o.op = .binOp .neq ty x y ty2:=by exact rfl) (hg:qC ops L.tree o.guard=some true:=by exact rfl) (hx:kA L x=some (.pointer (some ⟨b,0,none⟩)):=by exact rfl) (hy:kA L y=some (.pointer (some ⟨b,0,none⟩)):=by exact rfl)
 (hu:P.underlying ty=some (.pointer e):=by exact rfl) (hz:zD P e=some (m+1):=by exact rfl) (hp:qL sz L o.dst (.bool false)=some L':=by exact rfl):KO P X sz ops (o :: os) L h R :=
 zS ho hg hx hy (v:=.bool false) (by simp only [Qi,hu,hz,show Nat.beq b b=true by simp];rfl) hp w
theorem Yo {σ:Type} {a b c:Code} (I:σ→AH→Prop) (sl:σ→Ks) (w1:K P X inR sz a L h (VH P X inR sz b (qbV I sl Q))) (w2:∀ s h',I s h'→K P X inR sz c (sl s) h' Q):K P X inR sz a L h (VH P X inR sz b (VH P X inR sz c Q)):=by
 have key:∀ x L' h',qbV I sl Q x L' h'→VH P X inR sz c Q x L' h':=fun x L' h' q=>by
  cases x with
  | norm=>obtain ⟨s,q1,q2⟩:=q;exact (w2 s h' q1).le q2
  | exit id=>exact q
  | ret=>exact q
 refine w1.mono fun x L' h' q=>?_;cases x with
 | norm=>exact K.mono q key
 | exit id=>exact q
 | ret=>exact q
theorem qdr {σ:Type} {a b c:Code} (I:σ→AH→Prop) (sl:σ→Ks) (w1:K P X inR sz a L h (VH P X inR sz b (qbV I sl Q))) (w2:∀ s h',I s h'→K P X inR sz c (sl s) h' Q):K P X inR sz a L h (VH P X inR sz (.seq b c) Q) :=
 w1.mono fun x L' h' q=>by
  cases x with
  | norm=>exact qco I sl q w2
  | exit id=>exact q
  | ret=>exact q
theorem Zr {σ:Type} {a c:Code} (I:σ→AH→Prop) (sl:σ→Ks) (w1:K P X inR sz a L h (qbV I sl Q)) (w2:∀ s h',I s h'→K P X inR sz c (sl s) h' Q):K P X inR sz a L h (VH P X inR sz c Q) :=
 w1.mono fun x L' h' q=>by
  cases x with
  | norm=>obtain ⟨s,q1,q2⟩:=q;exact (w2 s h' q1).le q2
  | exit id=>exact q
  | ret=>exact q
end
theorem Sep.perm {lo:Nat} {h:AH} {rs rs':List Rs} (p:rs.Perm rs'):∀ {U:Fp},Sep lo h rs U→Sep lo h rs' U:=by
 induction p with
 | nil=>intro U k;exact k
 | cons x p ih=>intro U ⟨fp,h1,h2,h3⟩;exact ⟨fp,h1,h2,ih h3⟩
 | swap x y l =>
  intro U ⟨fy,h1,h2,fx,g1,g2,g3⟩;exact ⟨fx,g1,fun b hb=>⟨(g2 b hb).1,(g2 b hb).2.1,(g2 b hb).2.2.1⟩,fy,h1,fun b hb=>⟨(h2 b hb).1,(h2 b hb).2.1,(h2 b hb).2.2,fun q=>(g2 b q).2.2.2 hb⟩,g3.mono fun b hb=>⟨⟨hb.1.1,hb.2⟩,hb.1.2⟩⟩
 | trans p q ih1 ih2=>intro U k;exact ih2 (ih1 k)
theorem Hs.perm {h0 h:AH} {rs rs':List Rs} (S:Hs h0 h rs) (p:rs.Perm rs'):Hs h0 h rs':=⟨S.ext,S.sep.perm p⟩
structure SlV where
 p:Option Addr
 n:Nat
 c:Nat
abbrev SlV.val (s:SlV):Value:=.slice s.p s.n s.c
theorem Rd.qe5 {h:AH} {v:Value} {z n:Nat} {c:List Value} (r:Rd h v z n c):∃ s:SlV,v=s.val:=by
 rcases r with ⟨rfl,-,-⟩|⟨b,o,cap,cc,e,s,q,rfl,-,-⟩
 ·exact ⟨⟨none,0,0⟩,rfl⟩
 ·exact ⟨⟨some ⟨b,o,none⟩,n,cap⟩,rfl⟩
theorem Hs.x8 {h0 h:AH} {rs:List Rs} {α:Type} {e:TypeId} {z:Nat} {enc:α→List Value} (S:Hs h0 h rs):Hs h0 h (.sl (.slice none 0 0) e z enc [] :: rs) :=
 S.grow (fp:=fun _=>False) (Ext.refl S.wf) (.inl ⟨rfl,rfl⟩) fun b hb=>hb.elim
theorem Hs.anyS {h0 h:AH} {rs:List Rs} {p:AH→Fp→Prop} (S:Hs h0 h rs) (k:∀ h',p h' fun _=>False):Hs h0 h (.any p :: rs) :=
 S.grow (fp:=fun _=>False) (Ext.refl S.wf) (fun h' _=>k h') fun b hb=>hb.elim
theorem Hs.qej {h0 h:AH} {rs:List Rs} {p:AH→Fp→Prop} (S:Hs h0 h rs) (a:At rs (.any p)):∃ fp,p h fp:=by
 obtain ⟨fp,k,-⟩:=a.ok S.sep;exact ⟨fp,k h fun _ _=>rfl⟩
theorem Hs.qfa {h0 h:AH} {rs:List Rs} {v:Value} {α:Type} {e:TypeId} {z:Nat} {enc:α→List Value} {l:List α} (S:Hs h0 h rs) (a:At rs (.sl v e z enc l)):ZI v:=by
 obtain ⟨fp,k,-⟩:=a.ok S.sep;rcases k with ⟨rfl,-⟩|⟨b,o,cc,slk,cap,rfl,-,-,-,h,-⟩
 ·exact zA3 _
 ·exact h.1
theorem Hs.conv {h0 h:AH} {rs:List Rs} {r r':Rs} (S:Hs h0 h (r :: rs)) (k:∀ fp,r.ok h fp→r'.ok h fp):Hs h0 h (r' :: rs):=by
 obtain ⟨fp,k1,k2⟩:=S.sep;exact ⟨S.ext,fp,k fp k1,k2⟩
theorem YL {α:Type} {l m:List α} {j:Nat} {d:α} (h:j<l.length):(l ++ m).getD j d=l.getD j d:=by simp [List.getD,zH8 h]
theorem Gt {α:Type} {l m:List α} {j:Nat} {d:α} (h:l.length≤j):(l ++ m).getD j d=m.getD (j - l.length) d:=by simp [List.getD,List.getElem?_append_right h]
theorem Hs.qfD {h0 h:AH} {rs:List Rs} {α:Type} {v:Value} {e:TypeId} {z:Nat} {enc:α→List Value} {l:List α} (S:Hs h0 h (.sl v e z enc l :: rs)):Hs h0 h (.rd v z enc l :: rs):=S.conv fun fp k=>by
 rcases k with k|⟨b,o,cc,slk,cap,h1,h2,h3,h4,-⟩
 ·exact .inl k
 ·exact .inr ⟨b,o,_,cc,e,slk,false,h1,h2,h3,h4⟩
theorem Hs.sV {h0 h:AH} {rs:List Rs} (S:Hs h0 h rs) (v:Value) {α:Type} {z:Nat} {enc:α→List Value} {l:List α} [i:HasR rs v α z enc l]:∃ s:SlV,v=s.val:=(i.rd S).qe5
end Go.Proofs.Xx
namespace Go.Proofs.Xx
open Go
def Star (h:AH):List Rs→Fp→Prop
 | [],_=>True
 | r :: rs,U=>∃ fp:Fp,r.ok h fp∧(∀ b,fp b→U b)∧Star h rs (fun b=>U b∧¬ fp b)
theorem Star.mono {h:AH}:∀ {rs:List Rs} {U U':Fp},(∀ b,U b→U' b)→Star h rs U→Star h rs U'
 | [],_,_,_,_=>trivial
 | r :: rs,U,U',hu,⟨fp,h1,h2,h3⟩=>⟨fp,h1,fun b hb=>hu b (h2 b hb),h3.mono fun b hb=>⟨hu b hb.1,hb.2⟩⟩
theorem Star.local {h h':AH}:∀ {rs:List Rs} {U:Fp},Star h rs U→(∀ b,U b→h'.get b=h.get b)→Star h' rs U
 | [],_,_,_=>trivial
 | r :: rs,U,⟨fp,h1,h2,h3⟩,hs=>⟨fp,h1.local fun b hb=>hs b (h2 b hb),h2,h3.local fun b hb=>hs b hb.1⟩
theorem Star.sep {lo:Nat} {h:AH} {rs:List Rs}:∀ {l:List Rs} {U V:Fp},Star h l U→(∀ b,U b→lo≤b∧b<h.next∧V b)→Sep lo h rs (fun b=>V b∧¬ U b)→Sep lo h (l ++ rs) V
 | [],U,V,_,_,k=>k.mono fun b hb=>hb.1
 | r :: l,U,V,⟨fp,h1,h2,h3⟩,hu,k=>⟨fp,h1,fun b hb=>hu b (h2 b hb),h3.sep (fun b hb=>⟨(hu b hb.1).1,(hu b hb.1).2.1,(hu b hb.1).2.2,hb.2⟩) (k.mono fun b hb=>⟨⟨hb.1,fun q=>hb.2 (h2 b q)⟩,fun q=>hb.2 q.1⟩)⟩
theorem Sep.star {lo:Nat} {h:AH} {rs:List Rs}:∀ {l:List Rs} {V:Fp},Sep lo h (l ++ rs) V→∃ U:Fp,Star h l U∧(∀ b,U b→lo≤b∧b<h.next∧V b)∧Sep lo h rs (fun b=>V b∧¬ U b)
 | [],V,k=>⟨fun _=>False,trivial,fun b hb=>hb.elim,k.mono fun b hb=>⟨hb,id⟩⟩
 | r :: l,V,⟨fp,h1,h2,h3⟩=>by
  obtain ⟨U,k1,k2,k3⟩:=h3.star;refine ⟨fun b=>fp b∨U b,⟨fp,h1,fun b hb=>.inl hb,k1.mono fun b hb=>⟨.inr hb,(k2 b hb).2.2.2⟩⟩,fun b hb=>?_,k3.mono fun b hb=>⟨hb.1.1,fun q=>?_⟩⟩
  ·rcases hb with hb|hb
   ·exact h2 b hb
   ·exact ⟨(k2 b hb).1,(k2 b hb).2.1,(k2 b hb).2.2.1⟩
  ·rcases q with q|q
   ·exact hb.1.2 q
   ·exact hb.2 q
abbrev qbp {σ:Type} (φ:σ→Prop) (f:σ→List Rs):Rs:=.any (fun h fp=>∃ s,φ s∧Star h (f s) fp)
theorem Hs.unpack {σ:Type} {φ:σ→Prop} {f:σ→List Rs} {h0 h:AH} {rs:List Rs} (S:Hs h0 h (qbp φ f :: rs)):∃ s,φ s∧Hs h0 h (f s ++ rs):=by
 obtain ⟨fp,k1,k2,k3⟩:=S.sep;obtain ⟨s,hs,hst⟩:=k1 h fun _ _=>rfl;exact ⟨s,hs,S.ext,hst.sep k2 k3⟩
theorem Hs.pack {σ:Type} {φ:σ→Prop} {f:σ→List Rs} {h0 h:AH} {rs:List Rs} (s:σ) (hs:φ s) (S:Hs h0 h (f s ++ rs)):Hs h0 h (qbp φ f :: rs):=by
 obtain ⟨U,k1,k2,k3⟩:=S.sep.star;exact ⟨S.ext,U,fun h' q=>⟨s,hs,k1.local q⟩,k2,k3⟩
section
variable {P:Program} {X:Extern} {sz:Nat} {L:Ks} {h h0:AH} {rs:List Rs} {ops:Array Oper} {os:List Oper} {o:Oper} {R:Ks→AH→Prop}
theorem tk {α:Type} {x hi:Operand} {ty e:TypeId} {v vh:Value} {z:Nat} {enc:α→List Value} {l:List α} {f:Rs→List Rs} {dd:List Rs} {d:Tmp} (b:Nat) (S:Hs h0 h rs) (ho:o.op = .slice ty x none (some hi) none) (hx:kA L x=some v) [i:HasS rs v α e z enc l f dd]
 (w:∀ v',Hs h0 h (f (.sl v' e z enc (l.take b)))→KO P X sz ops os (L.put d v') h R) (hg:qC ops L.tree o.guard=some true:=by exact rfl) (hhi:kA L hi=some vh:=by exact rfl) (hbo:qR (some vh) l.length=some b:=by exact rfl) (hb:b≤l.length:=by first|omega|grind)
 (hz:∀ x,(enc x).length=z:=by intro _;rfl) (hu:Qu P ty=some z:=by exact rfl) (hdst:o.dst=some d:=by exact rfl) (hds:Nat.blt d sz=true:=by exact rfl):KO P X sz ops (o :: os) L h R:=by
 obtain ⟨fp,k1,k2,-⟩:=(i.ut (.sl v e z enc l)).ok (h':=h) S.ext.next (zA3 _) S.sep
 have hue:∃ e',P.underlying ty=some (.slice e')∧zD P e'=some z:=by
  unfold Qu at hu;split at hu
  ·exact ⟨_,by assumption,hu⟩
  ·cases hu
 obtain ⟨e',hu1,hu2⟩:=hue;have hhi':zT L.tree hi=some vh:=qG hhi;have go:∀ v',zt P ty v none (some vh) none h=some v'→(∀ fq,(Rs.sl v e z enc l).ok h fq→(Rs.sl v' e z enc (l.take b)).ok h fq)→KO P X sz ops (o :: os) L h R:=fun v' q1 q2=>by
  refine zi (v:=v') (h':=h) hg ?_ (by simp only [qL,hdst,hds]) (w v' (S.same (i.ut _) q2));rw [ho];simp only [zZ,qG hx,zO,hhi',q1,qO,zH]
 have h0b:qR none 0=some 0:=rfl;rcases k1 with ⟨rfl,rfl⟩|⟨bb,o',cc,slk,cap,g1,g2,g3,g4,g5,g6⟩
 ·obtain rfl:b=0:=by simpa using hb
  refine go (.slice none 0 0) ?_ fun fq q=>.inl ⟨rfl,by simp⟩;have:qR (some vh) 0=some 0:=hbo;simp only [zt,hu1,hu2,this,h0b]
 ·subst g1;have t1:Nat.ble 0 b=true:=by simp
  have t2:Nat.ble b cap=true:=zB3 (zD0 hb g5.1);have hlen:(l.take b).length=b:=by simp;omega
  have sub:=jO (i:=0) (m:=b*z) g4 (by rw [zG1];exact zD3 z hb);rw [List.drop_zero,← QI hz,Nat.add_zero] at sub;have key:∀ fq,(Rs.sl (.slice (some ⟨bb,o',none⟩) l.length cap) e z enc l).ok h fq→(Rs.sl (.slice (some ⟨bb,o',none⟩) (b - 0) (cap - 0)) e z enc (l.take b)).ok h fq:=fun fq q=>by
   rcases q with ⟨q1,-⟩|⟨b2,o2,cc2,sl2,cap2,q1,q2,q3,q4,q5,q6⟩
   ·cases q1
   ·cases q1
    exact .inr ⟨bb,o',cc,slk,cap,by rw [hlen,Nat.sub_zero,Nat.sub_zero],g2,q3,by rw [hlen];exact sub,⟨by rw [hlen];exact zD0 hb g5.1,g5.2⟩,g6⟩
  cases hk:(slk.isNone && Nat.beq 0 cap) with
  | false =>
   refine go (.slice (some ⟨bb,o',none⟩) (b - 0) (cap - 0)) ?_ key;simp only [zt,hu1,hu2,g2,h0b,hbo,t1,t2,hk,zF9,Nat.zero_mul,Nat.add_zero]
  | true =>
   refine go (.slice (some ⟨bb,o',none⟩) (b - 0) (cap - 0)) ?_ key;simp only [zt,hu1,hu2,g2,h0b,hbo,t1,t2,hk,zF9]
theorem bsn {ty:TypeId} {n:Nat} {ps:Array (Nat×Operand)} {vs:List (Nat×Value)} {c:List Value} {e:TypeId} {α:Type} {z:Nat} {d:Tmp} (enc:α→List Value) (l:List α) (S:Hs h0 h rs) (w:∀ u h',Hs h0 h' (.sl u e z enc l :: rs)→KO P X sz ops os (L.put d u) h' R) (ho:o.op = .buildSlice ty n ps:=by exact rfl) (hg:qC ops L.tree o.guard=some true:=by exact rfl)
 (hx:Xn L ps.toList=some vs:=by exact rfl) (hv:jf P ty n vs h=some (.slice (some ⟨h.next,0,none⟩) n n,h.add (.cells c e none false)):=by exact rfl) (hl:l.length=n:=by exact rfl) (hc:c=l.flatMap enc:=by exact rfl) (hz:c.length=l.length*z:=by exact rfl) (hdst:o.dst=some d:=by exact rfl) (hds:Nat.blt d sz=true:=by exact rfl):KO P X sz ops (o :: os) L h R:=by
 subst hl;exact VB ho hg hx hv (by simp only [qL,hdst,hds]) (w _ _ ((S.add c e).qfe (z:=z) enc l hc hz))
end
section
variable {P:Program} {X:Extern} {inR:Bool} {sz:Nat} {L:Ks} {h h0:AH} {rs:List Rs} {ops:Array Oper} {os:List Oper} {o:Oper} {R:Ks→AH→Prop} {Q:KQ}
theorem qfU {l sz:Nat} {t:Tr Value} {p q:Tmp} {a b:Code} {v u:Value} {R:Value→AH→Prop} (hk:Kn t L) (S:Hs h0 h (Gs l (.loop .ready none sz t [p,q] a b) :: rs)) (hp:Nat.blt p sz=true) (hq:Nat.blt q sz=true)
 (w:K P X true sz a ((L.put p v).put q u) h (fun x L1 h1=>x = .norm∧∃ rs1,Hs h0 h1 (Gs l (.loop .ready none sz t [p,q] a b) :: rs1)∧∀ h2,Hs h0 h2 (Gs l (.loop .busy none sz t [p,q] a b) :: rs1) →
  K P X true sz b L1 h2 (fun x2 _ h3=>∃ rs3,Hs h0 h3 (Gs l (.loop .busy none sz t [p,q] a b) :: rs3)∧((x2 = .norm∧∀ h4,Hs h0 h4 (Gs l (.loop .ready none sz t [p,q] a b) :: rs3)→R (.bool true) h4)∨(x2 = .ret∧∀ h4,Hs h0 h4 (Gs l (.loop .done (some .ret) sz t [p,q] a b) :: rs3)→R (.bool false) h4))))):Yd P X l [v,u] h R:=by
 obtain ⟨n,x,t1,h1,e1,L1,k1,rfl,rs1,S1,w1⟩:=w ((t.set p v).set q u) ((hk.put p v).put q u);obtain ⟨m,x2,t2,h3,e2,L2,k2,rs3,S3,w3⟩:=w1 _ (S1.KE _) t1 k1;have hall:([p,q]:List Tmp).all (fun p=>Nat.blt p sz)=true:=by simp only [List.all_cons,hp,hq,List.all_nil,zF9]
 rcases w3 with ⟨rfl,w3⟩|⟨rfl,w3⟩
 ·refine ⟨max n m,.bool true,_,?_,w3 _ (S3.KE _)⟩;unfold Qx;simp only [S.VO,hall,Jm,jK (Nat.le_max_left n m) _ _ _ _ _ _ e1,S1.VO,jK (Nat.le_max_right n m) _ _ _ _ _ _ e2,S3.VO]
 ·refine ⟨max n m,.bool false,_,?_,w3 _ (S3.KE _)⟩;unfold Qx;simp only [S.VO,hall,Jm,jK (Nat.le_max_left n m) _ _ _ _ _ _ e1,S1.VO,jK (Nat.le_max_right n m) _ _ _ _ _ _ e2,S3.VO,qbF]
theorem qU {op:Op} {ty:TypeId} {x:Operand} {b k:Nat} (ho:op = .load ty x) (hx:kA L x=some (.pointer (some ⟨b,k,none⟩))):ZR L.tree op=some b:=by
 subst ho;simp only [ZR,qG hx];rfl
theorem qV {op:Op} {ty:TypeId} {x:Operand} {v:Value} {z k off:Nat} (ho:op = .load ty x) (hx:kA L x=some (Y1 v z k off)):ZR L.tree op=some (ZK v):=by
 subst ho;simp only [ZR,qG hx,qy]
theorem qcn {f:Operand} {g:FuncId} {first captured:Array Value} {ps:Array Tmp} {a b:Code} (S:Hs h0 h rs) (hf:kA L f=some (.func (.func g) first captured))
 (w:∀ l t h1,Kn t L→Hs h0 h1 (Gs l (.loop .ready none sz t ps.toList a b) :: rs)→Fn P X g (first.toList ++ (yv l :: captured.toList)) h1 (fun _ h2=>∃ rs2,(Hs h0 h2 (Gs l (.loop .ready none sz t ps.toList a b) :: rs2)∧∀ h3,Hs h0 h3 rs2→Q .norm L h3)∨(Hs h0 h2 (Gs l (.loop .done (some .ret) sz t ps.toList a b) :: rs2)∧∀ h3,Hs h0 h3 rs2→Q .ret L h3))):K P X false sz (.rangeFunc f ps a b) L h Q:=fun t hk=>by
 obtain ⟨n,v,h2,e,rs2,q⟩:=w h.next t _ hk (S.qe0 _)
 have e0:zT t f=some (.func (.func g) first captured):=qbE hk hf;have e':Qb P X (exec P X n) g (first.toList ++ (.func (.yield h.next) #[] #[] :: captured.toList)) (h.add (.loop .ready none sz t ps.toList a b))=some (v,h2):=e;rcases q with ⟨S2,q⟩|⟨S2,q⟩
 ·refine ⟨n+1,.norm,t,_,?_,L,hk,q _ (S2.KE (.loop .exhausted none sz t ps.toList a b)).tail⟩;rw [jS];simp only [zx,e0,e',S2.VO]
 ·refine ⟨n+1,.ret,t,_,?_,L,hk,q _ (S2.KE (.loop .exhausted (some .ret) sz t ps.toList a b)).tail⟩;rw [jS];simp only [zx,e0,e',S2.VO]
end
end Go.Proofs.Xx
