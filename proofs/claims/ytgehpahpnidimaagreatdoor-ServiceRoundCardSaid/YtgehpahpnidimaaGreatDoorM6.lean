/-
  The back of a slice of one's own,seen beside it;clear;bytes.
-/
import Derived.Test.YtgehpahpnidimaaGreatDoorM5
import Derived.Test.YtgehpahpnidimaaGreatDoorM3
import Derived.Laws.Externs
import Derived.Lib.Bytealg
import Derived.Lib.Overlaps
import Derived.Shelf.Strings.Search2
import Derived.Shelf.Strconv.Itoa1
import Derived.Test.YtgehpahpnidimaaGreatDoorProg
import Derived.KernelRfl
import Derived.WalkKit
import Derived.Lib.Walk
import Derived.Lib.SliceRun
import Derived.Lib.JoinLaws
import Derived.Lib.AppendZeros
import Derived.Lib.AppendZerosOnto
import Derived.Laws.NewBlocks
import Derived.Laws.IdiomCopy
import Derived.Shelf.RegionOpenPlain
set_option linter.unusedSectionVars false
set_option linter.unusedSimpArgs false
set_option linter.unusedVariables false
set_option maxRecDepth 100000
namespace Go.Proofs.Xx
open Go
def IsView (v v2:Value) (z k n:Nat):Prop:=∃ b o cap c2,v = .slice (some ⟨b,o,none⟩) n cap∧v2 = .slice (some ⟨b,o+k*z,none⟩) (n - k) c2
theorem IsView.el {v v2:Value} {z k n:Nat} (V:IsView v v2 z k n) (j off:Nat):Vd v2 z j off=Vd v z (k+j) off:=by
 obtain ⟨b,o,cap,c2,rfl,rfl⟩:=V;simp only [Vd];rw [show o+k*z+j*z+off=o+(k+j)*z+off by rw [zE1];omega]
theorem IsView.rd {α:Type} {v v2:Value} {z k:Nat} {h:AH} {enc:α→List Value} {l:List α} (V:IsView v v2 z k l.length) (r:zo h v z enc l) (hz:∀ x,(enc x).length=z) (hk:k≤l.length):zo h v2 z enc (l.drop k):=by
 obtain ⟨b,o,cap,c2,rfl,rfl⟩:=V;rcases r with ⟨q,-⟩|⟨b',o',cap,cc,e,s,q,e1,h1,h2⟩
 ·cases q
 ·cases e1
  have hkz:k*z≤l.length*z:=zD3 z hk;have hsub:k*z+(l.length - k)*z=l.length*z:=by rw [← zE1];congr 1;omega
  refine .inr ⟨b,o+k*z,c2,cc,e,s,q,by rw [zB4],h1,?_⟩;rw [zB4,Qv hz,jG h2 (by omega),zF8];rw [zB4,qO hz];omega
section
variable {P:Program} {X:Extern} {inR:Bool} {sz:Nat} {L:Ks} {h h0:AH} {rs:List Rs} {ops:Array Oper} {os:List Oper} {o:Oper} {R:Ks→AH→Prop} {Q:KQ}
theorem cl {α:Type} {x:Operand} {ty e e':TypeId} {v v2:Value} {z k:Nat} {enc:α→List Value} {l:List α} {f:Rs→List Rs} {dd:List Rs} (y0:α) (S:Hs h0 h rs) (V:IsView v v2 z k l.length) (ho:o.op = .call { callee:=.builtin .clear,args:=#[x],argTypes:=#[ty] }) (hx:kA L x=some v2) [i:HasS rs v α e z enc l f dd]
 (w:∀ h',Hs h0 h' (f (.sl v e z enc (l.take k ++ List.replicate (l.length - k) y0)))→KO P X sz ops os L h' R) (hu:P.underlying ty=some (.slice e'):=by exact rfl) (hz0:qN P e'=some (enc y0):=by exact rfl) (h1:(enc y0).all one? = true:=by exact rfl)
 (hz:∀ x,(enc x).length=z:=by intro _;rfl) (hk:k<l.length:=by omega) (hzz:0<z:=by decide) (hg:qo ops L.tree o.guard=some true:=by exact rfl) (hdst:o.dst=none:=by exact rfl):KO P X sz ops (o :: os) L h R:=by
 obtain ⟨b,o',cap,c2,rfl,rfl⟩:=V;obtain ⟨fp,k1,k2,-⟩:=(i.ut (.sl (.slice (some ⟨b,o',none⟩) l.length cap) e z enc l)).ok (h':=h) S.ext.next (zA3 _) S.sep
 rcases k1 with ⟨q,-⟩|⟨b',o2,cc,slk,cap2,g1,g2,g3,g4,g5,g6⟩
 ·cases q
 cases g1
 have hrow:zeroRow (enc y0) (l.length - k)=(List.replicate (l.length - k) y0).flatMap enc:=JM rfl _;have hrl:((List.replicate (l.length - k) y0).flatMap enc).length=(l.length - k)*z:=by rw [qO hz];simp
 have hkz:k*z+(l.length - k)*z=l.length*z:=by rw [← zE1];congr 1;omega
 obtain ⟨he,hlen⟩:l.flatMap enc=(cc.drop o').take (l.length*z)∧o'+l.length*z≤cc.length:=by
  rcases QA g4 with q|⟨q1,q2⟩
  ·exact q
  ·exfalso
   have:l.length*z=0:=q1;have:=Nat.mul_pos (show 0<l.length by omega) hzz;omega
 have hall:((List.replicate (l.length - k) y0).flatMap enc).all one? = true:=by
  rw [zC8];intro u hu;rw [zH0] at hu;obtain ⟨y,hy,hu⟩:=hu;rw [List.mem_replicate] at hy;rw [hy.2] at hu;exact zC8.1 h1 u hu
 have hput:putCells h b (o'+k*z) cc e slk (zeroRow (enc y0) (l.length - k))=some (h.put b (.cells (splice cc (o'+k*z) ((List.replicate (l.length - k) y0).flatMap enc)) e slk false)):=by
  rw [hrow];unfold putCells;rw [hall,zB3 (by rw [hrl];omega)];rfl
 obtain ⟨m,hm⟩:∃ m,l.length - k=m+1:=⟨l.length - k - 1,by omega⟩
 have hclear:xR P ty (.slice (some ⟨b,o'+k*z,none⟩) (l.length - k) c2) h=some (h.put b (.cells (splice cc (o'+k*z) ((List.replicate (l.length - k) y0).flatMap enc)) e slk false)):=by
  rw [hm] at hput ⊢;simp only [xR,hu,hz0,g2,hput]
 refine qW (v:=.tuple #[]) (h':=h.put b (.cells (splice cc (o'+k*z) ((List.replicate (l.length - k) y0).flatMap enc)) e slk false)) hg ?_ (by simp only [qE,hdst]) (w _ ?_)
 ·rw [ho];simp only [zD,zY,qB hx,zO,hclear]
 ·have hsp:splice cc (o'+k*z) ((List.replicate (l.length - k) y0).flatMap enc)=splice cc (o'+k*z+0) ((List.replicate (l.length - k) y0).flatMap enc):=rfl;have hin:=yK (cc:=cc) (uc:=(List.replicate (l.length - k) y0).flatMap enc) (o:=o') (n:=l.length*z) (a:=k*z) (z:=(l.length - k)*z) (off:=0) hlen (by omega) (by rw [hrl];omega);have hfl:((l.take k ++ List.replicate (l.length - k) y0).flatMap enc)=splice ((cc.drop o').take (l.length*z)) (k*z) (splice ((((cc.drop o').take (l.length*z)).drop (k*z)).take ((l.length - k)*z)) 0 ((List.replicate (l.length - k) y0).flatMap enc)):=by
   rw [← he];have hll:(l.flatMap enc).length=l.length*z:=qO hz l;rw [List.flatMap_append,jQ hz];simp only [splice,List.take_zero,zC0,zG1];rw [hrl,List.drop_of_length_le (l:=(((l.flatMap enc).drop (k*z)).take ((l.length - k)*z))) (by rw [zA9];omega),zD7,hrl,List.drop_of_length_le (by omega),zD7]
  refine S.turn (i.ut _) (zA3 _) (S.wf.put (k2 b g3).2.1 _) fun fq q1 q2=>?_;have hb:fq b:=by
   rcases q1 with ⟨q,-⟩|⟨b',o2,cc2,sl2,cap2,q3,q4,q5,-⟩
   ·cases q
   ·cases q3;exact q5
  have hnl:(l.take k ++ List.replicate (l.length - k) y0).length=l.length:=by simp;omega
  refine ⟨fun j _ hj=>by rw [AH.get_put,if_neg];intro q;subst q;exact hj hb,fun j=>j=b,.inr ⟨b,o',_,slk,cap,by rw [hnl],by rw [AH.get_put,if_pos rfl],rfl,?_,?_,g6⟩,fun j hj=>by subst hj;exact ⟨(k2 _ g3).2.1,.inl hb⟩⟩
  ·rw [hnl,hfl];exact hin
  ·rw [hnl,QZ (by rw [hrl];omega)];exact g5
theorem rmU {L':Ks} {x y:Operand} {ty ty2:TypeId} {a b:Int} (w:KO P X sz ops os L' h R) (ho:o.op = .binOp .rem ty x y ty2:=by exact rfl) (hg:qo ops L.tree o.guard=some true:=by exact rfl) (hx:kA L x=some (.int .u8 a):=by exact rfl) (hy:kA L y=some (.int .u8 b):=by exact rfl)
 (hb:0≤a∧0<b:=by omega) (hp:qE sz L o.dst (.int .u8 (a % b))=some L':=by exact rfl):KO P X sz ops (o :: os) L h R :=
 zN ho hg hx hy (by
  have h1:¬ b=0:=by omega
  have h2:a.tmod b=a % b:=Int.tmod_eq_emod_of_nonneg hb.1;simp only [Qe,decide_true,decide_eq_false h1,h2]) hp w
theorem su0 {α:Type} {x:Operand} {lo hi:Option Operand} {vlo vhi:Option Value} {ty:TypeId} {v:Value} {z:Nat} {enc:α→List Value} {l:List α} {d:Tmp} (a b:Nat) (S:Hs h0 h rs) (w0:WfH h0) (hr:zo h0 v z enc l) (hc:zV v)
 (w:∀ v',zo h0 v' z enc ((l.drop a).take (b - a))→zV v'→KO P X sz ops os (L.put d v') h R) (ho:o.op = .slice ty x lo hi none:=by exact rfl) (hx:kA L x=some v:=by exact rfl) (hg:qo ops L.tree o.guard=some true:=by exact rfl)
 (hlo:zH L.tree lo=some vlo:=by exact rfl) (hhi:zH L.tree hi=some vhi:=by exact rfl) (hz:∀ x,(enc x).length=z:=by intro _;rfl) (hu:Qx P ty=some z:=by exact rfl)
 (h1:qR vlo 0=some a:=by exact rfl) (h2:qR vhi l.length=some b:=by exact rfl) (hab:a≤b∧b≤l.length:=by first|omega|grind) (hdst:o.dst=some d:=by exact rfl) (hds:Nat.blt d sz=true:=by exact rfl):KO P X sz ops (o :: os) L h R:=by
 obtain ⟨v',e1,e2,e3⟩:=gQ hr hc hz hu h1 h2 hab;have hue:∃ e',P.underlying ty=some (.slice e')∧zq P e'=some z:=by
  unfold Qx at hu;split at hu
  ·exact ⟨_,by assumption,hu⟩
  ·cases hu
 obtain ⟨e',hu1,hu2⟩:=hue;have e4:zh P ty v vlo vhi none h=zh P ty v vlo vhi none h0:=by
  rcases hr with ⟨rfl,g1,g2⟩|⟨b',o',cap,cc,e,s,q,rfl,g1,g2⟩
  ·simp only [zh,hu1]
  ·simp only [zh,hu1,S.ext.get w0 g1,g1]
 refine qW (v:=v') (h':=h) hg ?_ (by simp only [qE,hdst,hds]) (w v' e2 e3);rw [ho];simp only [zD,qB hx,hlo,hhi,show zH L.tree none=some none from rfl,e4,e1,qH,zB]
theorem XW:∀ l:List Nat,bytesOf? (l.flatMap eU)=some (l.map UInt8.ofNat)
 | []=>rfl
 | x :: l=>by
  rw [zG2];show (match byteOf? (.int .u8 (Int.ofNat x)),bytesOf? (l.flatMap eU) with|some b,some s=>some (b :: s) | _,_=>none)=_
  rw [XW l];rfl
theorem bS {L':Ks} {x:Operand} {s dt e:TypeId} {v:Value} {l:List Nat} (hr:zo h v 1 eU l) (w:KO P X sz ops os L' h R) (ho:o.op = .convert s dt x:=by exact rfl) (hg:qo ops L.tree o.guard=some true:=by exact rfl) (hx:kA L x=some v:=by exact rfl)
 (hs:P.underlying s=some (.slice e):=by exact rfl) (he:P.underlying e=some (.int .u8):=by exact rfl) (hd:P.underlying dt=some .string:=by exact rfl) (hp:qE sz L o.dst (str (l.map UInt8.ofNat))=some L':=by exact rfl):KO P X sz ops (o :: os) L h R:=by
 refine qW hg ?_ hp w;rw [ho];have e1:zx P s dt v h=some (str (l.map UInt8.ofNat)):=by
  rcases hr with ⟨rfl,g1,g2⟩|⟨b',o',cap,cc,e0,s0,q,rfl,g1,g2⟩
  ·have:l=[]:=zE9.1 g1;subst this;simp only [zx,hs,hd,he];rfl
  ·rw [Nat.mul_one] at g2;simp only [zx,hs,hd,he,g1,g2,XW];rfl
 have e2:zF P s dt v=none:=by
  unfold zF;rw [hs]
 simp only [zD,qB hx,e2,e1]
end
end Go.Proofs.Xx
namespace Go.Proofs.Xx
open Go
section
variable {P:Program} {X:Extern} {inR:Bool} {sz:Nat} {L:Ks} {h h0:AH} {rs:List Rs} {ops:Array Oper} {os:List Oper} {o:Oper} {R:Ks→AH→Prop} {Q:KQ}
def qhe (P:Program) (ty:TypeId):Option (Nat×Nat):=match P.underlying ty with|some (.array n e)=>(match zq P e with|some z=>some (n,z)|none=>none) | _=>none
end
end Go.Proofs.Xx
namespace Go.Proofs.Xx
open Go
section
variable {P:Program} {X:Extern} {inR:Bool} {sz:Nat} {L:Ks} {h h0:AH} {rs:List Rs} {ops:Array Oper} {os:List Oper} {o:Oper} {R:Ks→AH→Prop} {Q:KQ}
theorem qeW (s:List UInt8):(s.map UInt8.toNat).flatMap eU=s.map fun b=>Value.int .u8 (b.toNat:Int):=by
 induction s with
 | nil=>rfl
 | cons a s ih=>rw [List.map_cons,zG2,ih];rfl
theorem qaz {rs':List Rs} {ts tx e:TypeId} {by_:Nat} {l:List Nat} {s:List UInt8} {v:Value} (S:Hs h0 h rs) (hs:qK P ts=some e) (hz:qN P e=some [.int .u8 0]) (hb:jK P e=some (by_+1)) (hx':P.underlying tx=some .string)
 (hd:Dt rs (.sl v e 1 eU l) rs') (hsz:(l.length+s.length+1)*(by_+1)≤140737488355328) :
 ∃ v' h',zC P [ts,tx] v (str s) h=some (v',h')∧Hs h0 h' (.sl v' e 1 eU (l ++ s.map UInt8.toNat) :: rs'):=by
 have hlen:∀ y,(eU y).length=1:=fun _=>rfl;obtain ⟨l2,hl2⟩:∃ l2,s.map UInt8.toNat=l2:=⟨_,rfl⟩
 have hsl:s.length=l2.length:=by rw [← hl2];simp
 have hall:(l2.flatMap eU).all one? = true:=by
  rw [zC8];intro u hu;rw [zH0] at hu;obtain ⟨y,hy,hu⟩:=hu;simp only [eU,zB5] at hu;subst hu;rfl
 have hsrc:QL ([Value.int .u8 0]:List Value).length (str s) h=some (l2.length,l2.flatMap eU):=by
  subst hl2;unfold str;simp only [QL,zF6,qeW,zC5]
 rw [hl2];rw [hsl] at hsz;have hnl:(l2.flatMap eU).length=l2.length*([Value.int .u8 0]:List Value).length:=qO hlen l2;have k1:Nat.ble ((l2.length+1)*(by_+1)) 140737488355328=true:=zB3 (zD0 (zD3 _ (by omega)) hsz);have k2:Nat.beq (l2.flatMap eU).length (l2.length*([Value.int .u8 0]:List Value).length)=true:=by rw [hnl];simp
 have k3:Nat.ble ((l.length+l2.length)*(by_+1)) 140737488355328=true:=zB3 (zD0 (zD3 _ (by omega)) hsz);obtain ⟨fp,q1,q2,q3⟩:=hd.sep S.sep;have S':Hs h0 h rs':=S.del hd;have front:Hs h0 h (.sl v e 1 eU l :: rs'):=S.front hd;have fresh:∀ (c:List Value) (l3:List Nat),c=l3.flatMap eU→Hs h0 (h.add (.cells c e (some 1) false)) (.sl (.slice (some ⟨h.next,0,none⟩) l3.length l3.length) e 1 eU l3 :: rs'):=by
  intro c l3 hc;have hcl:c.length=l3.length*1:=by rw [hc];exact qO hlen l3
  refine S'.grow (fp:=fun b=>b=h.next) ((Ext.refl S.wf).add _) (.inr ⟨h.next,0,c,some 1,l3.length,rfl,by rw [AH.get_add,if_pos rfl],rfl,?_,⟨zA3 _,by omega⟩,.inr rfl⟩) fun b hb=>by subst hb;exact ⟨zA3 _,zG0 _⟩
  rw [← hcl,zT,hc]
 obtain ⟨n2,hn2⟩:∃ n2,l2.length=n2:=⟨_,rfl⟩
 rcases q1 with ⟨rfl,rfl⟩|⟨b,o,cc,slk,cap,g1,g2,g3,g4,g5,g6⟩
 ·rw [hn2] at hsrc k1 k2;cases n2 with
  | zero =>
   have hl2:l2=[]:=zE9.1 hn2;subst hl2;refine ⟨_,_,?_,front⟩;simp only [zC,hs,hx',hz,hb,hsrc,k1,hall,k2,zF9]
  | succ m =>
   refine ⟨.slice (some ⟨h.next,0,none⟩) (m+1) (m+1),h.add (.cells (l2.flatMap eU) e (some 1) false),?_,?_⟩
   ·simp only [zC,hs,hx',hz,hb,hsrc,k1,hall,k2,zF9];rfl
   ·have:=fresh _ l2 rfl;rw [hn2] at this;exact this
 ·subst g1;rw [hn2] at hsrc k1 k2 k3;have hcz:=zD3 1 g5.1;have hoc:o+l.length*1≤cc.length:=by have:=g5.2;omega
  cases n2 with
  | zero =>
   have hl2:l2=[]:=zE9.1 hn2;subst hl2;refine ⟨_,_,?_,by rw [zD7];exact front⟩;have:Nat.ble (l.length+0) cap=true:=zB3 g5.1;simp only [zC,hs,hx',hz,hb,hsrc,k1,hall,k2,zF9,g2,this]
  | succ m =>
   have hcat:l.flatMap eU ++ l2.flatMap eU=(l ++ l2).flatMap eU:=by rw [List.flatMap_append]
   have hln:(l ++ l2).length=l.length+(m+1):=by rw [zB2,hn2]
   have hbl:b<h.next:=(q2 b g3).2.1
   by_cases hfit:l.length+(m+1)≤cap
   ·
    have k4:Nat.ble (l.length+(m+1)) cap=true:=zB3 hfit;have hm1:(l.length+(m+1))*1≤cap*1:=zD3 _ hfit;rw [zE1] at hm1;have hnl':(l2.flatMap eU).length=(m+1)*1:=by rw [hnl,hn2];rfl
    have hfl:o+l.length*1+(l2.flatMap eU).length≤cc.length:=by have:=g5.2;omega
    have hput:putCells h b (o+l.length*1) cc e slk (l2.flatMap eU)=some (h.put b (.cells (splice cc (o+l.length*1) (l2.flatMap eU)) e slk false)):=by
     unfold putCells;rw [hall,zB3 hfl];rfl
    refine ⟨.slice (some ⟨b,o,none⟩) (l.length+(m+1)) cap,h.put b (.cells (splice cc (o+l.length*1) (l2.flatMap eU)) e slk false),?_,?_⟩
    ·have hput':putCells h b (o+l.length*([Value.int .u8 0]:List Value).length) cc e slk (l2.flatMap eU)=some (h.put b (.cells (splice cc (o+l.length*1) (l2.flatMap eU)) e slk false)):=hput;simp only [zC,hs,hx',hz,hb,hsrc,k1,hall,k2,zF9,g2,k4,hput']
    ·refine front.turn .here (zA3 _) (S.wf.put hbl _) fun fq r1 r2=>?_;have hb':fq b:=by
      rcases r1 with ⟨q,-⟩|⟨b',o2,cc2,sl2,cap2,q3,q4,q5,-⟩
      ·cases q
      ·cases q3;exact q5
     refine ⟨fun j hj hn=>?_,fun j=>j=b,.inr ⟨b,o,_,slk,cap,by rw [hln],by rw [AH.get_put,if_pos rfl],rfl,?_,⟨by omega,by rw [QZ hfl];exact g5.2⟩,g6⟩,fun j hj=>by subst hj;exact ⟨hbl,.inl hb'⟩⟩
     ·rw [AH.get_put,if_neg];intro q;subst q;exact hn hb'
     ·rw [hln,← hcat];have hfe:l.flatMap eU=(cc.drop o).take (l.length*1):=by
       rcases QA g4 with q|⟨q1,q2⟩
       ·exact q.1
       ·rw [q2,q1];simp
      rw [Q8 (by rw [QZ hfl,zE1];omega)];congr 1
      apply List.ext_getElem?
      intro j;have hll:(l.flatMap eU).length=l.length*1:=qO hlen l;rw [zC7,zF0,hll];by_cases hj:j<l.length*1
      ·rw [if_pos (by rw [zE1];omega),if_pos hj,zC3,Jf hfl,if_pos (by omega),hfe,zC7,if_pos hj,zC3]
      ·rw [if_neg hj];by_cases hj2:j<(l.length+(m+1))*1
       ·rw [if_pos hj2,zC3,Jf hfl,if_neg (by omega),if_pos (by rw [zE1] at hj2;omega)];congr 1;omega
       ·rw [if_neg hj2,zG5];rw [zE1] at hj2;omega
   have k4:Nat.ble (l.length+(m+1)) cap=false:=by
    cases hq:Nat.ble (l.length+(m+1)) cap with
    | false=>rfl
    | true=>have:=zB6 hq;omega
   have g4':qX cc o (l.length*([Value.int .u8 0]:List Value).length)=some (l.flatMap eU):=g4;rcases g6 with rfl|rfl
   ·have hfr:=fresh _ (l ++ l2) hcat;rw [zB2,hn2] at hfr;refine ⟨_,_,?_,hfr⟩;simp only [zC,hs,hx',hz,hb,hsrc,k1,hall,k2,zF9,g2,k4,g4',k3];rfl
   ·refine ⟨.slice (some ⟨h.next,0,none⟩) (l.length+(m+1)) (l.length+(m+1)),(h.put b .dead).add (.cells (l.flatMap eU ++ l2.flatMap eU) e (some 1) false),?_,?_⟩
    ·have k6:(Nat.beq 1 ([Value.int .u8 0]:List Value).length && Nat.beq e e && Nat.ble (o+cap*1) cc.length)=true:=by
      simp [zB3 (show o+cap≤cc.length by have:=g5.2;omega)]
     simp only [zC,hs,hx',hz,hb,hsrc,k1,hall,k2,zF9,g2,k4,g4',k3,k6];rfl
    ·have hcl:(l.flatMap eU ++ l2.flatMap eU).length=(l ++ l2).length*1:=by rw [hcat];exact qO hlen _
     refine front.turn .here (Nat.le_succ _) ((S.wf.put hbl _).add _) fun fq r1 r2=>?_;have hb':fq b:=by
      rcases r1 with ⟨q,-⟩|⟨b',o2,cc2,sl2,cap2,q3,q4,q5,-⟩
      ·cases q
      ·cases q3;exact q5
     refine ⟨fun j hj hn=>?_,fun j=>j=h.next,.inr ⟨h.next,0,l.flatMap eU ++ l2.flatMap eU,some 1,_,by rw [hln],?_,rfl,?_,⟨by omega,by rw [hcl,hln];omega⟩,.inr rfl⟩,fun j hj=>by subst hj;exact ⟨zG0 _,.inr (zA3 _)⟩⟩
     ·rw [AH.get_add,if_neg (by simp only [AH.put];omega),AH.get_put,if_neg];intro q;subst q;exact hn hb'
     ·rw [AH.get_add];exact if_pos rfl
     ·rw [← hcl,zT,hcat]
theorem apS {x y:Operand} {ts tx e:TypeId} {by_:Nat} {l:List Nat} {s:List UInt8} {f:Rs→List Rs} {dd:List Rs} {v:Value} {d:Tmp} (S:Hs h0 h rs) (ho:o.op = .call { callee:=.builtin .append,args:=#[x,y],argTypes:=#[ts,tx] }) (hx:kA L x=some v) [i:HasS rs v Nat e 1 eU l f dd]
 (w:∀ v' h',Hs h0 h' (.sl v' e 1 eU (l ++ s.map UInt8.toNat) :: dd)→KO P X sz ops os (L.put d v') h' R) (hg:qo ops L.tree o.guard=some true:=by exact rfl) (hy:kA L y=some (str s):=by exact rfl) (hs:qK P ts=some e:=by exact rfl) (hz:qN P e=some [.int .u8 0]:=by exact rfl) (hb:jK P e=some (by_+1):=by exact rfl) (hxs:P.underlying tx=some .string:=by exact rfl)
 (hsz:(l.length+s.length+1)*(by_+1)≤140737488355328:=by first|omega|(simp only [List.length_nil];omega)|grind) (hdst:o.dst=some d:=by exact rfl) (hds:Nat.blt d sz=true:=by exact rfl):KO P X sz ops (o :: os) L h R:=by
 obtain ⟨v',h',q1,q2⟩:=qaz S hs hz hb hxs i.dt hsz;exact vH ho hg hx hy q1 (by simp only [qE,hdst,hds]) (w v' h' q2)
theorem usd {x:Operand} {ty e:TypeId} {l:List Nat} {f:Rs→List Rs} {dd:List Rs} {v:Value} {d:Tmp} (S:Hs h0 h rs) (hl:0<l.length) (ho:o.op = .call { callee:=.builtin .unsafeSliceData,args:=#[x],argTypes:=#[ty] }) (hx:kA L x=some v) [i:HasS rs v Nat e 1 eU l f dd]
 (w:∀ b o cap,v = .slice (some ⟨b,o,none⟩) l.length cap→KO P X sz ops os (L.put d (.pointer (some ⟨b,o,none⟩))) h R) (hg:qo ops L.tree o.guard=some true:=by exact rfl) (hdst:o.dst=some d:=by exact rfl) (hds:Nat.blt d sz=true:=by exact rfl):KO P X sz ops (o :: os) L h R:=by
 obtain ⟨fp,q1,q2,q3⟩:=i.dt.sep S.sep;rcases q1 with ⟨rfl,rfl⟩|⟨b,o',cc,slk,cap,g1,g2,g3,g4,g5,g6⟩
 ·simp at hl
 refine qW (v:=.pointer (some ⟨b,o',none⟩)) (h':=h) hg ?_ (by simp only [qE,hdst,hds]) (w b o' cap g1);rw [ho];obtain ⟨m,hm⟩:∃ m,cap=m+1:=⟨cap - 1,by have:=g5.1;omega⟩
 subst g1;have e1:Js (.slice (some ⟨b,o',none⟩) l.length cap)=some (.pointer (some ⟨b,o',none⟩)):=by rw [hm];rfl
 simp only [zD,zY,qB hx,zO,e1,qH]
theorem uns {x y:Operand} {pt nt e:TypeId} {l:List Nat} {f:Rs→List Rs} {dd:List Rs} {b o' cap:Nat} {d:Tmp} (S:Hs h0 h rs) (hl:0<l.length∧l.length≤4611686018427387904) (ho:o.op = .call { callee:=.builtin .unsafeString,args:=#[x,y],argTypes:=#[pt,nt] }) (hx:kA L x=some (.pointer (some ⟨b,o',none⟩))) [i:HasS rs (.slice (some ⟨b,o',none⟩) l.length cap) Nat e 1 eU l f dd]
 (w:∀ h',Hs h0 h' dd→KO P X sz ops os (L.put d (str (l.map UInt8.ofNat))) h' R) (hy:kA L y=some (.int .i64 l.length):=by exact rfl) (hp:P.underlying pt=some (.pointer e):=by exact rfl) (he:P.underlying e=some (.int .u8):=by exact rfl) (hz:zq P e=some 1:=by exact rfl) (hg:qo ops L.tree o.guard=some true:=by exact rfl) (hdst:o.dst=some d:=by exact rfl) (hds:Nat.blt d sz=true:=by exact rfl):KO P X sz ops (o :: os) L h R:=by
 obtain ⟨fp,q1,q2,q3⟩:=i.dt.sep S.sep;rcases q1 with ⟨q,-⟩|⟨b',o2,cc,slk,cap2,g1,g2,g3,g4,g5,g6⟩
 ·cases q
 cases g1
 have hbl:b<h.next:=(q2 b g3).2.1
 obtain ⟨m,hm⟩:∃ m,l.length=m+1:=⟨l.length - 1,by omega⟩
 have front:Hs h0 h (.sl (.slice (some ⟨b,o',none⟩) l.length cap) e 1 eU l :: dd):=S.front i.dt;have S2:Hs h0 (h.put b (.cells cc e slk true)) (.any (fun _ _=>True) :: dd):=by
  refine front.turn .here (zA3 _) (S.wf.put hbl _) fun fq r1 r2=>?_;have hb':fq b:=by
   rcases r1 with ⟨q,-⟩|⟨b',o2,cc2,sl2,cap3,q3,q4,q5,-⟩
   ·cases q
   ·cases q3;exact q5
  exact ⟨fun j hj hn=>by rw [AH.get_put,if_neg];intro q;subst q;exact hn hb',fun _=>False,fun _ _=>trivial,fun _ q=>q.elim⟩
 refine qW (v:=str (l.map UInt8.ofNat)) (h':=h.put b (.cells cc e slk true)) hg ?_ (by simp only [qE,hdst,hds]) (w _ S2.tail);rw [ho];rw [Nat.mul_one] at g4;have k1:Nat.ble l.length 4611686018427387904=true:=zB3 hl.2;have k2:Nat.beq e e=true:=by simp
 have e1:jX P [pt,nt] (.pointer (some ⟨b,o',none⟩)) (.int .i64 l.length) h=some (str (l.map UInt8.ofNat),h.put b (.cells cc e slk true)):=by
  have hcast:((l.length:Nat):Int)=Int.ofNat l.length:=rfl;rw [hcast];simp only [jX,hp,g2,he,hz,k1,k2,zF9,g4,XW];rw [hm];rfl
 have e2:zI L.tree y=some (.int .i64 l.length):=qB hy;simp only [zD,zY,qB hx,e2,zO,e1,ji]
end
end Go.Proofs.Xx
namespace Go.Proofs.Xx
open Go
abbrev lpR (l:Nat) (o:jV):Rs:=.any (fun h fp=>h.get l=some o∧fp l)
def yv (l:Nat):Value:=.func (.yield l) #[] #[]
section
variable {h h0:AH} {rs:List Rs} {l:Nat} {o:jV}
theorem Hs.bY (S:Hs h0 h rs) {b:Nat} {o:jV} (hb:h0.get b=some o) (w:WfH h0):b<h.next :=
 zE4 (Nat.lt_of_not_le fun q=>by have:=w b q;rw [hb] at this;cases this) S.ext.next
end
section
variable {P:Program} {X:Extern} {inR:Bool} {sz:Nat} {L:Ks} {h h0:AH} {rs:List Rs} {ops:Array Oper} {os:List Oper} {o:Oper} {R:Ks→AH→Prop} {Q:KQ}
def Yd (P:Program) (X:Extern) (l:Nat) (args:List Value) (h:AH) (Q:Value→AH→Prop):Prop:=∃ n v h',QT (exec P X n) l args h=some (v,h')∧Q v h'
theorem Yd.mono {l:Nat} {args:List Value} {Q Q':Value→AH→Prop} (w:Yd P X l args h Q) (hq:∀ v h',Q v h'→Q' v h'):Yd P X l args h Q':=by
 obtain ⟨n,v,h',h1,h2⟩:=w;exact ⟨n,v,h',h1,hq _ _ h2⟩
end
end Go.Proofs.Xx
namespace Go.Proofs.Xx
open Go
section
variable {P:Program} {X:Extern} {sz:Nat} {L:Ks} {h h0:AH} {rs:List Rs} {ops:Array Oper} {os:List Oper} {o:Oper} {R:Ks→AH→Prop}
end
class HasV (rs:List Rs) (v:Value):Prop where
 fp:∀ {lo:Nat} {h:AH} {U:Fp},Sep lo h rs U→v≠.slice none 0 0→U (Xr v)
instance HasV.there {rs:List Rs} {v:Value} {s:Rs} [k:HasV rs v]:HasV (s :: rs) v:=⟨fun S hv=>by
 obtain ⟨f,-,-,h3⟩:=S;exact (k.fp h3 hv).1⟩
instance HasV.sl {rs:List Rs} {v:Value} {α:Type} {e:TypeId} {z:Nat} {enc:α→List Value} {l:List α}:HasV (.sl v e z enc l :: rs) v:=⟨fun S hv=>by
 obtain ⟨f,h1,h2,-⟩:=S;rcases h1 with ⟨q,-⟩|⟨b,o,cc,slk,cap,rfl,-,q,-⟩
 ·exact absurd q hv
 ·exact (h2 b q).2.2⟩
instance HasV.rd {rs:List Rs} {v:Value} {α:Type} {z:Nat} {enc:α→List Value} {l:List α}:HasV (.rd v z enc l :: rs) v:=⟨fun S hv=>by
 obtain ⟨f,h1,h2,-⟩:=S;rcases h1 with ⟨q,-⟩|⟨b,o,cap,cc,e,s,r,rfl,-,q,-⟩
 ·exact absurd q hv
 ·exact (h2 b q).2.2⟩
class HasK (rs:List Rs) (b:Nat):Prop where
 fp:∀ {lo:Nat} {h:AH} {U:Fp},Sep lo h rs U→U b
instance HasK.there {rs:List Rs} {b:Nat} {s:Rs} [k:HasK rs b]:HasK (s :: rs) b:=⟨fun S=>by
 obtain ⟨f,-,-,h3⟩:=S;exact (k.fp h3).1⟩
instance HasK.here {rs:List Rs} {b:Nat} {c:List Value} {e:TypeId}:HasK (.blk b c e :: rs) b:=⟨fun S=>by
 obtain ⟨f,h1,h2,-⟩:=S;exact (h2 b h1.2).2.2⟩
class NeB (rs:List Rs) (b:Nat) (v:Value):Prop where
 ne:∀ {lo:Nat} {h:AH} {U:Fp},Sep lo h rs U→v≠.slice none 0 0→Xr v≠b
instance NeB.there {rs:List Rs} {b:Nat} {v:Value} {s:Rs} [k:NeB rs b v]:NeB (s :: rs) b v:=⟨fun S hv=>by
 obtain ⟨f,-,-,h3⟩:=S;exact k.ne h3 hv⟩
instance NeB.blk {rs:List Rs} {b:Nat} {v:Value} {c:List Value} {e:TypeId} [k:HasV rs v]:NeB (.blk b c e :: rs) b v:=⟨fun S hv q=>by
 obtain ⟨f,h1,h2,h3⟩:=S;have:=(k.fp h3 hv).2;rw [q] at this;exact this h1.2⟩
instance NeB.sl {rs:List Rs} {b:Nat} {v:Value} {α:Type} {e:TypeId} {z:Nat} {enc:α→List Value} {l:List α} [k:HasK rs b]:NeB (.sl v e z enc l :: rs) b v:=⟨fun S hv q=>by
 obtain ⟨f,h1,h2,h3⟩:=S;rcases h1 with ⟨q',-⟩|⟨b',o,cc,slk,cap,rfl,-,q',-⟩
 ·exact absurd q' hv
 ·have:=(k.fp h3).2;exact this (by rw [← q];exact q')⟩
section
variable {P:Program} {X:Extern} {sz:Nat} {L:Ks} {h h0:AH} {rs:List Rs} {ops:Array Oper} {os:List Oper} {o:Oper} {R:Ks→AH→Prop}
end
abbrev okV (ok:Bool) (v:Value) (b:Bool):Value:=match ok with|true=>.tuple #[v,.bool b]|false=>v
def ZH {α:Type} (k:List UInt8):List (List UInt8×α)→Nat→Option (Nat×α)
 | [],_=>none
 | p :: r,i=>if p.1=k then some (i,p.2) else ZH k r (i+1)
def Y6 {α:Type} (l:List (List UInt8×α)) (k:List UInt8):Option α:=(ZH k l 0).map (·.2)
theorem qd0 (a b:List UInt8):((⟨a.toArray⟩:ByteArray) == ⟨b.toArray⟩)=decide (a=b):=by
 rw [Bool.eq_iff_iff];constructor
 ·intro h;have h2:=ba_eq h;have h3:a.toArray=b.toArray:=congrArg ByteArray.data h2;simpa using h3
 ·intro h;have h2:a=b:=by simpa using h
  subst h2;exact qao _
theorem xP {α:Type} {enc:α→Value} {k:List UInt8}:∀ {es:List (Value×Value×Nat)} {l:List (List UInt8×α)} {i:Nat},es.map (fun e=>(e.1,e.2.1))=l.map (fun p=>(Value.string ⟨p.1.toArray⟩,enc p.2)) →
 QX .string (str k) es i=some ((ZH k l i).map fun q=>(q.1,enc q.2))
 | [],[],i,_=>rfl
 | [],p :: r,i,h=>by simp at h
 | e :: es,[],i,h=>by simp at h
 | e :: es,p :: r,i,h=>by
  simp only [List.map_cons,List.cons.injEq,Prod.mk.injEq] at h;obtain ⟨⟨h1,h2⟩,h3⟩:=h;have hs:Instr.sameNow .string (str k) e.1=some (decide (k=p.1)):=by
   rw [h1];show some (((⟨k.toArray⟩:ByteArray) == ⟨p.1.toArray⟩))=_
   rw [qd0]
  unfold QX;unfold ZH;by_cases hk:p.1=k
  ·rw [hs,decide_eq_true hk.symm,if_pos hk,h2];rfl
  ·rw [hs,decide_eq_false (fun q=>hk q.symm),if_neg hk];exact xP h3
theorem qaO {α:Type} {l:List (List UInt8×α)} {k:List UInt8} (h:Y6 l k=none):ZH k l 0=none:=by
 unfold Y6 at h;cases hq:ZH k l 0 with
 | none=>rfl
 | some q=>rw [hq] at h;cases h
theorem qaN {α:Type} {l:List (List UInt8×α)} {k:List UInt8} {x:α} (h:Y6 l k=some x):∃ i,ZH k l 0=some (i,x):=by
 unfold Y6 at h;cases hq:ZH k l 0 with
 | none=>rw [hq] at h;cases h
 | some q=>rw [hq] at h;cases h;exact ⟨q.1,rfl⟩
section
variable {P:Program} {X:Extern} {inR:Bool} {sz:Nat} {L:Ks} {h h0:AH} {rs:List Rs} {ops:Array Oper} {os:List Oper} {o:Oper} {R:Ks→AH→Prop} {Q:KQ}
theorem qcb {α:Type} {b:Nat} {enc:α→Value} {l:List (List UInt8×α)} (S:Hs h0 h rs) (a:At rs (.mp b enc l)):∃ es clock,h.get b=some (.map es clock)∧es.map (fun e=>(e.1,e.2.1))=l.map (fun p=>(Value.string ⟨p.1.toArray⟩,enc p.2))∧(∀ e∈es,e.2.2<clock)∧(es.map (·.2.2)).Nodup:=by
 obtain ⟨fp,k,_⟩:=a.ok S.sep;obtain ⟨es,clock,h1,h2,h3⟩:=k;exact ⟨es,clock,h1,h3⟩
theorem qaP {α:Type} {b:Nat} {enc:α→Value} {l:List (List UInt8×α)} (S:Hs h0 h rs) (a:At rs (.mp b enc l)) {ty kt et:TypeId} {key:List UInt8} {z:Value} (ok:Bool)
 (hu:P.underlying ty=some (.map kt et)) (hkt:P.underlying kt=some .string) (hz:zeroV P et=some z) :
 Qa P ty (.map (some b)) (str key) ok h=some (match Y6 l key with
  | some x=>(okV ok (enc x) true)
  | none=>(okV ok z false)):=by
 obtain ⟨es,clock,h1,h2,-⟩:=qcb S a;have hT:VU P ty (str key)=some (.string,et):=by
  unfold VU;simp only [hu,hkt];rfl
 have hM:Xi (.map (some b)) h=some es:=by
  unfold Xi;simp only [h1]
 have hF:=xP (enc:=enc) (k:=key) (i:=0) h2;unfold Qa;rw [hT,hM];simp only [hF];cases hq:Y6 l key with
 | none=>rw [qaO hq];simp only [Option.map_none,hz];rfl
 | some x =>
  obtain ⟨i,hi⟩:=qaN hq;rw [hi];simp only [Option.map_some];rfl
theorem lk {α:Type} {b:Nat} {enc:α→Value} {l:List (List UInt8×α)} {m k:Operand} {ty kt et:TypeId} {key:List UInt8} {z:Value} {d:Tmp} {ok:Bool} (S:Hs h0 h rs) (a:At rs (.mp b enc l))
 (w1:∀ x,Y6 l key=some x→KO P X sz ops os (L.put d (okV ok (enc x) true)) h R)
 (w2:Y6 l key=none→KO P X sz ops os (L.put d (okV ok z false)) h R)
 (ho:o.op = .lookup ty m k ok:=by exact rfl) (hg:qo ops L.tree o.guard=some true:=by exact rfl) (hm:kA L m=some (.map (some b)):=by exact rfl) (hk:kA L k=some (str key):=by exact rfl)
 (hu:P.underlying ty=some (.map kt et):=by exact rfl) (hkt:P.underlying kt=some .string:=by exact rfl) (hz:zeroV P et=some z:=by exact rfl) (hdst:o.dst=some d:=by exact rfl) (hds:Nat.blt d sz=true:=by exact rfl):KO P X sz ops (o :: os) L h R:=by
 have e:=qaP (key:=key) S a ok hu hkt hz;cases hq:Y6 l key with
 | none =>
  rw [hq] at e;refine qW hg (v:=okV ok z false) (h':=h) ?_ (show qE sz L o.dst _=some (L.put d _) by simp only [qE,hdst,hds]) (w2 hq);rw [ho];simp only [zD,qB hm,qB hk,e,qH]
 | some x =>
  rw [hq] at e;refine qW hg (v:=okV ok (enc x) true) (h':=h) ?_ (show qE sz L o.dst _=some (L.put d _) by simp only [qE,hdst,hds]) (w1 x hq);rw [ho];simp only [zD,qB hm,qB hk,e,qH]
theorem Hs.putMp {α:Type} {rs':List Rs} {b clock2:Nat} {enc:α→Value} {l l2:List (List UInt8×α)} {es2:List (Value×Value×Nat)} (S:Hs h0 h rs) (u:Ut rs (.mp b enc l) (.mp b enc l2) rs')
 (h2:es2.map (fun e=>(e.1,e.2.1))=l2.map (fun p=>(Value.string ⟨p.1.toArray⟩,enc p.2))) (hc:∀ e∈es2,e.2.2<clock2) (hn:(es2.map (·.2.2)).Nodup):Hs h0 (h.put b (.map es2 clock2)) rs':=by
 obtain ⟨fp,k,k2,-⟩:=u.ok (h':=h) S.ext.next (zA3 _) S.sep
 obtain ⟨es,clock,g1,g2,-⟩:=k;refine S.turn u (zA3 _) (S.wf.put (k2 b g2).2.1 _) fun fq q1 q2=>⟨fun j _ hj=>?_,fun j=>j=b,⟨es2,clock2,by rw [AH.get_put,if_pos rfl],rfl,h2,hc,hn⟩,fun j hj=>?_⟩
 ·obtain ⟨_,_,_,g,_⟩:=q1;rw [AH.get_put,if_neg];intro q;subst q;exact hj g
 ·obtain ⟨_,_,_,g,_⟩:=q1;subst hj;exact ⟨(q2 _ g).2,.inl g⟩
theorem Hs.newMp {α:Type} (enc:α→Value) (S:Hs h0 h rs):Hs h0 (h.add (.map [] 0)) (.mp h.next enc [] :: rs) :=
 S.grow (fp:=fun b=>b=h.next) ((Ext.refl S.wf).add _) ⟨[],0,by rw [AH.get_add,if_pos rfl],rfl,rfl,(fun e he=>by cases he),List.Pairwise.nil⟩ fun b hb=>by subst hb;exact ⟨zA3 _,zG0 _⟩
theorem mkm {α:Type} (enc:α→Value) {ty:TypeId} {d:Tmp} (S:Hs h0 h rs) (w:∀ b h',Hs h0 h' (.mp b enc [] :: rs)→KO P X sz ops os (L.put d (.map (some b))) h' R) (ho:o.op = .makeMap ty none:=by exact rfl) (hg:qo ops L.tree o.guard=some true:=by exact rfl) (hdst:o.dst=some d:=by exact rfl) (hds:Nat.blt d sz=true:=by exact rfl):KO P X sz ops (o :: os) L h R :=
 qW hg (v:=.map (some h.next)) (h':=h.add (.map [] 0)) (by rw [ho];rfl) (show qE sz L o.dst _=some (L.put d _) by simp only [qE,hdst,hds]) (w _ _ (S.newMp enc))
def wI {α:Type} (l:List (List UInt8×α)) (k:List UInt8) (x:α):List (List UInt8×α):=match ZH k l 0 with|some q=>l.set q.1 (k,x)|none=>l ++ [(k,x)]
theorem modify_eq_set {β:Type} {l:List β} {i:Nat} {f:β→β} {y e:β} (he:l[i]? = some e) (hf:f e=y):l.modify i f=l.set i y:=by
 apply List.ext_getElem?
 intro j;rw [List.getElem?_modify,List.getElem?_set];by_cases hj:i=j
 ·subst hj;have hl:i<l.length:=(zD6.1 he).1;have e2:l[i]=e:=(zD6.1 he).2;simp [hl,e2,hf]
 ·simp [hj]
theorem wJ {α:Type} {k:List UInt8}:∀ {l:List (List UInt8×α)} {i:Nat} {q:Nat×α},ZH k l i=some q→i≤q.1∧l[q.1 - i]? = some (k,q.2)
 | [],i,q,h=>by cases h
 | p :: r,i,q,h=>by
  unfold ZH at h;split at h
  ·rename_i hk
   cases h
   refine ⟨zA3 _,?_⟩;rw [zG6];show some p=_
   rw [← hk]
  ·obtain ⟨h1,h2⟩:=wJ h;refine ⟨by omega,?_⟩;rw [show q.1 - i=(q.1 - (i+1))+1 by omega];exact h2
theorem qat {α:Type} {key:List UInt8} {b:Nat} {enc:α→Value} {l:List (List UInt8×α)} {rs':List Rs} {x:α} (S:Hs h0 h rs) (u:Ut rs (.mp b enc l) (.mp b enc (wI l key x)) rs') (a:At rs (.mp b enc l)) {ty kt et:TypeId}
 (hu:P.underlying ty=some (.map kt et)) (hkt:P.underlying kt=some .string) :
 ∃ h',jL P ty (.map (some b)) (str key) (enc x) h=some h'∧Hs h0 h' rs':=by
 obtain ⟨es,clock,h1,h2,h3,h4⟩:=qcb S a;have hT:VU P ty (str key)=some (.string,et):=by
  unfold VU;simp only [hu,hkt];rfl
 have hF:=xP (enc:=enc) (k:=key) (i:=0) h2;unfold jL;simp only [hT,h1,hF];unfold wI at u;cases hq:ZH key l 0 with
 | none =>
  rw [hq] at u;refine ⟨_,rfl,S.putMp u ?_ ?_ ?_⟩
  ·rw [zC9,zC9,h2];rfl
  ·intro e he;rcases zB8.1 he with q|q
   ·have:=h3 e q;omega
   ·simp at q;subst q;exact zG0 _
  ·rw [zC9,zG4];refine ⟨h4,by simp,?_⟩;intro c hc d hd;obtain ⟨e,he,rfl⟩:=zF1.1 hc;simp at hd;subst hd;have:=h3 e he;omega
 | some q =>
  rw [hq] at u;obtain ⟨i,y⟩:=q;obtain ⟨-,hl⟩:=wJ hq;have hle:es.length=l.length:=by simpa using congrArg List.length h2
  obtain ⟨e,he⟩:∃ e,es[i]? = some e:=⟨es[i]'(by have:=(zD6.1 hl).1;omega),by simp⟩
  have hm:=modify_eq_set (f:=fun e:Value×Value×Nat=>(str key,enc x,e.2.2)) (y:=(str key,enc x,e.2.2)) he rfl;refine ⟨_,rfl,S.putMp u ?_ ?_ ?_⟩
  ·rw [hm,List.map_set,List.map_set,h2];rfl
  ·intro e1 h1;rw [hm] at h1;rcases List.mem_or_eq_of_mem_set h1 with q|q
   ·exact h3 e1 q
   ·subst q;exact h3 e (List.mem_of_getElem? he)
  ·rw [hm,List.map_set];have:(es.map (·.2.2)).set i e.2.2=es.map (·.2.2):=by
    apply List.ext_getElem?
    intro j;rw [List.getElem?_set];by_cases hj:i=j
    ·subst hj;have hl2:=(zD6.1 he)
     obtain ⟨g1,g2⟩:=hl2;simp [g1,g2]
    ·simp [hj]
   rw [this];exact h4
theorem up {α:Type} {L':Ks} {b:Nat} {enc:α→Value} {l:List (List UInt8×α)} {rs':List Rs} {key:List UInt8} {y:Value} {m k v:Operand} {ty kt et:TypeId} (x:α) (S:Hs h0 h rs) (a:At rs (.mp b enc l)) (u:Ut rs (.mp b enc l) (.mp b enc (wI l key x)) rs')
 (w:∀ h',Hs h0 h' rs'→KO P X sz ops os L' h' R) (ho:o.op = .mapUpdate ty m k v∨o.op = .insert ty m k v) (hg:qo ops L.tree o.guard=some true:=by exact rfl) (hm:kA L m=some (.map (some b)):=by exact rfl) (hk:kA L k=some (str key):=by exact rfl) (hv:kA L v=some y:=by exact rfl) (hy:y=enc x:=by exact rfl)
 (hu:P.underlying ty=some (.map kt et):=by exact rfl) (hkt:P.underlying kt=some .string:=by exact rfl) (hp:qE sz L o.dst (.tuple #[])=some L':=by exact rfl):KO P X sz ops (o :: os) L h R:=by
 subst hy;obtain ⟨h',e1,e2⟩:=qat (x:=x) S u a hu hkt;refine kS hg (h':=h') ?_ hp (w h' e2);rcases ho with ho|ho
 ·rw [ho];simp only [zD,qB hm,qB hk,qB hv,e1]
 ·rw [ho];simp only [zD,qB hm,qB hk,qB hv,e1]
theorem qcf {α:Type} {l:List (List UInt8×α)} {k:List UInt8} {x:α}:∀ (j:List UInt8),Y6 (wI l k x) j=if j=k then some x else Y6 l j:=by
 intro j;have key:∀ (l:List (List UInt8×α)) (i:Nat),(ZH j (match ZH k l i with|some q=>l.set (q.1 - i) (k,x)|none=>l ++ [(k,x)]) i).map (·.2)=if j=k then some x else (ZH j l i).map (·.2):=by
  intro l;induction l with
  | nil =>
   intro i;simp only [ZH,zC0];by_cases h:j=k
   ·subst h;simp
   ·rw [if_neg (fun q=>h q.symm),if_neg h]
  | cons p r ih =>
   intro i;by_cases hk:p.1=k
   ·simp only [ZH,if_pos hk,zG6,List.set_cons_zero];by_cases hj:j=k
    ·subst hj;simp
    ·rw [if_neg (fun q=>hj q.symm),if_neg hj,if_neg (fun q=>hj (q.symm.trans hk))]
   ·have e:=ih (i+1);simp only [ZH,if_neg hk];cases hq:ZH k r (i+1) with
    | none =>
     rw [hq] at e;simp only [zC6,ZH] at e ⊢;by_cases hj:p.1=j
     ·rw [if_pos hj,if_pos hj,if_neg (fun q=>hk (hj.trans q))]
     ·rw [if_neg hj,if_neg hj];exact e
    | some q =>
     rw [hq] at e;obtain ⟨g1,-⟩:=wJ hq;simp only at e ⊢;rw [show q.1 - i=(q.1 - (i+1))+1 by omega];simp only [List.set_cons_succ,ZH];by_cases hj:p.1=j
     ·rw [if_pos hj,if_pos hj,if_neg (fun q=>hk (hj.trans q))]
     ·rw [if_neg hj,if_neg hj];exact e
 have:=key l 0;unfold Y6 wI;exact this
end
def Qh (a b:List UInt8):Prop:=Op.bytesLess a b=true
instance (a b:List UInt8):Decidable (Qh a b):=inferInstanceAs (Decidable (_=true))
theorem Yk (a:List UInt8):¬ Qh a []:=by unfold Qh;cases a<;>simp [Op.bytesLess]
theorem Wn (b:UInt8) (l:List UInt8):Qh [] (b :: l):=by unfold Qh;simp [Op.bytesLess]
theorem Zd {a b:UInt8} {x y:List UInt8}:Qh (a :: x) (b :: y)↔a<b∨(a=b∧Qh x y):=by
 unfold Qh;simp [Op.bytesLess]
theorem zG:∀ a:List UInt8,¬ Qh a a
 | []=>Yk _
 | a :: x=>by
  rw [Zd];rintro (h|⟨-,h⟩)
  ·exact UInt8.lt_irrefl _ h
  ·exact zG x h
theorem Q9:∀ {a b c:List UInt8},Qh a b→Qh b c→Qh a c
 | _,[],_,h,_=>absurd h (Yk _)
 | _,_ :: _,[],_,h=>absurd h (Yk _)
 | [],_ :: _,c :: z,_,_=>Wn _ _
 | a :: x,b :: y,c :: z,h1,h2=>by
  rw [Zd] at h1 h2 ⊢;rcases h1 with h1|⟨rfl,h1⟩<;>rcases h2 with h2|⟨rfl,h2⟩
  ·exact .inl (UInt8.lt_trans h1 h2)
  ·exact .inl h1
  ·exact .inl h2
  ·exact .inr ⟨rfl,Q9 h1 h2⟩
theorem Yj:∀ (a b:List UInt8),Qh a b∨a=b∨Qh b a
 | [],[]=>.inr (.inl rfl)
 | [],b :: y=>.inl (Wn _ _)
 | a :: x,[]=>.inr (.inr (Wn _ _))
 | a :: x,b :: y=>by
  rw [Zd,Zd];rcases zE7 a.toNat b.toNat with h|h|h
  ·exact .inl (.inl (UInt8.lt_iff_toNat_lt.2 h))
  ·have e:a=b:=UInt8.toNat_inj.1 h;subst e;rcases Yj x y with h|h|h
   ·exact .inl (.inr ⟨rfl,h⟩)
   ·exact .inr (.inl (by rw [h]))
   ·exact .inr (.inr (.inr ⟨rfl,h⟩))
  ·exact .inr (.inr (.inl (UInt8.lt_iff_toNat_lt.2 h)))
theorem YX {a b:List UInt8} (h:Qh a b):¬ Qh b a:=fun q=>zG a (Q9 h q)
theorem qbL {a b:List UInt8} (h:Qh a b):a≠b:=fun e=>by subst e;exact zG _ h
theorem qex {a b:List UInt8} (h:¬ Qh a b):b=a∨Qh b a:=by
 rcases Yj a b with q|q|q
 ·exact absurd q h
 ·exact .inl q.symm
 ·exact .inr q
def YV (a b:List UInt8):List UInt8:=if Qh b a then b else a
def YW (a b:List UInt8):List UInt8:=if Qh a b then b else a
def qeD (op:BinOp) (a b:List UInt8):Option Prop :=
 match op with
 | .lss=>some (Qh a b)
 | .geq=>some (¬ Qh a b)
 | .gtr=>some (Qh b a)
 | .leq=>some (¬ Qh b a)
 | _=>none
theorem WW (a b:List UInt8):(Op.bytesLess a b || zU ⟨a.toArray⟩ ⟨b.toArray⟩) = !(Op.bytesLess b a):=by
 rw [Xc];rcases Yj a b with h|h|h
 ·have h2:Op.bytesLess b a=false:=by
   have:=YX h;unfold Qh at this;simpa using this
  unfold Qh at h;rw [h,h2];rfl
 ·subst h;have h2:Op.bytesLess a a=false:=by
   have:=zG a;unfold Qh at this;simpa using this
  rw [h2];simp
 ·have h2:Op.bytesLess a b=false:=by
   have:=YX h;unfold Qh at this;simpa using this
  have h3:decide (a=b)=false:=decide_eq_false fun e=>zG b (by rw [e] at h;exact h);unfold Qh at h;rw [h,h2,h3];rfl
theorem KC {P:Program} {op:BinOp} {ty:TypeId} {a b:List UInt8} {p:Prop} (h:qeD op a b=some p) (v:Bool) (hv:p↔v=true):Qe P op ty (str a) (str b)=some (.bool v):=by
 have key:∀ q:Prop,∀ d:Bool,(q↔d=true)→(q↔v=true)→d=v:=fun q d h1 h2=>by
  cases d<;>cases v<;>simp_all
 unfold str;cases op<;>simp only [qeD,Option.some.injEq] at h<;>try (cases h;done)
 all_goals (subst h)
 all_goals (simp only [Qe,zF6,WW,Option.some.injEq,Value.bool.injEq])
 ·exact key _ _ Iff.rfl hv
 ·exact key _ _ (by unfold Qh;simp) hv
 ·exact key _ _ (by unfold Qh;simp) hv
 ·exact key _ _ (by unfold Qh;simp) hv
section
variable {P:Program} {X:Extern} {inR:Bool} {sz:Nat} {L:Ks} {h h0:AH} {rs:List Rs} {ops:Array Oper} {os:List Oper} {o:Oper} {R:Ks→AH→Prop} {Q:KQ}
theorem tO {L1 L2:Ks} {op:BinOp} {x y:Operand} {ty ty2:TypeId} {l m:List UInt8} {p:Prop} (w1:p→KO P X sz ops os L1 h R) (w2:¬ p→KO P X sz ops os L2 h R) (ho:o.op = .binOp op ty x y ty2:=by exact rfl) (hg:qo ops L.tree o.guard=some true:=by exact rfl) (hx:kA L x=some (str l):=by exact rfl) (hy:kA L y=some (str m):=by exact rfl)
 (hop:qeD op l m=some p:=by exact rfl) (hp1:qE sz L o.dst (.bool true)=some L1:=by exact rfl) (hp2:qE sz L o.dst (.bool false)=some L2:=by exact rfl):KO P X sz ops (o :: os) L h R:=by
 by_cases q:p
 ·exact zN ho hg hx hy (KC hop true (by simp [q])) hp1 (w1 q)
 ·exact zN ho hg hx hy (KC hop false (by simp [q])) hp2 (w2 q)
theorem mnS {L':Ks} {x y:Operand} {tys:Array TypeId} {a b:List UInt8} (w:KO P X sz ops os L' h R) (ho:o.op = .call { callee:=.builtin .min,args:=#[x,y],argTypes:=tys }:=by exact rfl) (hg:qo ops L.tree o.guard=some true:=by exact rfl) (hx:kA L x=some (str a):=by exact rfl) (hy:kA L y=some (str b):=by exact rfl)
 (hp:qE sz L o.dst (str (YV a b))=some L':=by exact rfl):KO P X sz ops (o :: os) L h R :=
 qW hg (by
  rw [ho];unfold str;have e:(if (Op.bytesLess a b || zU ⟨a.toArray⟩ ⟨b.toArray⟩)=true then (⟨a.toArray⟩:ByteArray) else ⟨b.toArray⟩)=⟨(YV a b).toArray⟩:=by
   rw [WW];unfold YV Qh;by_cases hb:Op.bytesLess b a=true<;>simp [hb]
  have hx':=qB hx;have hy':=qB hy;unfold str at hx' hy';simp only [zD,zY,hx',hy',zO,Yu,lesser,qH,e]) hp w
theorem mxS {L':Ks} {x y:Operand} {tys:Array TypeId} {a b:List UInt8} (w:KO P X sz ops os L' h R) (ho:o.op = .call { callee:=.builtin .max,args:=#[x,y],argTypes:=tys }:=by exact rfl) (hg:qo ops L.tree o.guard=some true:=by exact rfl) (hx:kA L x=some (str a):=by exact rfl) (hy:kA L y=some (str b):=by exact rfl)
 (hp:qE sz L o.dst (str (YW a b))=some L':=by exact rfl):KO P X sz ops (o :: os) L h R :=
 qW hg (by
  rw [ho];unfold str;have e:(if (!Op.bytesLess a b)=true then (⟨a.toArray⟩:ByteArray) else ⟨b.toArray⟩)=⟨(YW a b).toArray⟩:=by
   unfold YW Qh;by_cases hb:Op.bytesLess a b=true<;>simp [hb]
  have hx':=qB hx;have hy':=qB hy;unfold str at hx' hy';simp only [zD,zY,hx',hy',zO,Yu,greater,qH,e]) hp w
end
section
variable {P:Program} {X:Extern} {inR:Bool} {sz:Nat} {L:Ks} {h h0:AH} {rs:List Rs} {ops:Array Oper} {os:List Oper} {o:Oper} {R:Ks→AH→Prop} {Q:KQ}
theorem pU1 {L':Ks} {x:Operand} {s dt e t:TypeId} {b m:Nat} {c:List Value} (hb:h.get b=some (.cells c e none false)) (w:KO P X sz ops os L' h R) (ho:o.op = .convert s dt x:=by exact rfl) (hg:qo ops L.tree o.guard=some true:=by exact rfl) (hx:kA L x=some (.pointer (some ⟨b,0,none⟩)):=by exact rfl)
 (hs:P.underlying s=some (.pointer t):=by exact rfl) (hd:P.underlying dt=some .unsafePointer:=by exact rfl) (hz:zq P t=some (m+1):=by exact rfl) (hc:Nat.blt 0 c.length=true:=by exact rfl) (hp:qE sz L o.dst (.pointer (some ⟨b,0,none⟩))=some L':=by exact rfl):KO P X sz ops (o :: os) L h R :=
 qW hg (by rw [ho];simp only [zD,qB hx,zF,hs,hd,zx,zM,hb,hz,hc,qH]) hp w
theorem pU2 {L':Ks} {x:Operand} {s dt e t:TypeId} {b m:Nat} {c:List Value} (hb:h.get b=some (.cells c e none false)) (w:KO P X sz ops os L' h R) (ho:o.op = .convert s dt x:=by exact rfl) (hg:qo ops L.tree o.guard=some true:=by exact rfl) (hx:kA L x=some (.pointer (some ⟨b,0,none⟩)):=by exact rfl)
 (hs:P.underlying s=some .unsafePointer:=by exact rfl) (hd:P.underlying dt=some (.pointer t):=by exact rfl) (hz:zq P t=some (m+1):=by exact rfl) (hc:liesAt P P.depth e (c.length / P.cellsOf e) 0 t 1=true:=by exact rfl) (hp:qE sz L o.dst (.pointer (some ⟨b,0,none⟩))=some L':=by exact rfl):KO P X sz ops (o :: os) L h R :=
 qW hg (by rw [ho];simp only [zD,qB hx,zF,hs,hd,zx,zM,hb,hz,hc,qH]) hp w
theorem pN {L':Ks} {x y:Operand} {ty ty2 e:TypeId} {b m:Nat} (w:KO P X sz ops os L' h R) (ho:o.op = .binOp .neq ty x y ty2:=by exact rfl) (hg:qo ops L.tree o.guard=some true:=by exact rfl) (hx:kA L x=some (.pointer (some ⟨b,0,none⟩)):=by exact rfl) (hy:kA L y=some (.pointer (some ⟨b,0,none⟩)):=by exact rfl)
 (hu:P.underlying ty=some (.pointer e):=by exact rfl) (hz:zq P e=some (m+1):=by exact rfl) (hp:qE sz L o.dst (.bool false)=some L':=by exact rfl):KO P X sz ops (o :: os) L h R :=
 zN ho hg hx hy (v:=.bool false) (by simp only [Qe,hu,hz,show Nat.beq b b=true by simp];rfl) hp w
theorem tcL {L':Ks} {x y:Operand} {ty ty2:TypeId} {l m:List UInt8} (w:KO P X sz ops os L' h R) (ho:o.op = .binOp .add ty x y ty2:=by exact rfl) (hg:qo ops L.tree o.guard=some true:=by exact rfl) (hx:kA L x=some (str l):=by exact rfl) (hy:kA L y=some (str m):=by exact rfl)
 (hb:l.length+m.length≤4611686018427387904:=by first|omega|(simp only [zB2,zC4,List.length_nil];omega)) (hp:qE sz L o.dst (str (l ++ m))=some L':=by exact rfl):KO P X sz ops (o :: os) L h R:=qeg ho hg hx hy hb hp w
theorem Qg {σ:Type} {a b c:Code} (I:σ→AH→Prop) (sl:σ→Ks) (w1:K P X inR sz a L h (yH P X inR sz b (qeY I sl Q))) (w2:∀ s h',I s h'→K P X inR sz c (sl s) h' Q):K P X inR sz a L h (yH P X inR sz b (yH P X inR sz c Q)):=by
 have key:∀ x L' h',qeY I sl Q x L' h'→yH P X inR sz c Q x L' h':=fun x L' h' q=>by
  cases x with
  | norm=>obtain ⟨s,q1,q2⟩:=q;exact (w2 s h' q1).le q2
  | exit id=>exact q
  | ret=>exact q
 refine w1.mono fun x L' h' q=>?_;cases x with
 | norm=>exact K.mono q key
 | exit id=>exact q
 | ret=>exact q
theorem Qb {σ:Type} {a c:Code} (I:σ→AH→Prop) (sl:σ→Ks) (w1:K P X inR sz a L h (qeY I sl Q)) (w2:∀ s h',I s h'→K P X inR sz c (sl s) h' Q):K P X inR sz a L h (yH P X inR sz c Q) :=
 w1.mono fun x L' h' q=>by
  cases x with
  | norm=>obtain ⟨s,q1,q2⟩:=q;exact (w2 s h' q1).le q2
  | exit id=>exact q
  | ret=>exact q
end
theorem Sep.perm {lo:Nat} {h:AH} {rs rs':List Rs} (p:rs.Perm rs'):∀ {U:Fp},Sep lo h rs U→Sep lo h rs' U:=by
 induction p with
 | nil=>intro U k;exact k
 | cons x p ih=>intro U ⟨fp,h1,h2,h3⟩;exact ⟨fp,h1,h2,ih h3⟩
 | swap x y l =>
  intro U ⟨fy,h1,h2,fx,g1,g2,g3⟩;exact ⟨fx,g1,fun b hb=>⟨(g2 b hb).1,(g2 b hb).2.1,(g2 b hb).2.2.1⟩,fy,h1,fun b hb=>⟨(h2 b hb).1,(h2 b hb).2.1,(h2 b hb).2.2,fun q=>(g2 b q).2.2.2 hb⟩,g3.mono fun b hb=>⟨⟨hb.1.1,hb.2⟩,hb.1.2⟩⟩
 | trans p q ih1 ih2=>intro U k;exact ih2 (ih1 k)
theorem Hs.perm {h0 h:AH} {rs rs':List Rs} (S:Hs h0 h rs) (p:rs.Perm rs'):Hs h0 h rs':=⟨S.ext,S.sep.perm p⟩
structure SlV where
 p:Option Addr
 n:Nat
 c:Nat
abbrev SlV.val (s:SlV):Value:=.slice s.p s.n s.c
theorem Rd.isSl {h:AH} {v:Value} {z n:Nat} {c:List Value} (r:Rd h v z n c):∃ s:SlV,v=s.val:=by
 rcases r with ⟨rfl,-,-⟩|⟨b,o,cap,cc,e,s,q,rfl,-,-⟩
 ·exact ⟨⟨none,0,0⟩,rfl⟩
 ·exact ⟨⟨some ⟨b,o,none⟩,n,cap⟩,rfl⟩
theorem Hs.nilS {h0 h:AH} {rs:List Rs} {α:Type} {e:TypeId} {z:Nat} {enc:α→List Value} (S:Hs h0 h rs):Hs h0 h (.sl (.slice none 0 0) e z enc [] :: rs) :=
 S.grow (fp:=fun _=>False) (Ext.refl S.wf) (.inl ⟨rfl,rfl⟩) fun b hb=>hb.elim
theorem Hs.anyS {h0 h:AH} {rs:List Rs} {p:AH→Fp→Prop} (S:Hs h0 h rs) (k:∀ h',p h' fun _=>False):Hs h0 h (.any p :: rs) :=
 S.grow (fp:=fun _=>False) (Ext.refl S.wf) (fun h' _=>k h') fun b hb=>hb.elim
theorem Hs.anyP {h0 h:AH} {rs:List Rs} {p:AH→Fp→Prop} (S:Hs h0 h rs) (a:At rs (.any p)):∃ fp,p h fp:=by
 obtain ⟨fp,k,-⟩:=a.ok S.sep;exact ⟨fp,k h fun _ _=>rfl⟩
theorem Hs.capS {h0 h:AH} {rs:List Rs} {v:Value} {α:Type} {e:TypeId} {z:Nat} {enc:α→List Value} {l:List α} (S:Hs h0 h rs) (a:At rs (.sl v e z enc l)):zV v:=by
 obtain ⟨fp,k,-⟩:=a.ok S.sep;rcases k with ⟨rfl,-⟩|⟨b,o,cc,slk,cap,rfl,-,-,-,h,-⟩
 ·exact zA3 _
 ·exact h.1
theorem Hs.conv {h0 h:AH} {rs:List Rs} {r r':Rs} (S:Hs h0 h (r :: rs)) (k:∀ fp,r.ok h fp→r'.ok h fp):Hs h0 h (r' :: rs):=by
 obtain ⟨fp,k1,k2⟩:=S.sep;exact ⟨S.ext,fp,k fp k1,k2⟩
theorem wU {α:Type} {l m:List α} {j:Nat} {d:α} (h:j<l.length):(l ++ m).getD j d=l.getD j d:=by simp [List.getD,zH7 h]
theorem gA2 {α:Type} {l m:List α} {j:Nat} {d:α} (h:l.length≤j):(l ++ m).getD j d=m.getD (j - l.length) d:=by simp [List.getD,List.getElem?_append_right h]
theorem Hs.slRd {h0 h:AH} {rs:List Rs} {α:Type} {v:Value} {e:TypeId} {z:Nat} {enc:α→List Value} {l:List α} (S:Hs h0 h (.sl v e z enc l :: rs)):Hs h0 h (.rd v z enc l :: rs):=S.conv fun fp k=>by
 rcases k with k|⟨b,o,cc,slk,cap,h1,h2,h3,h4,-⟩
 ·exact .inl k
 ·exact .inr ⟨b,o,_,cc,e,slk,false,h1,h2,h3,h4⟩
theorem Hs.sV {h0 h:AH} {rs:List Rs} (S:Hs h0 h rs) (v:Value) {α:Type} {z:Nat} {enc:α→List Value} {l:List α} [i:HasR rs v α z enc l]:∃ s:SlV,v=s.val:=(i.rd S).isSl
end Go.Proofs.Xx
namespace Go.Proofs.Xx
open Go Go.RowKit
def Ql (c:UInt8):List UInt8→Option Nat
 | []=>none
 | x :: s=>if x=c then some 0 else (Ql c s).map (· + 1)
def VV (c:UInt8) (s:List UInt8):Int:=match Ql c s with|some i=>i|none=>-1
def xJ (c:UInt8) (s:List UInt8):Nat:=s.countP (· == c)
theorem y9 (c:UInt8):∀ s:List UInt8,(Ql c s=none∧Lib.indexByte s c = -1)∨∃ i:Nat,Ql c s=some i∧Lib.indexByte s c=i
 | []=>.inl ⟨rfl,rfl⟩
 | x :: s=>by
  unfold Ql Lib.indexByte;by_cases e:x=c
  ·rw [if_pos e,if_pos (by simpa using e)];exact .inr ⟨0,rfl,rfl⟩
  ·rw [if_neg e,if_neg (by simpa using e)];rcases y9 c s with ⟨h1,h2⟩|⟨i,h1,h2⟩
   ·rw [h1,h2];exact .inl ⟨rfl,rfl⟩
   ·rw [h1,h2];refine .inr ⟨i+1,rfl,?_⟩;rw [if_neg (by intro q;have:=eq_of_beq q;omega)];rfl
theorem qcv (c:UInt8) (s:List UInt8):Lib.indexByte s c=VV c s:=by
 unfold VV;rcases y9 c s with ⟨h1,h2⟩|⟨i,h1,h2⟩
 ·rw [h1,h2]
 ·rw [h1,h2]
def withBytes (X:Extern) (cnt ix:Nat):Extern:=fun g args h=>match Nat.beq g cnt,Nat.beq g ix,args with
 | true,_,[.string s,.int .u8 c]=>some (.int .i64 (xJ c.toNat.toUInt8 s.data.toList:Nat),h)
 | _,true,[.string s,.int .u8 c]=>some (.int .i64 (VV c.toNat.toUInt8 s.data.toList),h)
 | _,_,_=>X g args h
theorem vK [Glob] {P:Program} {X:Extern} (hX:XE P X) {cnt ix:Nat} {f1 f2:Func} (h1:P.funcs[cnt]? = some f1) (h2:P.funcs[ix]? = some f2) (n1:(f1.name == "runtime.NumGoroutine")=false) (n2:(f2.name == "runtime.NumGoroutine")=false)
 (b1:f1.body.isNone=true) (b2:f2.body.isNone=true) (m1:Extern.findNext f1=none) (m2:Extern.findNext f2=none) (e1:Extern.find f1=some Extern.BytealgCount.count) (e2:Extern.find f2=some Extern.BytealgIndexByte.indexByte):XE P (withBytes X cnt ix):=by
 intro f args h v h' hx B e w args' r hargs;unfold withBytes at hx;split at hx
 ·rename_i s c hf
  cases hx
  have:=zA6 hf;subst this;obtain ⟨x',r',rfl,hx',hr'⟩:=hargs.cons_inv;obtain ⟨y',r2,rfl,hy',hr2⟩:=hr'.cons_inv;have:=hr2.nil_inv;subst this;cases hx';cases hy'
  refine ⟨e,_,w,r,Turn.refl _ _ _,.int _ _,.inl ?_⟩;rw [run_callFunc_extern h1 n1 b1 m1 e1,Lib.run_countString];rfl
 ·rename_i s c hg hf
  cases hx
  have:=zA6 hg;subst this;obtain ⟨x',r',rfl,hx',hr'⟩:=hargs.cons_inv;obtain ⟨y',r2,rfl,hy',hr2⟩:=hr'.cons_inv;have:=hr2.nil_inv;subst this;cases hx';cases hy'
  refine ⟨e,_,w,r,Turn.refl _ _ _,.int _ _,.inl ?_⟩;rw [run_callFunc_extern h2 n2 b2 m2 e2,Lib.run_indexByteString,qcv];rfl
 ·exact hX _ _ _ _ _ hx B e w args' r hargs
end Go.Proofs.Xx
namespace Go.Proofs.Xx
open Go Go.RowKit
def V6 (X:Extern) (n:Nat):Extern:=fun g args h=>match Nat.beq g n,args with
 | true,[.string a,.string b]=>some (.int .i64 (Lib.compareBytes a.data.toList b.data.toList),h)
 | _,_=>X g args h
theorem GU [Glob] {P:Program} {X:Extern} (hX:XE P X) {n:Nat} {f1:Func} (h1:P.funcs[n]? = some f1) (n1:(f1.name == "runtime.NumGoroutine")=false) (b1:f1.body.isNone=true) (m1:Extern.findNext f1=none) (e1:Extern.find f1=some Extern.BytealgCompare.compare):XE P (V6 X n):=by
 intro f args h v h' hx B e w args' r hargs;unfold V6 at hx;split at hx
 ·rename_i s c hf
  cases hx
  have:=zA6 hf;subst this;obtain ⟨x',r',rfl,hx',hr'⟩:=hargs.cons_inv;obtain ⟨y',r2,rfl,hy',hr2⟩:=hr'.cons_inv;have:=hr2.nil_inv;subst this;cases hx';cases hy'
  refine ⟨e,_,w,r,Turn.refl _ _ _,.int _ _,.inl ?_⟩;rw [run_callFunc_extern h1 n1 b1 m1 e1,Lib.run_compareString];rfl
 ·exact hX _ _ _ _ _ hx B e w args' r hargs
def qcO (x y:Value) (h:AH):Bool :=
 match x,y with
 | .slice _ 0 _,.slice _ _ _=>true
 | .slice _ _ _,.slice _ 0 _=>true
 | .slice (some ⟨b,_,none⟩) _ _,.slice (some ⟨b',_,none⟩) _ _=>match Nat.beq b b',h.get b,h.get b' with
  | false,some (.cells _ _ _ false),some (.cells (_ :: _) _ _ false)=>true
  | _,_,_=>false
 | _,_=>false
def V4 (X:Extern) (n:Nat):Extern:=fun g args h=>match Nat.beq g n,args with
 | true,[x,y]=>match qcO x y h with
  | true=>some (.bool false,h)
  | false=>none
 | _,_=>X g args h
theorem Zt {P:Program} (w:World) (tS tR e:TypeId) (ht:P.underlying tS=some (.slice e)) (size:Nat) (hz:∀ w,(Go.sizeOf e).run P w = .ok size w) (a b:Option Addr) (la ca lb cb:Nat) (h0:la=0∨lb=0) :
 (Extern.SlicesOverlaps.overlaps #[tS,tS] #[tR] #[.slice a la ca,.slice b lb cb]).run P w = .ok (.bool false) w:=by
 change Sem.run P (α:=Value) (do
  let some t:=(#[tS,tS]:Array TypeId)[0]?|stuck "slices.overlaps: no parameter types"
  let .slice elem ← underlying t|stuck "slices.overlaps: slice type expected"
  let size ← sizeOf elem
  match a,b with
  | some a,some b =>
   if la=0∨lb=0∨size=0 then pure (Value.bool false)
   else if a.block != b.block && (← frozen a) && (← frozen b) then unsupported .addressObserved
   else do
    if a.block != b.block then do
     noView a;noView b
     if ← mayBeOne a b then return Value.bool ((← choose (.extern "sameAddr.stringBytes" 2)) == 1)
    pure (Value.bool (a.block == b.block && a.off<b.off+lb*size && b.off<a.off+la*size))
  | _,_=>pure (Value.bool false)) w=_
 have h1:la=0∨lb=0∨size=0:=by rcases h0 with h|h;exact .inl h;exact .inr (.inl h)
 cases a with
 | none=>simp [run_underlying ht,hz]
 | some a=>cases b with
  | none=>simp [run_underlying ht,hz]
  | some b=>simp [run_underlying ht,hz,h1]
theorem GM [Glob] {P:Program} {X:Extern} (hX:XE P X) {n:Nat} {f1:Func} {tS tR el:TypeId} {size:Nat} (h1:P.funcs[n]? = some f1) (n1:(f1.name == "runtime.NumGoroutine")=false) (b1:f1.body.isNone=true) (m1:Extern.findNext f1=none)
 (e1:Extern.find f1=some (Extern.SlicesOverlaps.overlaps #[tS,tS] #[tR])) (ht:P.underlying tS=some (.slice el)) (hz:∀ w,(Go.sizeOf el).run P w = .ok size w):XE P (V4 X n):=by
 intro f args h v h' hx B e w args' r hargs;unfold V4 at hx;split at hx
 ·rename_i x y hf
  split at hx
  rotate_left
  ·cases hx
  rename_i hap
  cases hx
  have:=zA6 hf;subst this;obtain ⟨x',r',rfl,hx',hr'⟩:=hargs.cons_inv;obtain ⟨y',r2,rfl,hy',hr2⟩:=hr'.cons_inv;have:=hr2.nil_inv;subst this;have key:(Extern.SlicesOverlaps.overlaps #[tS,tS] #[tR] #[x',y']).run P w = .ok (.bool false) w:=by
   unfold qcO at hap;split at hap
   ·cases hx'<;>cases hy'<;>exact Zt w tS tR el ht size hz _ _ _ _ _ _ (.inl rfl)
   ·cases hx'<;>cases hy'<;>exact Zt w tS tR el ht size hz _ _ _ _ _ _ (.inr rfl)
   ·rename_i b o la ca b' o' lb cb q1 q2
    split at hap
    ·rename_i c1 t1 s1 x0 c2 t2 s2 hne hb1 hb2
     cases hx' with
     | slice _ _ a _ _ L hL hl ho =>
     cases hy' with
     | slice _ _ a' _ _ L' hL' hl' ho' =>
     have hla:la≠0:=fun q=>q1 q;have hlb:lb≠0:=fun q=>q2 q;obtain rfl:a=⟨L.blk,L.sh+o,none⟩:=by rcases ho with ho|ho;exact ho;omega
     obtain rfl:a'=⟨L'.blk,L'.sh+o',none⟩:=by rcases ho' with ho|ho;exact ho;omega
     have o1:=r.obj _ _ _ hL hb1;have o2:=r.obj _ _ _ hL' hb2;obtain ⟨cc,fr,g1,g2,g3,g4,g5,g6⟩:=o1;obtain ⟨cc',fr',k1,k2,k3,k4,k5,k6⟩:=o2;have hblk:L.blk≠L'.blk:=fun q=>by
      have:=r.inj _ _ _ _ _ _ hL hb1 hL' hb2 q rfl rfl;subst this;simp at hne
     refine Lib.run_overlaps_apart w tS tR el ht size hz _ _ la _ lb _ hblk t1 t2 cc.size cc'.size ?_ ?_ ?_ ?_ ?_
     ·simp only [World.shape?,g1]
     ·simp only [World.shape?,k1]
     ·simp at k2;omega
     ·have:=g6 rfl (L.sh+o);unfold World.frozen?;simp only [g1];simp only [zH2,decide_eq_false_iff_not];omega
     ·have:=g6 rfl cc.size;unfold World.frozen?;simp only [g1];simp only [zH2,decide_eq_false_iff_not];omega
    ·cases hap
   ·cases hap
  refine ⟨e,_,w,r,Turn.refl _ _ _,.bool _,.inl ?_⟩;rw [run_callFunc_extern h1 n1 b1 m1 e1,key];rfl
 ·exact hX _ _ _ _ _ hx B e w args' r hargs
end Go.Proofs.Xx
namespace Go.Proofs.Xx
open Go Go.RowKit Go.Shelf
class Flag where
 b:Bool
instance flagOn:Flag:=⟨true⟩
def qgG:Ren where
 f x:=match x with | 217=>183 | 219=>124 | 224=>185 | 225=>184 | 266=>239 | 267=>186 | 314=>240|x=>x
 t x:=match x with | 3=>3 | 4=>4 | 5=>5 | 9=>9 | 46=>206 | 51=>158 | 146=>261|x=>x
 g x:=match x with | 1=>0|x=>x
theorem laysX:Lays.n219 Tryz.prog qgG where
 mixed:=by kernel_rfl
 f217:=by kernel_rfl
 f219:=by kernel_rfl
 f224:=by kernel_rfl
 f225:=by kernel_rfl
 f266:=by kernel_rfl
 f267:=by kernel_rfl
 f314:=by kernel_rfl
 t3:=by kernel_rfl
 a3:=fun w=>by rfl
 z3:=fun w=>by rfl
 v3:=fun w=>by rfl
 t4:=by kernel_rfl
 a4:=fun w=>by rfl
 z4:=fun w=>by rfl
 v4:=fun w=>by rfl
 t5:=by kernel_rfl
 a5:=fun w=>by rfl
 z5:=fun w=>by rfl
 v5:=fun w=>by rfl
 t9:=by kernel_rfl
 a9:=fun w=>by rfl
 z9:=fun w=>by rfl
 v9:=fun w=>by rfl
 t46:=by kernel_rfl
 a46:=fun w=>by rfl
 z46:=fun w=>by rfl
 v46:=fun w=>by rfl
 t51:=by kernel_rfl
 a51:=fun w=>by rfl
 z51:=fun w=>by rfl
 v51:=fun w=>by rfl
 t146:=by kernel_rfl
 a146:=fun w=>by rfl
 z146:=fun w=>by rfl
 v146:=fun w=>by rfl
 g1:=by kernel_rfl
def qgH:Ren where
 f x:=match x with | 129=>252 | 284=>235 | 317=>262 | 318=>263|x=>x
 t x:=match x with | 0=>0 | 3=>3 | 4=>4 | 5=>5 | 9=>9 | 46=>206 | 53=>255 | 212=>283|x=>x
 g x:=match x with | 17=>1|x=>x
theorem laysD:LaysM.n284 Tryz.prog qgH where
 mixed:=by kernel_rfl
 f129:=by kernel_rfl
 f284:=by kernel_rfl
 f317:=by kernel_rfl
 f318:=by kernel_rfl
 t0:=by kernel_rfl
 a0:=fun w=>by rfl
 z0:=fun w=>by rfl
 v0:=fun w=>by rfl
 t3:=by kernel_rfl
 a3:=fun w=>by rfl
 z3:=fun w=>by rfl
 v3:=fun w=>by rfl
 t4:=by kernel_rfl
 a4:=fun w=>by rfl
 z4:=fun w=>by rfl
 v4:=fun w=>by rfl
 t5:=by kernel_rfl
 a5:=fun w=>by rfl
 z5:=fun w=>by rfl
 v5:=fun w=>by rfl
 t9:=by kernel_rfl
 a9:=fun w=>by rfl
 z9:=fun w=>by rfl
 v9:=fun w=>by rfl
 t46:=by kernel_rfl
 a46:=fun w=>by rfl
 z46:=fun w=>by rfl
 v46:=fun w=>by rfl
 t53:=by kernel_rfl
 a53:=fun w=>by rfl
 z53:=fun w=>by rfl
 v53:=fun w=>by rfl
 t212:=by kernel_rfl
 a212:=fun w=>by rfl
 z212:=fun w=>by rfl
 v212:=fun w=>by rfl
 g17:=by kernel_rfl
 i0:=by kernel_rfl
 i3:=by kernel_rfl
 i4:=by kernel_rfl
 i5:=by kernel_rfl
 i9:=by kernel_rfl
 i46:=by kernel_rfl
 i53:=by kernel_rfl
 i212:=by kernel_rfl
 m17:=by kernel_rfl
instance globBook [Flag]:Glob:=⟨fun lo ref=>1<lo∧(∃ m el fr,ref[0]? = some (.cells #[.int .i64 m] el fr))∧(Flag.b=true→∃ el fr,ref[1]? = some (.cells (Lib.pow10Tab.map fun z=>Value.int .u64 z).toArray el fr))⟩
theorem qeL:Tryz.prog.globalNamed "internal/strconv.uint64pow10" = some 1:=by kernel_rfl
theorem qct [Flag] {B:Bs} {e:Emb} {h:AH} {w:World} (r:Rel B e h w):∃ m,w.cell? ⟨0,0,none⟩=some (.int .i64 m):=by
 obtain ⟨h1,⟨m,el,fr,h2⟩,-⟩:=r.glob;have h3:=(r.keep 0 (by omega)).trans h2;refine ⟨m,?_⟩;unfold World.cell?;simp only [h3];rfl
theorem qcr [Flag] {B:Bs} {e:Emb} {h:AH} {w:World} (r:Rel B e h w) (hf:Flag.b=true):Lib.TabIs Tryz.prog w "internal/strconv.uint64pow10" .u64 Lib.pow10Tab:=by
 obtain ⟨h1,-,h2⟩:=r.glob;obtain ⟨el,fr,h2⟩:=h2 hf;have h3:=(r.keep 1 (by omega)).trans h2;unfold Lib.TabIs World.var?;rw [qeL];simp only [Option.bind_some,h3]
def V5 (X:Extern) (f:FuncId):Extern:=fun g args h=>match Nat.beq g f,args with
 | true,[.string s,.string t]=>if s.data.toList.length<4294967281 then some (.int .i64 (Lib.index s.data.toList t.data.toList),h) else none
 | _,_=>X g args h
theorem GR [Flag] {X:Extern} (hX:XE Tryz.prog X):XE Tryz.prog (V5 X 124):=by
 intro g args h u h1 hx B e w args' r hargs;unfold V5 at hx;split at hx
 ·rename_i s t hg
  have:=zA6 hg;subst this;split at hx
  rotate_left
  ·cases hx
  rename_i hz
  cases hx
  obtain ⟨x',r',rfl,hx',hr'⟩:=hargs.cons_inv;obtain ⟨y',r2,rfl,hy',hr2⟩:=hr'.cons_inv;have:=hr2.nil_inv;subst this;cases hx';cases hy'
  obtain ⟨m,hm⟩:=qct r;refine ⟨e,_,w,r,Turn.refl _ _ _,.int _ _,.inr ⟨?_,fun c cs=>?_⟩⟩
  ·exact Go.Proofs.enters_of laysX.f219 (by kernel_rfl) rfl _ _
  ·have hc:=Any.stringslite_Index laysX s t m w (by simpa using hz) hm (c :: cs);obtain ⟨en,w',fr,⟨rfl,rfl⟩,hco,-,hl⟩:=hc;exact Steps.trans hco (.one (step_leave_returned hl))
 ·exact hX _ _ _ _ _ hx B e w args' r hargs
def Jb [Flag] (X:Extern) (f:FuncId):Extern:=fun g args h=>match Nat.beq g f,args with
 | true,[.int .u64 u]=>if Flag.b=true∧1≤u∧u<18446744073709551616 then some (.int .i64 (Lib.nDigits u.toNat),h) else none
 | _,_=>X g args h
theorem yf [Flag] {X:Extern} (hX:XE Tryz.prog X):XE Tryz.prog (Jb X 235):=by
 intro g args h u h1 hx B e w args' r hargs;unfold Jb at hx;split at hx
 ·rename_i z hg
  have:=zA6 hg;subst this;split at hx
  rotate_left
  ·cases hx
  rename_i hz
  cases hx
  obtain ⟨x',r',rfl,hx',hr'⟩:=hargs.cons_inv;have:=hr'.nil_inv;subst this;cases hx'
  refine ⟨e,.int .i64 (Lib.nDigits z.toNat),w,r,Turn.refl _ _ _,.int _ _,.inr ⟨?_,fun c cs=>?_⟩⟩
  ·exact Go.Proofs.enters_of laysD.f284 (by kernel_rfl) rfl _ _
  ·have hc:=Any.internal_strconv_numDigits laysD z.toNat (by omega) (by omega) w (qcr r hz.1) (c :: cs);rw [show ((z.toNat:Nat):Int)=z by omega] at hc;obtain ⟨en,w',fr,⟨rfl,rfl⟩,hco,-,hl⟩:=hc;exact Steps.trans hco (.one (step_leave_returned hl))
 ·exact hX _ _ _ _ _ hx B e w args' r hargs
theorem KF [Flag]:XE Tryz.prog (jJ 176) :=
 Yx Tryz.func176 (by kernel_rfl) (by kernel_rfl) (by kernel_rfl) (by kernel_rfl)
theorem XO (f:FuncId) (fn:Func) (h:Tryz.prog.funcs[f]? = some fn) (hb:fn.body.isSome=true):(fn.name == "runtime.NumGoroutine")=false:=by
 have h0:Tryz.prog.funcs.all (fun fn=>!(fn.name == "runtime.NumGoroutine"))=true:=by kernel_rfl
 have:=Array.all_eq_true_iff_forall_mem.1 h0 fn (Array.mem_of_getElem? h);simpa using this
theorem follows:Tryz.prog.follows .mixedOrders=true:=by kernel_rfl
def X0:Extern:=V5 (V4 (V6 (withBytes (jJ 176) 67 239) 323) 321) 124
theorem qgp [Flag]:XE Tryz.prog X0 :=
 GR <| GM (tS:=24) (tR:=4) (el:=174) (size:=3) (GU (vK KF Tryz.func67 Tryz.func239 (by kernel_rfl) (by kernel_rfl) (by kernel_rfl) (by kernel_rfl) (by kernel_rfl) (by kernel_rfl) (by kernel_rfl) (by kernel_rfl))
  Tryz.func323 (by kernel_rfl) (by kernel_rfl) (by kernel_rfl) (by kernel_rfl)) Tryz.func321 (by kernel_rfl) (by kernel_rfl) (by kernel_rfl) (by rfl) (by kernel_rfl) (fun w=>by rfl)
end Go.Proofs.Xx
namespace Go.Proofs.Xx
open Go Go.RowKit Go.Lib Go.Proofs
section
variable {P:Program}
theorem qbj (w:World) {o:Oper} {a:Act} {K:Act→World→Prop} {Q:Exit→Act→World→Prop} (d s:Operand) (t t':TypeId)
 (ho:o.op = .call { callee:=.builtin .copy,args:=#[d,s],argTypes:=#[t,t'] }) (v u:Value) (hd:a.eval d=v) (hs:a.eval s=u) {v':Value} {w':World}
 (hr:(Builtin.copy_ #[t,t'] o.type #[v,u]).run P w = .ok v' w') (h:K (a.put o.dst v') w'):o.wp P a w K Q:=by
 unfold Oper.wp execOp;simp only [ho,resolve,invoke,builtin,zA5,zB1,zA1,List.map_toArray,List.map_cons,List.map_nil,hd,hs,hr];exact h
theorem Ja (w:World) {ops:Array Oper} {rest:List Oper} {o:Oper} {a:Act} {Q:Exit→Act→World→Prop} (hgd:o.guard=none) (d s:Operand) (t t':TypeId)
 (ho:o.op = .call { callee:=.builtin .copy,args:=#[d,s],argTypes:=#[t,t'] }) (v u:Value) (hd:a.eval d=v) (hs:a.eval s=u) {v':Value} {w':World}
 (hr:(Builtin.copy_ #[t,t'] o.type #[v,u]).run P w = .ok v' w') (h:wpList P ops Q rest (a.put o.dst v') w'):wpList P ops Q (o :: rest) a w :=
 wpList_plain hgd fun _ hK=>qbj w d s t t' ho v u hd hs hr (hK _ _ h)
theorem Wx {ops:Array Oper} {o:Oper} {a:Act} {w:World} {K:Act→World→Prop} {Q:Exit→Act→World→Prop} {E:Prop}
 (hg:o.guard=none) (d x:Operand) (dT sT:TypeId) (hop:o.op=Op.call { callee:=Callee.builtin Builtin.copy,args:=#[d,x],argTypes:=#[dT,sT] })
 (v u:Value) (hd:a.eval d=v) (hx:a.eval x=u) {v':Value} {w':World} (hr:(Builtin.copy_ #[dT,sT] o.type #[v,u]).run P w = .ok v' w') (hK:K (a.put o.dst v') w') :
 if Region.wanted o (yielded ops a.tmps)=true then Oper.wp P o a w K Q else E:=by
 have hw:Region.wanted o (yielded ops a.tmps)=true:=by simp [Region.wanted,hg]
 rw [if_pos hw];unfold Oper.wp;simp [execOp,hop,resolve,invoke,builtin,hd,hx,hr,Result.andThen]
 exact hK
theorem isSome_setCells (b:Nat) (vs:List Value) (o:Nat) (w:World) (h:∀ j,j<vs.length→(w.cell? ⟨b,o+j,none⟩).isSome=true) (k:Nat) (hk:(w.cell? ⟨b,k,none⟩).isSome=true):((w.setCells b o vs).cell? ⟨b,k,none⟩).isSome=true:=by
 by_cases hin:o≤k∧k<o+vs.length
 ·have:=World.cell?_setCells_in b vs o w h (k - o) (by omega);rw [show o+(k - o)=k by omega] at this;rw [this];rfl
 ·rw [World.cell?_setCells_out b vs o w ⟨b,k,none⟩ (fun _ _=>by show k<o∨o+vs.length≤k;omega)];exact hk
theorem QH (w:World) (dT sT ty elem:TypeId) (z b o dLen dCap:Nat) (a:Addr) (sLen sCap:Nat) (cs:List Value)
 (hu:P.underlying dT=some (.slice elem)) (hs:(P.info? elem).map (·.size)=some z) (hn:cs.length=Nat.min sLen dLen*z)
 (hsrc:∀ j v,cs[j]? = some v→w.cell? (a.add j)=some v) (hc:∀ j,j<cs.length→(w.cell? ⟨b,o+j,none⟩).isSome=true) (hf:∀ j,j<cs.length→w.frozen? ⟨b,o+j,none⟩=false) (h1:∀ v∈cs,v.oneCell'=true) :
 (Builtin.copy_ #[dT,sT] ty #[.slice (some ⟨b,o,none⟩) dLen dCap,.slice (some a) sLen sCap]).run P w = .ok (goInt (Nat.min sLen dLen)) (w.setCells b o cs):=by
 have hl:=run_loadCells_list (P:=P) w a cs hsrc;have hst:=run_storeCells_cells (P:=P) b o cs 0 w (by simpa using hc) (by simpa using hf) h1;cases hq:P.info? elem with
 | none=>simp [hq] at hs
 | some i =>
  have hi:i.size=z:=by simpa [hq] using hs
  simp [Builtin.copy_,run_underlying hu,Builtin.lenOf,Builtin.firstCells,sizeOf,typeInfo,hq,hi,← hn,hl,hst]
end
set_option maxHeartbeats 4000000 in
set_option maxRecDepth 100000 in
theorem wO (b off n c i vb voff vc:Nat) (cs vs:List Value) (w:World) (hi:i<n) (hroom:n+1≤c) (hn63:n≤140737488355328) (hvb:vb≠b)
 (hcl:cs.length=3*n) (hvl:vs.length=3)
 (hcs:∀ j v,cs[j]? = some v→w.cell? ⟨b,off+j,none⟩=some v) (hsp:∀ j,j<3*(n+1)→(w.cell? ⟨b,off+j,none⟩).isSome=true) (hfz:∀ j,j<3*(n+1)→w.frozen? ⟨b,off+j,none⟩=false)
 (hvs:∀ j v,vs[j]? = some v→w.cell? ⟨vb,voff+j,none⟩=some v) (h1c:∀ v∈cs,v.oneCell'=true) (h1v:∀ v∈vs,v.oneCell'=true)
 (tA tB:TypeId) (kA kB:Nat) (hsa:w.shape? vb=some (tA,kA)) (hsb:w.shape? b=some (tB,kB)) (hkB:kB≠0) (hfa:w.frozen? ⟨vb,voff,none⟩=false) (hfe:w.frozen? ⟨vb,kA,none⟩=false) :
 Calls Tryz.prog 300 #[.slice (some ⟨b,off,none⟩) n c,.int .i64 i,.slice (some ⟨vb,voff,none⟩) 1 vc] w fun e w' =>
  e = .returned (.slice (some ⟨b,off,none⟩) (n+1) c)∧w'=(w.drew.setCells b (off+(i+1)*3) (cs.drop (i*3))).setCells b (off+i*3) vs:=by
 have u30:=Tryz.underlying24;have mixed:=follows;have hz1:¬ ((1:Int)=0):=by omega
 have hz2:¬ ((i:Int)=(n:Int)):=by omega
 have hsz:(Tryz.prog.info? 174).map (·.size)=some 3:=by kernel_rfl
 have hov:∀ lb cb,(callFunc 321 #[.slice (some ⟨vb,voff,none⟩) 1 vc,.slice (some ⟨b,off+(i+1)*3,none⟩) lb cb]).run Tryz.prog w = .ok (.value (.bool false)) w:=fun lb cb=>by
  rw [run_callFunc_extern Tryz.func321 (by kernel_rfl) (by kernel_rfl) (by kernel_rfl) (e:=Extern.SlicesOverlaps.overlaps #[24,24] #[4]) (by rfl),
   Lib.run_overlaps_apart w 24 4 174 u30 3 (fun w=>by rfl) ⟨vb,voff,none⟩ ⟨b,off+(i+1)*3,none⟩ 1 vc lb cb hvb tA tB kA kB hsa hsb hkB hfa hfe]
  rfl
 have hdl:(cs.drop (i*3)).length=(n - i)*3:=by rw [zB4,hcl];omega
 have hw1:IntKind.i64.wrap ((i:Int)+1)=(i:Int)+1:=by rw [IntKind.wrap_i64];omega
 have hw2:IntKind.i64.wrap ((n:Int)+1)=(n:Int)+1:=by rw [IntKind.wrap_i64];omega
 have hcp1:∀ ty dc sc,(Builtin.copy_ #[24,24] ty #[.slice (some ⟨b,off+(i+1)*3,none⟩) (n - i) dc,.slice (some ⟨b,off+i*3,none⟩) (n+1 - i) sc]).run Tryz.prog w.drew = .ok (goInt (Nat.min (n+1 - i) (n - i))) (w.drew.setCells b (off+(i+1)*3) (cs.drop (i*3))):=fun ty dc sc =>
  QH w.drew _ _ ty 174 3 b (off+(i+1)*3) (n - i) dc ⟨b,off+i*3,none⟩ (n+1 - i) sc (cs.drop (i*3)) u30 hsz (by rw [hdl];simp only [Nat.min_def];split<;>omega)
   (fun j v hj=>by rw [Addr.add_lit,zF7];exact hcs (i*3+j) v (by rwa [zC3] at hj))
   (fun j hj=>by rw [zF7];exact hsp _ (by omega)) (fun j hj=>by rw [zF7];exact hfz _ (by omega)) (fun v hv=>h1c v (List.mem_of_mem_drop hv))
 obtain ⟨W1,hW1⟩:∃ W1,W1=w.drew.setCells b (off+(i+1)*3) (cs.drop (i*3)):=⟨_,rfl⟩
 have hsp1:∀ k,k<3*(n+1)→(W1.cell? ⟨b,off+k,none⟩).isSome=true:=fun k hk=>by
  rw [hW1];exact isSome_setCells b _ _ _ (fun j hj=>by rw [zF7];exact hsp _ (by omega)) _ (hsp k hk)
 have hcp2:∀ (W:World),(∀ x,W.cell? x=W1.cell? x)→(∀ x,W.frozen? x=W1.frozen? x)→∀ ty dc,(Builtin.copy_ #[24,24] ty #[.slice (some ⟨b,off+i*3,none⟩) (n+1 - i) dc,.slice (some ⟨vb,voff,none⟩) 1 vc]).run Tryz.prog W = .ok (goInt (Nat.min 1 (n+1 - i))) (W.setCells b (off+i*3) vs):=fun W hWc hWf ty dc =>
  QH W _ _ ty 174 3 b (off+i*3) (n+1 - i) dc ⟨vb,voff,none⟩ 1 vc vs u30 hsz (by rw [hvl];simp only [Nat.min_def];split<;>omega)
   (fun j v hj=>by
    rw [Addr.add_lit,hWc,hW1,World.cell?_setCells_out b _ _ _ _ (fun h _=>absurd h hvb)];exact hvs j v hj)
   (fun j hj=>by rw [hWc,zF7];exact hsp1 _ (by omega)) (fun j hj=>by rw [hWf,hW1,World.frozen?_setCells,zF7];exact hfz _ (by omega)) h1v
 rw [← hW1] at hcp1;have hb1:(0:Int)≤(i:Int)+1:=by omega
 have hin:i≤n:=by omega
 have htn:((i:Int)+1).toNat=i+1:=by omega
 have hb2:¬ (c=i+1):=by omega
 have hb3:(i:Int)≤(n:Int)+1:=by omega
 have hb4:¬ (c=i):=by omega
 go_enter Tryz.func300,Tryz.ntmps300
 go_wp2_with (simp only [hov])
 go_region_law_o (refine Wx rfl _ _ 24 24 rfl _ _ (by simp [Act.eval,Act.put]) (by simp [Act.eval,Act.put]) (hcp1 _ _ _) ?_)
 go_wp2_with (at_builtin;refine Ja _ rfl _ _ 24 24 rfl _ _ rfl rfl (hcp2 _ (fun _=>rfl) (fun _=>rfl) _ _) ?_)
 go_ret
 first|exact ⟨rfl,rfl⟩|exact ⟨rfl,by rw [hW1]⟩
set_option maxHeartbeats 4000000 in
set_option maxRecDepth 100000 in
theorem KP (b off n c i vb voff vc:Nat) (cs vs:List Value) (w:World) (hi:i<n) (hnc:n≤c) (hroom:c<n+1) (hbig:(n+1)*40≤140737488355328)
 (hcl:cs.length=3*n) (hvl:vs.length=3)
 (hcs:∀ j v,cs[j]? = some v→w.cell? ⟨b,off+j,none⟩=some v)
 (hvs:∀ j v,vs[j]? = some v→w.cell? ⟨vb,voff+j,none⟩=some v) (h1c:∀ v∈cs,v.oneCell'=true) (h1v:∀ v∈vs,v.oneCell'=true) :
 Calls Tryz.prog 300 #[.slice (some ⟨b,off,none⟩) n c,.int .i64 i,.slice (some ⟨vb,voff,none⟩) 1 vc] w fun e w' =>
  e = .returned (.slice (some ⟨w.heap.size,0,none⟩) (n+1) (grownCap w (n+1) c 174)) ∧
  w'=(((w.alloc (.cells ((cs.take (i*3)).toArray ++ Builtin.zeroCells #[.string ⟨#[]⟩,.string ⟨#[]⟩,.int .u8 0] (n+1 - i) ++ Builtin.zeroCells #[.string ⟨#[]⟩,.string ⟨#[]⟩,.int .u8 0] (grownCap w (n+1) c 174 - (n+1))) 174)).drew.setCells w.heap.size (i*3) vs).drew).setCells w.heap.size ((i+1)*3) (cs.drop (i*3)):=by
 have u30:=Tryz.underlying24;have u3:=Tryz.underlying3;obtain ⟨i0,hi0,hz0,hzs,hzb⟩:∃ i0:TypeInfo,Tryz.prog.info? 174=some i0∧i0.zero=some (.agg #[.string ⟨#[]⟩,.string ⟨#[]⟩,.int .u8 0])∧i0.size=3∧i0.bytes=40:=⟨_,rfl,rfl,rfl,rfl⟩
 have hz1:¬ ((1:Int)=0):=by omega
 have hz2:¬ ((i:Int)=(n:Int)):=by omega
 have hz3:(c:Int)<(n:Int)+1:=by omega
 have hsz:(Tryz.prog.info? 174).map (·.size)=some 3:=by rw [hi0];simp [hzs]
 have hbw:b<w.heap.size:=block_lt_of_cell (hcs 0 _ (zA4 (by omega)));have hvw:vb<w.heap.size:=block_lt_of_cell (hvs 0 _ (zA4 (by omega)));have hkk:(n:Int)+1 - (i:Int)=((n+1 - i:Nat):Int):=by omega
 have hik:i+(n+1 - i)=n+1:=by omega
 have hold:(Builtin.firstCells i0.size i (.slice (some ⟨b,off,none⟩) i c)).run Tryz.prog w.drew = .ok (cs.take (i*3)).toArray w.drew:=by
  rw [hzs];exact run_firstCells_some w.drew 3 i ⟨b,off,none⟩ i c (cs.take (i*3)) (by rw [zA9];omega) (fun j v hj=>by
   rw [Addr.add_lit];rw [zC7] at hj;split at hj
   ·exact hcs j v hj
   ·cases hj)
 have hrz:∀ ty,(Builtin.append_ #[24,3] ty #[.slice (some ⟨b,off,none⟩) i c,.int .i64 ((n:Int)+1 - (i:Int))]).run Tryz.prog w =
  .ok (.slice (some ⟨w.heap.size,0,none⟩) (n+1) (grownCap w (n+1) c 174)) (w.drew.alloc (.cells ((cs.take (i*3)).toArray ++ Builtin.zeroCells #[.string ⟨#[]⟩,.string ⟨#[]⟩,.int .u8 0] (n+1 - i) ++ Builtin.zeroCells #[.string ⟨#[]⟩,.string ⟨#[]⟩,.int .u8 0] (grownCap w (n+1) c 174 - (n+1))) 174)):=fun ty=>by
  have h:=Lib.run_append_grow_zeros w 24 3 ty 174 i0 _ .i64 .i64 u30 u3 hi0 hz0 (some ⟨b,off,none⟩) i c (cs.take (i*3)) hold (n+1 - i) (by omega) (by omega) (by omega) (by omega) (by rw [hzb];omega) (by rw [hzb,hik];exact growslice_fits hroom hbig);rw [hik] at h;rw [hkk];exact h
 have mixed:=follows;obtain ⟨G,hG⟩:∃ G,G=grownCap w (n+1) c 174:=⟨_,rfl⟩
 obtain ⟨ROW,hROW⟩:∃ ROW:Array Value,ROW=(cs.take (i*3)).toArray ++ Builtin.zeroCells #[.string ⟨#[]⟩,.string ⟨#[]⟩,.int .u8 0] (n+1 - i) ++ Builtin.zeroCells #[.string ⟨#[]⟩,.string ⟨#[]⟩,.int .u8 0] (G - (n+1)):=⟨_,rfl⟩
 rw [← hG] at hrz ⊢;rw [← hROW] at hrz ⊢;have hRl:3*(n+1)≤ROW.size:=by
  rw [hROW];simp [Builtin.zeroCells]
  omega
 obtain ⟨W1,hW1⟩:∃ W1,W1=w.drew.alloc (.cells ROW 174):=⟨_,rfl⟩
 rw [← hW1] at hrz;have hN:∀ j,j<3*(n+1)→(W1.cell? ⟨w.heap.size,j,none⟩).isSome=true:=fun j hj=>by
  rw [hW1,World.cell?_alloc_at (w:=w.drew) ROW _ w.heap.size j rfl,zE2 (by omega)];rfl
 have hNf:∀ j,W1.frozen? ⟨w.heap.size,j,none⟩=false:=fun j=>by rw [hW1];exact World.frozen?_alloc_at (w:=w.drew) ROW _ w.heap.size j rfl
 have hOb:∀ j v,w.cell? ⟨b,j,none⟩=some v→W1.cell? ⟨b,j,none⟩=some v:=fun j v h=>by rw [hW1,World.cell?_alloc_past (w:=w.drew) _ b j hbw];exact h
 have hOv:∀ j v,w.cell? ⟨vb,j,none⟩=some v→W1.cell? ⟨vb,j,none⟩=some v:=fun j v h=>by rw [hW1,World.cell?_alloc_past (w:=w.drew) _ vb j hvw];exact h
 have hcpA:∀ (W:World),(∀ x,W.cell? x=W1.cell? x)→(∀ x,W.frozen? x=W1.frozen? x)→∀ ty dc,(Builtin.copy_ #[24,24] ty #[.slice (some ⟨w.heap.size,i*3,none⟩) (n+1 - i) dc,.slice (some ⟨vb,voff,none⟩) 1 vc]).run Tryz.prog W = .ok (goInt (Nat.min 1 (n+1 - i))) (W.setCells w.heap.size (i*3) vs):=fun W hWc hWf ty dc =>
  QH W _ _ ty 174 3 w.heap.size (i*3) (n+1 - i) dc ⟨vb,voff,none⟩ 1 vc vs u30 hsz (by rw [hvl];simp only [Nat.min_def];split<;>omega)
   (fun j v hj=>by rw [Addr.add_lit,hWc];exact hOv _ v (hvs j v hj))
   (fun j hj=>by rw [hWc];exact hN _ (by omega)) (fun j hj=>by rw [hWf];exact hNf _) h1v
 have hGn:n+1≤G:=by rw [hG];exact grownCap_ge w _ _ _
 have hG63:G≤9223372036854775807:=by
  have:=grownCap_le_maxLen w (n+1) c 174 (by unfold maxLen;omega);rw [← hG] at this;unfold maxLen at this;omega
 have hGi:¬ (G=i):=by omega
 have hGim:¬ (G=i+1):=by omega
 have hci:¬ (c=i):=by omega
 have hbN:b≠w.heap.size:=by omega
 have hdl:(cs.drop (i*3)).length=(n - i)*3:=by rw [zB4,hcl];omega
 have hcpB:∀ (W:World),(∀ x,W.cell? x=(W1.setCells w.heap.size (i*3) vs).cell? x)→(∀ x,W.frozen? x=(W1.setCells w.heap.size (i*3) vs).frozen? x)→∀ ty dc sc,(Builtin.copy_ #[24,24] ty #[.slice (some ⟨w.heap.size,(i+1)*3,none⟩) (n+1 - (i+1)) dc,.slice (some ⟨b,off+i*3,none⟩) (n - i) sc]).run Tryz.prog W = .ok (goInt (Nat.min (n - i) (n+1 - (i+1)))) (W.setCells w.heap.size ((i+1)*3) (cs.drop (i*3))):=fun W hWc hWf ty dc sc =>
  QH W _ _ ty 174 3 w.heap.size ((i+1)*3) (n+1 - (i+1)) dc ⟨b,off+i*3,none⟩ (n - i) sc (cs.drop (i*3)) u30 hsz (by rw [hdl];simp only [Nat.min_def];split<;>omega)
   (fun j v hj=>by
    rw [Addr.add_lit,hWc,World.cell?_setCells_out _ _ _ _ _ (fun h _=>absurd h hbN),zF7];exact hOb _ v (hcs (i*3+j) v (by rwa [zC3] at hj)))
   (fun j hj=>by rw [hWc];exact isSome_setCells _ _ _ _ (fun t ht=>hN _ (by omega)) _ (hN _ (by omega)))
   (fun j hj=>by rw [hWf,World.frozen?_setCells];exact hNf _) (fun v hv=>h1c v (List.mem_of_mem_drop hv))
 subst hW1;have hE1:∀ x,((w.alloc (.cells ROW 174)).drew).cell? x=(w.drew.alloc (.cells ROW 174)).cell? x:=fun x=>rfl;have hE2:∀ x,((w.alloc (.cells ROW 174)).drew).frozen? x=(w.drew.alloc (.cells ROW 174)).frozen? x:=fun x=>rfl;have hF1:∀ x,(((w.alloc (.cells ROW 174)).drew.setCells w.heap.size (i*3) vs).drew).cell? x=((w.drew.alloc (.cells ROW 174)).setCells w.heap.size (i*3) vs).cell? x:=fun x=>rfl;have hF2:∀ x,(((w.alloc (.cells ROW 174)).drew.setCells w.heap.size (i*3) vs).drew).frozen? x=((w.drew.alloc (.cells ROW 174)).setCells w.heap.size (i*3) vs).frozen? x:=fun x=>rfl;have hw1:IntKind.i64.wrap ((i:Int)+1)=(i:Int)+1:=by rw [IntKind.wrap_i64];omega
 have hb1:(0:Int)≤(i:Int)+1:=by omega
 have hin:i≤n:=by omega
 have htn:((i:Int)+1).toNat=i+1:=by omega
 have hb3:(i:Int)≤(n:Int):=by omega
 clear hkk hik hold hROW hG hRl hi0 hz0 hzs hzb hsz;go_enter Tryz.func300,Tryz.ntmps300
 go_wp2_with (first
  | (at_builtin;refine Lib.wpList_append_run _ rfl _ _ _ _ rfl _ _ rfl rfl _ _ (hrz _) ?_)
  | (at_builtin;refine Ja _ rfl _ _ 24 24 rfl _ _ rfl rfl (hcpA _ hE1 hE2 _ _) ?_)
  | (at_builtin;refine Ja _ rfl _ _ 24 24 rfl _ _ rfl rfl (hcpB _ (fun _=>rfl) (fun _=>rfl) _ _ _) ?_))
 go_region_law_o (refine Wx rfl _ _ 24 24 rfl (.slice (some ⟨w.heap.size,(i+1)*3,none⟩) (n+1 - (i+1)) (G - (i+1))) (.slice (some ⟨b,off+i*3,none⟩) (n - i) (c - i)) (by simp [Act.eval,Act.put]) (by simp [Act.eval,Act.put]) (hcpB _ hF1 hF2 3 (G - (i+1)) (c - i)) ?_)
 go_wp2
 go_ret
 exact ⟨rfl,rfl⟩
end Go.Proofs.Xx
