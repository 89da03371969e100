/-
  Strings that are cut and split;lines,words and numbers of a text.
-/
import Derived.Test.YtgehpahpnidimaaGreatDoorM12
import Derived.Test.YtgehpahpnidimaaGreatDoorM9
import Derived.Test.YtgehpahpnidimaaGreatDoorM8
set_option linter.unusedSimpArgs false
set_option linter.unusedVariables false
set_option linter.unusedSectionVars false
set_option maxRecDepth 100000
set_option maxHeartbeats 4000000
namespace Go.Proofs.Xx
open Go Go.Proofs
section
variable {P:Program} {X:Extern} {sz:Nat} {L:Ks} {h h0:AH} {rs:List Rs} {ops:Array Oper} {os:List Oper} {o:Oper} {R:Ks→AH→Prop}
theorem tsl {L':Ks} {x:Operand} {lo hi:Option Operand} {vlo vhi:Option Value} {ty:TypeId} {l:List UInt8} {a b:Nat} (w:KO P X sz ops os L' h R) (ho:o.op = .slice ty x lo hi none:=by exact rfl) (hg:qo ops L.tree o.guard=some true:=by exact rfl) (hx:kA L x=some (str l):=by exact rfl)
 (hlo:zH L.tree lo=some vlo:=by exact rfl) (hhi:zH L.tree hi=some vhi:=by exact rfl) (hu:P.underlying ty=some .string:=by exact rfl) (h1:qR vlo 0=some a:=by exact rfl) (h2:qR vhi l.length=some b:=by exact rfl) (hab:a≤b∧b≤l.length:=by first|omega|grind)
 (hp:qE sz L o.dst (str ((l.drop a).take (b - a)))=some L':=by exact rfl):KO P X sz ops (o :: os) L h R:=by
 refine qW hg ?_ hp w;have t1:Nat.ble a b=true:=zB3 hab.1;have t2:Nat.ble b l.length=true:=zB3 hab.2;rw [ho];have e:(⟨l.toArray⟩:ByteArray).data.toList=l:=rfl;simp only [zD,qB hx,hlo,hhi,show zH L.tree none=some none from rfl,zB,zh,str,hu,h1,h2,e,t1,t2,zF9,qH]
end
section
variable {P:Program} {X:Extern} {sz:Nat} {L:Ks} {h h0:AH} {rs:List Rs} {ops:Array Oper} {os:List Oper} {o:Oper} {R:Ks→AH→Prop}
theorem thA {α:Type} {x hi:Operand} {ty e:TypeId} {v vh:Value} {z:Nat} {enc:α→List Value} {l:List α} {f:Rs→List Rs} {dd:List Rs} {d:Tmp} (b:Nat) (S:Hs h0 h rs) (ho:o.op = .slice ty x none (some hi) none) (hx:kA L x=some v) [i:HasS rs v α e z enc l f dd]
 (w:KO P X sz ops os (L.put d v) h R) (hg:qo ops L.tree o.guard=some true:=by exact rfl) (hhi:kA L hi=some vh:=by exact rfl) (hbo:qR (some vh) l.length=some b:=by exact rfl) (hb:b=l.length:=by first|omega|grind)
 (hu:Qx P ty=some z:=by exact rfl) (hdst:o.dst=some d:=by exact rfl) (hds:Nat.blt d sz=true:=by exact rfl):KO P X sz ops (o :: os) L h R:=by
 obtain ⟨fp,k1,k2,-⟩:=(i.ut (.sl v e z enc l)).ok (h':=h) S.ext.next (zA3 _) S.sep
 have hue:∃ e',P.underlying ty=some (.slice e')∧zq P e'=some z:=by
  unfold Qx at hu;split at hu
  ·exact ⟨_,by assumption,hu⟩
  ·cases hu
 obtain ⟨e',hu1,hu2⟩:=hue;have hhi':zI L.tree hi=some vh:=qB hhi;have h0b:qR none 0=some 0:=rfl;have q1:zh P ty v none (some vh) none h=some v:=by
  subst hb;rcases k1 with ⟨rfl,rfl⟩|⟨bb,o',cc,slk,cap,g1,g2,g3,g4,g5,g6⟩
  ·have:qR (some vh) 0=some 0:=hbo;simp only [zh,hu1,hu2,this,h0b]
  ·subst g1;have t1:Nat.ble 0 l.length=true:=by simp
   have t2:Nat.ble l.length cap=true:=zB3 g5.1;cases hk:(slk.isNone && Nat.beq 0 cap) with
   | false=>simp only [zh,hu1,hu2,g2,h0b,hbo,t1,t2,hk,zF9,Nat.zero_mul,Nat.add_zero];rfl
   | true=>simp only [zh,hu1,hu2,g2,h0b,hbo,t1,t2,hk,zF9];rfl
 refine qW (v:=v) (h':=h) hg ?_ (by simp only [qE,hdst,hds]) w;rw [ho];simp only [zD,qB hx,zH,hhi',q1,qH,zB]
end
theorem index_one (c:UInt8):∀ s:List UInt8,Lib.index s [c]=VV c s
 | []=>rfl
 | b :: l=>by
  unfold Lib.index VV Ql;by_cases h:b=c
  ·subst h;simp [List.isPrefixOf]
  ·have h2:([c]:List UInt8).isPrefixOf (b :: l)=false:=by simp [List.isPrefixOf];exact fun q=>h q.symm
   rw [if_neg (by rw [h2];decide),if_neg h,index_one c l];unfold VV;cases hq:Ql c l with
   | none=>simp
   | some m =>
    have:((m:Int) == -1)=false:=by rw [beq_eq_false_iff_ne];omega
    simp [this]
variable [Flag]
theorem qdb (c:UInt8):((c.toNat:Int).toNat).toUInt8=c:=by simp
theorem qdT {h0:AH} (s:List UInt8) (c:UInt8):Fn Tryz.prog Xh 67 [str s,.int .u8 (c.toNat:Int)] h0 (fun v h'=>v = .int .i64 (xJ c s:Nat)∧h'=h0) :=
 Zn (v:=.int .i64 (xJ ((c.toNat:Int).toNat).toUInt8 s:Nat)) rfl ⟨by rw [qdb],rfl⟩
theorem VC {h0:AH} (s sep:List UInt8) (hs:s.length<4294967281):Fn Tryz.prog Xh 124 [str s,str sep] h0 (fun v h'=>v = .int .i64 (Lib.index s sep)∧h'=h0) :=
 Zn (v:=.int .i64 (Lib.index s sep)) (by show (if s.length<4294967281 then _ else _)=_;rw [if_pos hs]) ⟨rfl,rfl⟩
theorem pR {h0:AH} (s sep:List UInt8) (hs:s.length<4294967281):Fn Tryz.prog Xh 68 [str s,str sep] h0 (fun v h'=>v = .int .i64 (Lib.index s sep)∧h'=h0):=by
 refine qM (by first|rfl) Tryz.func68 rfl rfl ?_;all_goals (repeat' (first|refine qg ?_|(refine qc 0 ?_;refine mv ?_;refine qf ?_)|(refine qc 1 ?_;refine mv ?_;refine mv ?_)))
 (refine qx rfl rfl rfl rfl rfl ((VC s sep hs).mono ?_);rintro _ _ ⟨rfl,rfl⟩)<;>(refine mv ?_;refine qf ?_)
 all_goals (repeat' (fail))
 refine qw ⟨_,rfl,?_⟩;exact ⟨rfl,rfl⟩
theorem qaB {h0:AH} (s sep:List UInt8) (hl:sep.length=1) (hs:s.length≤1000000):Fn Tryz.prog Xh 68 [str s,str sep] h0 (fun v h'=>v = .int .i64 (VV (sep.getD 0 0) s)∧h'=h0) :=
 (pR s sep (by omega)).mono fun v h' q=>by
  match sep,hl with
  | [c],_=>exact ⟨q.1.trans (by rw [index_one];rfl),q.2⟩
theorem YY {h0:AH} (s sep:List UInt8) (hl:sep.length=1):Fn Tryz.prog Xh 19 [str s,str sep] h0 (fun v h'=>v = .int .i64 (xJ (sep.getD 0 0) s:Nat)∧h'=h0):=by
 refine qM (by first|rfl) Tryz.func19 rfl rfl ?_;all_goals (repeat' (first|refine qg ?_|refine qi rfl ?_|refine qj ?_|(refine qc 0 ?_;refine mv ?_;refine qf ?_)|(refine qc 1 ?_;refine mv ?_;refine tl ?_;(refine cF ?_)<;>(refine qf ?_))|(refine qc 3 ?_;refine mv ?_;refine tl ?_;(refine cT ?_)<;>(refine qf ?_))|(refine qc 4 ?_;refine mv ?_;refine mv ?_;refine ti ?_)))
 all_goals (try (exfalso;omega))
 (refine qx rfl rfl rfl rfl rfl ((qdT s (sep.getD 0 0)).mono ?_);rintro _ _ ⟨rfl,rfl⟩)<;>(refine mv ?_;refine qf ?_)
 all_goals (repeat' (fail))
 refine qw ⟨_,rfl,?_⟩;exact ⟨rfl,rfl⟩
theorem qaY {c:UInt8} {s:List UInt8} (h:Ql c s=none):VV c s = -1:=by unfold VV;rw [h]
theorem ve {c:UInt8} {s:List UInt8} {m:Nat} (h:Ql c s=some m):VV c s=m:=by unfold VV;rw [h]
theorem Xv {α:Type} {l:List α} {i:Nat} (h:i<l.length) (x:α):(l.set i x).take (i+1)=l.take i ++ [x]:=by
 rw [List.take_add_one,List.getElem?_set_self h,List.take_set_of_le (zA3 _)];rfl
theorem KU {h0:AH} (w:WfH h0) (s sep:List UInt8) (hl:sep.length=1) (hs:s.length≤1000000):Fn Tryz.prog Xh 178 [str s,str sep,.int .i64 0,.int .i64 (-1)] h0 (fun v h'=>Hs h0 h' [.sl v 9 1 eS (zQ (sep.getD 0 0) s)]):=by
 have S:=Hs.start w;have hne:sep≠[]:=fun q=>by rw [q] at hl;cases hl
 generalize hc0:sep.getD 0 0=c
 have hlen:=Qp c s;have hcs:s.countP (· == c)≤s.length:=List.countP_le_length;obtain ⟨n,hn⟩:∃ n,(zQ c s).length=n:=⟨_,rfl⟩
 refine qM (by first|rfl) Tryz.func178 rfl rfl ?_;all_goals (repeat' (first|refine qg ?_|refine qi rfl ?_|refine qj ?_|(refine qc 0 ?_;refine mv ?_;refine qf ?_)|(refine qc 1 ?_;refine mv ?_;(refine cF ?_)<;>(refine qf ?_))|(refine qc 3 ?_;refine mv ?_;(refine tS ?_ ?_<;>intro hc)<;>(refine qf ?_))|(refine qc 4 ?_;refine mv ?_;refine mv ?_)|(refine qc 5 ?_;refine mv ?_;(refine cT ?_)<;>(refine qf ?_))|(refine qc 6 ?_;refine mv ?_;refine mv ?_)))
 ·exact absurd hc hne
 have hcb:xJ (sep.getD 0 0) s=s.countP (· == c):=by rw [hc0];rfl
 (refine qx rfl rfl rfl rfl rfl ((YY s sep hl).mono ?_);rintro _ h0 ⟨rfl,rfl⟩)<;>((refine ad ?_);refine mv ?_;refine qf ?_)
 rw [hc0];rw [hc0] at hcb;all_goals (repeat' (first|refine qg ?_|(refine qc 7 ?_;refine mv ?_;refine mv ?_;refine tl ?_;refine ad ?_;refine mn ?_;refine mv ?_;refine qf ?_)|(refine qc 8 ?_;refine mv ?_)))
 have e1:min ((xJ c s:Nat)+1:Int) ((s.length:Int)+1)=n:=by omega
 simp only [e1];refine Y5 (z:=1) (by_:=16) (enc:=eS) (y0:=[]) S rfl rfl rfl rfl rfl rfl rfl rfl rfl (by intro _;rfl) (by first|omega) rfl rfl ?_;clear S;intro v h S;refine mv ?_;refine qf ?_;all_goals (repeat' (first|refine qg ?_|refine qp ?_|(refine qc 9 ?_;refine mv ?_;refine sb ?_;refine mv ?_;refine qf ?_)|(refine qc 10 ?_;refine mv ?_;refine qf ?_)))
 simp only [zA0] at S;refine qL (σ:=Nat×List UInt8×List (List UInt8)) (fun (i,t,l) h'=>Hs h0 h' [.sl v 9 1 eS l]∧l.length=n∧i+(zQ c t).length=n∧zQ c s=l.take i ++ zQ c t∧t.length≤1000000) (fun (i,t,l)=>n - i) (fun (i,t,l)=>[(0,str t),(1,str sep),(2,.int .i64 0),(3,.int .i64 ((n:Int) - 1)),(9,v),(10,.int .i64 i)]) (0,s,List.replicate n []) qy ?_ ?_
 ·exact ⟨S,by simp,by omega,by simp,hs⟩
 clear S;rintro ⟨i,t,l⟩ h ⟨S,h1,h2,h3,h4⟩;have hp:0<(zQ c t).length:=List.length_pos_iff.2 (jR c t);all_goals (repeat' (first|refine qg ?_|refine qi rfl ?_|refine qj ?_|refine qA ?_|refine qp ?_|(refine qc 11 ?_;refine mv ?_;refine mv ?_;(first|(refine cS ?_ ?_<;>intro hc))<;>(refine qf ?_))|(refine qc 12 ?_;refine mv ?_;refine mv ?_)|(refine qc 17 ?_;(iterate 3 refine mv ?_);refine jI S rfl rfl ?_;(first|(refine sE2 S rfl rfl ?_;clear S;intro h S));refine qf ?_)|(refine qc 18 ?_;refine mv ?_;refine mv ?_;refine ad ?_)))
 ·have hi:i+1<n:=by omega
  (refine qx rfl rfl rfl rfl rfl ((qaB t sep hl h4).mono ?_);rintro _ h ⟨rfl,rfl⟩)<;>(refine mv ?_;refine qf ?_)
  rw [hc0];rcases hf:Ql c t with _|m
  ·exfalso
   rw [JS (XP.1 hf)] at h2;simp at h2;omega
  ·rw [ve hf];obtain ⟨m1,m2,m3⟩:=Zk hf;have m4:=gK hf;all_goals (repeat' (first|refine qg ?_|refine qi rfl ?_|refine qj ?_|(refine qc 13 ?_;refine mv ?_;(refine cF ?_)<;>(refine qf ?_))|(refine qc 14 ?_;(iterate 5 refine mv ?_);refine ad ?_;refine tsl ?_;refine jI S rfl rfl ?_;(first|(refine sE2 S rfl rfl ?_;clear S;intro h S));refine qf ?_)|(refine qc 15 ?_;(iterate 3 refine mv ?_);refine tl ?_;refine ad ?_;refine tsl ?_;refine mv ?_;refine qf ?_)|(refine qc 16 ?_;refine mv ?_;refine ad ?_;refine mv ?_;refine qf ?_)))
   have e1:(t.drop (m+sep.length)).take (t.length - (m+sep.length))=t.drop (m+1):=by rw [hl,zF8 (by simp)]
   have e2:(t.drop 0).take (m+0 - 0)=t.take m:=by simp
   rw [e1,e2];rw [e2] at S;refine ⟨(i+1,t.drop (m+1),l.set i (t.take m)),?_,?_,qy⟩
   ·show n - (i+1)<n - i;omega
   ·rw [m4] at h2 h3;simp only [zC4] at h2;(try simp only [zA0] at S);refine ⟨by simpa using S,by simpa using h1,by omega,?_,by simp;omega⟩;rw [h3,Xv (by omega)];simp
 ·have hi:i+1=n:=by omega
  obtain ⟨u,hu⟩:∃ u,zQ c t=[u]:=by
   match hq:zQ c t with
   | []=>exact absurd hq (jR c t)
   | [u]=>exact ⟨u,rfl⟩
   | u :: u2 :: r=>rw [hq] at h2;simp at h2;omega
  obtain ⟨rfl,-⟩:=qdm hu;all_goals (repeat' (fail))
  (try simp only [zA0] at S)
  have e:(l.set i t)=zQ c s:=by
   rw [h3,hu,← Xv (by omega),zF8 (by simp;omega)]
  rw [e] at S;refine thA (i+1) S rfl rfl ?_;refine mv ?_;refine qf ?_;all_goals (repeat' (fail))
  refine qw ⟨_,rfl,?_⟩;exact S
theorem split_ok {h0:AH} (w:WfH h0) (s sep:List UInt8) (hl:sep.length=1) (hs:s.length≤1000000):Fn Tryz.prog Xh 120 [str s,str sep] h0 (fun v h'=>Hs h0 h' [.sl v 9 1 eS (zQ (sep.getD 0 0) s)]):=by
 have S:=Hs.start w;refine qM (by first|rfl) Tryz.func120 rfl rfl ?_;all_goals (repeat' (first|refine qg ?_|(refine qc 0 ?_;refine mv ?_;refine qf ?_)|(refine qc 1 ?_;refine mv ?_;refine mv ?_)))
 (refine qx rfl rfl rfl rfl rfl ((KU S.wf s sep hl hs).mono ?_);rintro v h x)<;>(replace S:=S.join1 x;clear x;refine mv ?_;refine qf ?_)
 all_goals (repeat' (fail))
 refine qw ⟨_,rfl,?_⟩;exact S
def cutV (c:UInt8) (s:List UInt8):Value:=match Ql c s with
 | some m=>.tuple #[str (s.take m),str (s.drop (m+1)),.bool true]
 | none=>.tuple #[str s,str [],.bool false]
theorem gU {h0:AH} (s sep:List UInt8) (hl:sep.length=1) (hs:s.length≤1000000):Fn Tryz.prog Xh 124 [str s,str sep] h0 (fun v h'=>v = .int .i64 (VV (sep.getD 0 0) s)∧h'=h0) :=
 (VC s sep (by omega)).mono fun v h' q=>by
  match sep,hl with
  | [c],_=>exact ⟨q.1.trans (by rw [index_one];rfl),q.2⟩
theorem gW {h0:AH} (s sep:List UInt8) (hl:sep.length=1) (hs:s.length≤1000000):Fn Tryz.prog Xh 119 [str s,str sep] h0 (fun v h'=>v=cutV (sep.getD 0 0) s∧h'=h0):=by
 refine qM (by first|rfl) Tryz.func119 rfl rfl ?_;all_goals (repeat' (first|refine qg ?_|(refine qc 0 ?_;(iterate 3 refine mv ?_);refine qf ?_)|(refine qc 1 ?_;refine mv ?_;refine mv ?_)))
 (refine qx rfl rfl rfl rfl rfl ((gU s sep hl hs).mono ?_);rintro _ _ ⟨rfl,rfl⟩)<;>(refine mv ?_;refine qf ?_)
 rcases hf:Ql (sep.getD 0 0) s with _|m
 ·rw [qaY hf,show cutV (sep.getD 0 0) s = .tuple #[str s,str [],.bool false] by unfold cutV;rw [hf]];all_goals (repeat' (first|refine qg ?_|refine qi rfl ?_|refine qj ?_|(refine qc 2 ?_;refine mv ?_;(refine cF ?_)<;>(refine qf ?_))|(refine qc 4 ?_;(iterate 4 refine mv ?_);refine qf ?_)))
  refine qw ⟨_,rfl,?_⟩;exact ⟨rfl,rfl⟩
 ·rw [ve hf,show cutV (sep.getD 0 0) s = .tuple #[str (s.take m),str (s.drop (m+1)),.bool true] by unfold cutV;rw [hf]];have hm:=(Zk hf).1;all_goals (repeat' (first|refine qg ?_|refine qi rfl ?_|(refine qc 2 ?_;refine mv ?_;(refine cT ?_)<;>(refine qf ?_))|(refine zi 3 ?_;refine mv ?_;refine mv ?_;refine tsl ?_;(iterate 3 refine mv ?_);refine tl ?_;refine ad ?_;refine tsl ?_;(iterate 3 refine mv ?_);refine qf ?_)))
  refine qw ⟨_,rfl,?_⟩;refine ⟨?_,rfl⟩;have e:(s.drop (m+1)).take (s.length - (m+1))=s.drop (m+1):=zF8 (by simp);simp [zL,hl,e]
theorem P7 {h0:AH} (s sep:List UInt8) (hl:sep.length=1) (hs:s.length≤1000000):Fn Tryz.prog Xh 62 [str s,str sep] h0 (fun v h'=>v=cutV (sep.getD 0 0) s∧h'=h0):=by
 refine qM (by first|rfl) Tryz.func62 rfl rfl ?_;all_goals (repeat' (first|refine qg ?_|(refine qc 0 ?_;(iterate 3 refine mv ?_);refine qf ?_)|(refine qc 1 ?_;refine mv ?_;refine mv ?_)))
 rcases hf:Ql (sep.getD 0 0) s with _|m
 ·have e:cutV (sep.getD 0 0) s = .tuple #[str s,str [],.bool false]:=by unfold cutV;rw [hf]
  (refine qx rfl rfl rfl rfl rfl ((gW s sep hl hs).mono ?_);rintro _ _ ⟨hv,rfl⟩)<;>(rw [e] at hv;subst hv;refine vl ?_;refine vl ?_;refine vl ?_;(iterate 3 refine mv ?_);refine qf ?_)
  rw [e];all_goals (repeat' (fail))
  refine qw ⟨_,rfl,?_⟩;exact ⟨rfl,rfl⟩
 ·have e:cutV (sep.getD 0 0) s = .tuple #[str (s.take m),str (s.drop (m+1)),.bool true]:=by unfold cutV;rw [hf]
  (refine qx rfl rfl rfl rfl rfl ((gW s sep hl hs).mono ?_);rintro _ _ ⟨hv,rfl⟩)<;>(rw [e] at hv;subst hv;refine vl ?_;refine vl ?_;refine vl ?_;(iterate 3 refine mv ?_);refine qf ?_)
  rw [e];all_goals (repeat' (fail))
  refine qw ⟨_,rfl,?_⟩;exact ⟨rfl,rfl⟩
theorem qdI {h0:AH} (w:WfH h0) (v:Value) (l:List (List UInt8)) (r:zo h0 v 1 eS l) (hl:l.length≤1000000) (n:List UInt8):Fn Tryz.prog Xh 179 [v,str n] h0 (fun u h'=>((u = .int .i64 (-1)∧¬ n∈l)∨∃ i:Nat,u = .int .i64 i∧i≤1000000∧n∈l)∧Hs h0 h' []):=by
 have S:=Hs.start w;refine qM (by first|rfl) Tryz.func179 rfl rfl ?_;all_goals (repeat' (first|refine qg ?_|refine qp ?_|(refine qc 0 ?_;refine mv ?_;refine qf ?_)|(refine qc 1 ?_;refine mv ?_;refine jZ S ?_;refine mv ?_;refine qf ?_)))
 refine qL (σ:=Nat) (fun i h'=>Hs h0 h' []∧i≤l.length∧∀ j,j<i→l.getD j default≠n) (fun i=>l.length - i) (fun i=>[(0,v),(1,str n),(7,.int .i64 l.length),(8,.int .i64 i)]) 0 qy ?_ ?_
 ·exact ⟨S,zB0 _,fun j hj=>absurd hj (zB7 _)⟩
 clear S;rintro i h ⟨S,g1,g2⟩;all_goals (repeat' (first|refine qg ?_|refine qi rfl ?_|refine qj ?_|refine qA ?_|refine qp ?_|(refine qc 2 ?_;(first|(refine cS ?_ ?_<;>intro hc))<;>(refine qf ?_))|(refine qc 3 ?_;refine mv ?_;refine mv ?_;refine qf ?_)|(refine qc 4 ?_;(iterate 3 refine mv ?_);refine QE S ?_;refine Qk S ?_;(refine tS ?_ ?_<;>intro hc)<;>(refine qf ?_))|(refine qc 5 ?_;refine mv ?_;refine mv ?_;refine qf ?_)|(refine qc 6 ?_;refine ad ?_;refine mv ?_;refine qf ?_)|(refine qc 7 ?_;refine mv ?_;refine qf ?_)))
 all_goals (try simp only [zA0] at *)
 ·refine qw ⟨_,rfl,?_⟩;have hm:=qJ (show i<l.length by omega);exact ⟨.inr ⟨i,rfl,by omega,by rw [hc];exact hm⟩,S⟩
 ·refine ⟨i+1,?_,?_,qy⟩
  ·show l.length - (i+1)<l.length - i;omega
  ·exact ⟨S,by omega,Zf g2 fun q=>hc q.symm⟩
 ·refine qw ⟨_,rfl,?_⟩;refine ⟨.inl ⟨rfl,fun q=>?_⟩,S⟩;obtain ⟨j,h1,h2⟩:=qI.1 q;exact g2 j (by omega) h2
theorem qdS {h0:AH} (w:WfH h0) (v:Value) (l:List (List UInt8)) (r:zo h0 v 1 eS l) (hl:l.length≤1000000) (n:List UInt8):Fn Tryz.prog Xh 121 [v,str n] h0 (fun u h'=>zy u (n∈l)∧Hs h0 h' []):=by
 have S:=Hs.start w;refine qM (by first|rfl) Tryz.func121 rfl rfl ?_;all_goals (repeat' (first|refine qg ?_|(refine qc 0 ?_;refine mv ?_;refine qf ?_)|(refine qc 1 ?_;refine mv ?_;refine mv ?_)))
 (refine qx rfl rfl rfl rfl rfl ((qdI S.wf v l (r.ext w S.ext) hl n).mono ?_);rintro _ h ⟨⟨rfl,z⟩|⟨i,rfl,z1,z⟩,x⟩)<;>(replace S:=S.join0 x;clear x;(first|refine cT ?_|refine cF ?_)<;>(refine mv ?_;refine qf ?_))
 ·all_goals (repeat' (fail))
  refine qw ⟨_,rfl,?_⟩;exact ⟨.inr ⟨rfl,z⟩,S⟩
 ·skip
  all_goals (repeat' (fail))
  refine qw ⟨_,rfl,?_⟩;exact ⟨.inl ⟨rfl,z⟩,S⟩
def qg1 (s:List UInt8) (k:Int) (b:Bool):Prop:=(b=true∧JH s∧k=zJ s)∨(b=false∧¬ JH s)
theorem qfw {x c:UInt8} (h:(x.toNat:Int)=c.toNat):x=c:=UInt8.toNat.inj (by omega)
theorem qc9 {s:List UInt8} {i:Nat} (h:∀ j,j<i→ZI (s.getD j default)) (hi:i≤9∧i≤s.length):zJ (s.take i)<1000000000:=by
 have key:∀ k,k≤i→zJ (s.take k)<10 ^ k:=fun k hk=>by
  induction k with
  | zero=>simp [zJ]
  | succ k ih =>
   have:=ih (by omega);have d:=h k (by omega);unfold ZI at d;rw [YO (by omega),Nat.pow_succ];omega
 have h1:=key i (zA3 _);have h2:10 ^ i≤10 ^ 9:=Nat.pow_le_pow_right (by decide) hi.1;omega
theorem gJ {c:UInt8} {s:List UInt8} {i:Nat} (h:i<s.length):zQ c (s.drop i)=if s.getD i 0=c then [] :: zQ c (s.drop (i+1)) else Yn [s.getD i 0] (zQ c (s.drop (i+1))):=by
 rw [zG7 h];have e:s.getD i 0=s[i]:=by simp [zA2,h]
 rw [e];rfl
theorem qdn {c:UInt8} {s:List UInt8}:zQ c (s.drop s.length)=[[]]:=by rw [List.drop_length];rfl
theorem yT {a w:List UInt8} {r:List (List UInt8)}:Yn a (w :: r)=(a ++ w) :: r:=rfl
def PcsL (c:UInt8) (s:List UInt8) (st i:Nat) (out:List (List UInt8)):Prop:=st≤i∧i≤s.length∧zQ c s=out ++ Yn ((s.drop st).take (i - st)) (zQ c (s.drop i))∧out.length≤i
theorem take_snoc {s:List UInt8} {st i:Nat} (h1:st≤i) (h2:i<s.length):(s.drop st).take (i+1 - st)=(s.drop st).take (i - st) ++ [s.getD i 0]:=by
 rw [show i+1 - st=(i - st)+1 by omega,List.take_add_one,zC3,show st+(i - st)=i by omega,zA4 h2];simp [zA2,h2]
theorem PcsL.zero (c:UInt8) (s:List UInt8):PcsL c s 0 0 []:=⟨zA3 _,zB0 _,by rw [zC0,zG6,List.take_zero,Kv (jR _ _),List.drop_zero],zA3 _⟩
theorem PcsL.no {c:UInt8} {s:List UInt8} {st i:Nat} {out:List (List UInt8)} (p:PcsL c s st i out) (hi:i<s.length) (hx:¬ s.getD i 0=c):PcsL c s st (i+1) out:=by
 obtain ⟨p1,p2,p3,p4⟩:=p;rw [gJ hi,if_neg hx,qaG (jR _ _),← take_snoc p1 hi] at p3;exact ⟨by omega,hi,p3,by omega⟩
theorem PcsL.yes {c:UInt8} {s:List UInt8} {st i:Nat} {out:List (List UInt8)} (p:PcsL c s st i out) (hi:i<s.length) (hx:s.getD i 0=c):zQ c s=out ++ (s.drop st).take (i - st) :: zQ c (s.drop (i+1))∧PcsL c s (i+1) (i+1) (out ++ [(s.drop st).take (i - st)]):=by
 obtain ⟨p1,p2,p3,p4⟩:=p;rw [gJ hi,if_pos hx,yT,zD7] at p3;exact ⟨p3,zA3 _,hi,by rw [zG6,List.take_zero,Kv (jR _ _),zF2];exact p3,by simp;omega⟩
theorem PcsL.fin {c:UInt8} {s:List UInt8} {st:Nat} {out:List (List UInt8)} (p:PcsL c s st s.length out):zQ c s=out ++ [s.drop st]:=by
 obtain ⟨p1,p2,p3,p4⟩:=p;rw [qdn,yT,zD7,zF8 (by simp)] at p3;exact p3
end Go.Proofs.Xx
namespace Go.Proofs.Xx
open Go Go.Proofs
def QV (n:Nat):List UInt8:=if h:n<10 then [UInt8.ofNat (48+n)] else QV (n / 10) ++ [UInt8.ofNat (48+n % 10)]
termination_by n
decreasing_by omega
theorem XR {n:Nat} (h:n<10):QV n=[UInt8.ofNat (48+n)]:=by rw [QV,dif_pos h]
theorem jk {n:Nat} (h:¬ n<10):QV n=QV (n / 10) ++ [UInt8.ofNat (48+n % 10)]:=by rw [QV,dif_neg h]
def d36:List UInt8:=[48,49,50,51,52,53,54,55,56,57,97,98,99,100,101,102,103,104,105,106,107,108,109,110,111,112,113,114,115,116,117,118,119,120,121,122]
def d100:List UInt8:=[48,48,48,49,48,50,48,51,48,52,48,53,48,54,48,55,48,56,48,57,49,48,49,49,49,50,49,51,49,52,49,53,49,54,49,55,49,56,49,57,50,48,50,49,50,50,50,51,50,52,50,53,50,54,50,55,50,56,50,57,51,48,51,49,51,50,51,51,51,52,51,53,51,54,51,55,51,56,51,57,52,48,52,49,52,50,52,51,52,52,52,53,52,54,52,55,52,56,52,57,53,48,53,49,53,50,53,51,53,52,53,53,53,54,53,55,53,56,53,57,54,48,54,49,54,50,54,51,54,52,54,53,54,54,54,55,54,56,54,57,55,48,55,49,55,50,55,51,55,52,55,53,55,54,55,55,55,56,55,57,56,48,56,49,56,50,56,51,56,52,56,53,56,54,56,55,56,56,56,57,57,48,57,49,57,50,57,51,57,52,57,53,57,54,57,55,57,56,57,57]
theorem qeX:∀ n,n<10→(d36.drop n).take (n+1 - n)=[UInt8.ofNat (48+n)]:=by decide +kernel
theorem qdR:∀ n,n<100→(d100.drop (n*2)).take (n*2+2 - n*2)=[UInt8.ofNat (48+n / 10)] ++ [UInt8.ofNat (48+n % 10)]:=by decide +kernel
def J6:List (List UInt8)→List UInt8
 | []=>[]
 | [w]=>w
 | w :: u :: r=>w ++ 32 :: J6 (u :: r)
theorem qcn {w:List UInt8} {r:List (List UInt8)} (h:r≠[]):J6 (w :: r)=w ++ 32 :: J6 r:=by
 match r,h with
 | u :: r,_=>rfl
theorem pM:∀ {ws:List (List UInt8)},ws≠[]→(∀ w∈ws,(32:UInt8) ∉ w)→zQ 32 (J6 ws)=ws
 | [],h,_=>absurd rfl h
 | [w],_,k=>JS (k w (by simp))
 | w :: u :: r,_,k=>by
  rw [J6,V7 (k w (by simp)),pM (by simp) (fun x hx=>k x (List.mem_cons_of_mem _ hx))]
theorem qag {c:UInt8} (hc:c≠32):∀ {ws:List (List UInt8)},(∀ w∈ws,c ∉ w)→c ∉ J6 ws
 | [],_=>by simp [J6]
 | [w],k=>k w (by simp)
 | w :: u :: r,k=>by
  have h1:=k w (by simp);have h2:=qag hc (ws:=u :: r) fun x hx=>k x (List.mem_cons_of_mem _ hx);rw [J6,zB8,zE8];rintro (q|q|q)
  ·exact h1 q
  ·exact hc q
  ·exact h2 q
theorem qen {n:Nat}:∀ {ws:List (List UInt8)},(∀ w∈ws,w.length≤n)→(J6 ws).length≤(n+1)*ws.length
 | [],_=>by simp [J6]
 | [w],k=>by have:=k w (by simp);simp [J6];omega
 | w :: u :: r,k=>by
  have h1:=k w (by simp);have h2:=qen (ws:=u :: r) fun x hx=>k x (List.mem_cons_of_mem _ hx);rw [J6,zB2,zC4,zC4 (a:=w),Nat.mul_add];omega
theorem u8t {n:Nat} (h:n<256):(UInt8.ofNat n).toNat=n:=by rw [UInt8.toNat_ofNat',Nat.mod_eq_of_lt h]
theorem ku:∀ n:Nat,(∀ x∈QV n,ZI x)∧zJ (QV n)=n∧1≤(QV n).length∧(n≠0→(QV n).getD 0 default≠48):=by
 intro n;induction n using Nat.strongRecOn with
 | _ n ih =>
 by_cases h:n<10
 ·have e:=u8t (show 48+n<256 by omega);rw [XR h];refine ⟨fun x hx=>?_,?_,by simp,fun h0 q=>?_⟩
  ·rw [zB5.1 hx];unfold ZI;rw [e];omega
  ·show 10*0+((UInt8.ofNat (48+n)).toNat - 48)=n
   rw [e];omega
  ·have:=congrArg UInt8.toNat (show UInt8.ofNat (48+n)=48 from q);rw [e] at this;have h8:(48:UInt8).toNat=48:=rfl;omega
 ·obtain ⟨i1,i2,i3,i4⟩:=ih (n / 10) (by omega);have e:=u8t (show 48+n % 10<256 by omega);rw [jk h];refine ⟨fun x hx=>?_,?_,by simp,fun h0 q=>?_⟩
  ·rcases zB8.1 hx with hx|hx
   ·exact i1 x hx
   ·rw [zB5.1 hx];unfold ZI;rw [e];omega
  ·rw [YP,i2,e];omega
  ·refine i4 (by omega) ?_;rw [zA2,zH7 (by omega),← zA2] at q;exact q
theorem Ve:∀ (k n:Nat),n<10 ^ (k+1)→(QV n).length≤k+1
 | 0,n,h=>by rw [XR (by omega)];simp
 | k+1,n,h=>by
  by_cases q:n<10
  ·rw [XR q];simp
  ·rw [jk q,zB2,zD5];have:=Ve k (n / 10) (by rw [Nat.pow_succ] at h;omega);omega
def txt (l:List (List UInt8)):List UInt8:=(l.map (· ++ [10])).flatten
theorem X6 (w:List UInt8) (l:List (List UInt8)):txt (w :: l)=w ++ 10 :: txt l:=by simp [txt]
theorem PT (a b:List (List UInt8)):txt (a ++ b)=txt a ++ txt b:=by simp [txt]
theorem vZ:∀ {l:List (List UInt8)},(∀ w∈l,(10:UInt8) ∉ w)→zQ 10 (txt l)=l ++ [[]]
 | [],_=>rfl
 | w :: l,k=>by
  rw [X6,V7 (k w (by simp)),vZ fun x hx=>k x (List.mem_cons_of_mem _ hx)];rfl
variable [Flag]
theorem qbE {h0:AH} (w:WfH h0) (n:Nat) (hn:n<100):Fn Tryz.prog Xh 234 [.int .i64 n] h0 (fun v h'=>v=str (QV n)∧Hs h0 h' []):=by
 have S:=Hs.start w;refine qM (by first|rfl) Tryz.func234 rfl rfl ?_;all_goals (repeat' (first|refine qg ?_|refine qi rfl ?_|refine qj ?_|(refine qc 0 ?_;refine mv ?_;refine qf ?_)|(refine qc 1 ?_;refine mv ?_;(first|(refine cS ?_ ?_<;>intro hc))<;>(refine qf ?_))))
 ·all_goals (repeat' (first|(refine qc 2 ?_;refine mv ?_;refine mv ?_;refine ad ?_)))
  rw [show ((n:Int)+1)=((n+1:Nat):Int) by omega];refine tsl (l:=d36) (a:=n) (b:=n+1) ?_ rfl rfl rfl rfl rfl rfl rfl rfl ⟨by omega,by rw [show d36.length=36 from rfl];omega⟩;rw [show (d36.drop n).take (n+1 - n)=QV n by rw [XR (by omega)];exact qeX n (by omega)];(refine mv ?_;refine qf ?_);all_goals (repeat' (fail))
  refine qw ⟨_,rfl,?_⟩;exact ⟨rfl,S⟩
 ·all_goals (repeat' (first|(refine qc 3 ?_;refine mv ?_;refine ml ?_;refine mv ?_;refine ml ?_;refine ad ?_)))
  rw [show ((n:Int)*2+2)=((n*2+2:Nat):Int) by omega,show ((n:Int)*2)=((n*2:Nat):Int) by omega];refine tsl (l:=d100) (a:=n*2) (b:=n*2+2) ?_ rfl rfl rfl rfl rfl rfl rfl rfl ⟨by omega,by rw [show d100.length=200 by decide +kernel];omega⟩;rw [show (d100.drop (n*2)).take (n*2+2 - n*2)=QV n by rw [jk (by omega),XR (by omega)];exact qdR n hn];(refine mv ?_;refine qf ?_);all_goals (repeat' (fail))
  refine qw ⟨_,rfl,?_⟩;exact ⟨rfl,S⟩
abbrev bst (bb:Nat) (q v:Value):Rs:=.blk bb [q,v] 98
abbrev bsl (v:Value) (l:List UInt8):Rs:=.sl v 5 1 eU (l.map UInt8.toNat)
def QP (bb:Nat) (q:Value):Prop:=q = .pointer none∨q = .pointer (some ⟨bb,0,none⟩)
def tlW (r:List (List UInt8)):List UInt8:=r.flatMap fun w=>32 :: w
theorem WZ (w:List UInt8):∀ r:List (List UInt8),J6 (w :: r)=w ++ tlW r
 | []=>by simp [J6,tlW]
 | u :: r=>by
  rw [J6,WZ u r];simp [tlW]
theorem qbp (r:List (List UInt8)) (w:List UInt8):tlW (r ++ [w])=tlW r ++ [32] ++ w:=by simp [tlW]
theorem qca {h0:AH} (v:Value):Fn Tryz.prog Xh 176 [v] h0 (fun r h'=>r=v∧h'=h0):=Zn rfl ⟨rfl,rfl⟩
theorem qba {h0 h:AH} {rs:List Rs} {bb:Nat} {q v:Value} (S:Hs h0 h (bst bb q v :: rs)) (hq:QP bb q):Fn Tryz.prog Xh 117 [.pointer (some ⟨bb,0,none⟩)] h (fun r h'=>Hs h0 h' (bst bb (.pointer (some ⟨bb,0,none⟩)) v :: rs)):=by
 rcases hq with rfl|rfl
 ·refine qM (by first|rfl) Tryz.func117 rfl rfl ?_;all_goals (repeat' (first|refine qg ?_|refine qi rfl ?_|(refine qc 0 ?_;refine mv ?_;refine vl ?_;refine vl ?_;refine lB S rfl rfl ?_;refine vl ?_;refine qf ?_)))
  refine qc 1 ?_;refine mv ?_;refine mv ?_;refine pU1 (b:=bb) (c:=[.pointer none,v]) (e:=98) S.gB ?_;(refine qx rfl rfl rfl rfl rfl ((qca _).mono ?_);rintro _ h ⟨rfl,rfl⟩)<;>(refine pU2 (b:=bb) (c:=[.pointer none,v]) (e:=98) S.gB ?_ (hc:=by kernel_rfl);((refine vl ?_;refine vl ?_;(first|(refine sB S rfl rfl ?_;clear S;intro h S));refine qf ?_)))
  all_goals (repeat' (fail))
  refine ⟨_,rfl,?_⟩;exact S
 ·refine qM (by first|rfl) Tryz.func117 rfl rfl ?_;all_goals (repeat' (first|refine qg ?_|refine qi rfl ?_|(refine qc 0 ?_;refine mv ?_;refine vl ?_;refine vl ?_;refine lB S rfl rfl ?_;refine vl ?_;refine qf ?_)))
  refine qc 2 ?_;refine mv ?_;refine vl ?_;refine vl ?_;refine lB S rfl rfl ?_;refine mv ?_;refine pN ?_;refine qf ?_;all_goals (repeat' (first|refine qi rfl ?_|refine qj ?_))
  refine ⟨_,rfl,?_⟩;exact S
theorem Vh {h0 h:AH} {rs:List Rs} {bb:Nat} {q v:Value} {l:List UInt8} (s:List UInt8) (S:Hs h0 h (bst bb q v :: bsl v l :: rs)) (hq:QP bb q) (hl:l.length+s.length≤1000000):Fn Tryz.prog Xh 59 [.pointer (some ⟨bb,0,none⟩),str s] h
 (fun r h'=>∃ v',Hs h0 h' (bst bb (.pointer (some ⟨bb,0,none⟩)) v' :: bsl v' (l ++ s) :: rs)):=by
 have hl':(l.map UInt8.toNat).length+s.length≤1000000:=by simpa using hl
 refine qM (by first|rfl) Tryz.func59 rfl rfl ?_;all_goals (repeat' (first|refine qg ?_|(refine qc 0 ?_;refine mv ?_;refine mv ?_;refine qf ?_)|(refine qc 1 ?_;refine mv ?_)))
 (refine qx rfl rfl rfl rfl rfl ((qba S hq).mono ?_);rintro _ h S2)<;>(replace S:=S2;clear S2;refine qf ?_)
 refine qg ?_;refine qc 2 ?_;refine mv ?_;refine mv ?_;refine vl ?_;refine vl ?_;refine lB S rfl rfl ?_;refine mv ?_;refine apS S rfl rfl ?_;clear S;intro v2 h S;obtain ⟨sv,rfl⟩:=(Rd.of_sl S .here).isSl;refine vl ?_;refine vl ?_;(first|(refine sB S rfl rfl ?_;clear S;intro h S));refine qf ?_;all_goals (repeat' (first|refine qg ?_|(refine qc 3 ?_;refine mv ?_;refine tl ?_;refine mv ?_;refine mv ?_;refine qf ?_)))
 refine qw ⟨_,rfl,?_⟩;rw [← zC9] at S;exact ⟨_,S.front (.there .here)⟩
theorem qdY {h0 h:AH} {rs:List Rs} {bb:Nat} {q v:Value} {l:List UInt8} (S:Hs h0 h (bst bb q v :: bsl v l :: rs)) (hl:0<l.length∧l.length≤1000000):Fn Tryz.prog Xh 61 [.pointer (some ⟨bb,0,none⟩)] h (fun r h'=>r=str l∧Hs h0 h' (bst bb q v :: rs)):=by
 have hl':(l.map UInt8.toNat).length=l.length:=by simp
 have hl2:(l.map UInt8.toNat).map UInt8.ofNat=l:=by
  rw [List.map_map];exact (List.map_congr_left fun a _=>by simp).trans (List.map_id _)
 refine qM (by first|rfl) Tryz.func61 rfl rfl ?_;all_goals (repeat' (first|refine qg ?_|(refine qc 0 ?_;refine mv ?_;refine qf ?_)))
 refine zi 1 ?_;refine mv ?_;refine vl ?_;refine vl ?_;refine lB S rfl rfl ?_;refine usd S (by omega) rfl rfl ?_;rintro b o cap rfl;refine mv ?_;refine vl ?_;refine vl ?_;refine lB S rfl rfl ?_;refine yc S rfl rfl ?_;refine uns (l:=l.map UInt8.toNat) (cap:=cap) S ⟨by omega,by omega⟩ rfl rfl ?_;clear S;intro h S;rw [hl2];refine mv ?_;refine qf ?_;all_goals (repeat' (fail))
 refine qw ⟨_,rfl,?_⟩;exact ⟨rfl,S⟩
end Go.Proofs.Xx
namespace Go.Proofs.Xx
open Go Go.Proofs
abbrev wordAt (ws:List (List UInt8)) (i:Nat):List UInt8:=ws.getD i default
def Ws:List UInt8:=[116,114,105,112]
structure Trp where
 ta:List Int
 pl:Int
 st:Int
instance:Inhabited Trp:=⟨⟨[],0,0⟩⟩
def YL (ws:List (List UInt8)):Prop:=4≤ws.length∧wordAt ws 0=Ws∧[] ∉ ws
open Classical in
noncomputable def VA (l:List Tab) (ws:List (List UInt8)):Int :=
 if ¬ YL ws then 3 else if ¬ (JH (wordAt ws 1)∧JH (wordAt ws 2)) then 3 else if ∃ i,3≤i∧i<ws.length∧¬ Zp l (wordAt ws i) then 6 else 0
def XG (l:List Tab) (ws:List (List UInt8)):Trp:=⟨(ws.drop 3).map fun n=>(tix l n:Int),zJ (wordAt ws 1),zJ (wordAt ws 2)⟩
theorem kZ {l:List Tab} {ws:List (List UInt8)} (h:¬ YL ws):VA l ws=3:=by unfold VA;rw [if_pos h]
theorem vN {l:List Tab} {ws:List (List UInt8)} (h:¬ (JH (wordAt ws 1)∧JH (wordAt ws 2))):VA l ws=3:=by
 unfold VA;by_cases q:YL ws
 ·rw [if_neg (fun k=>k q),if_pos h]
 ·rw [if_pos q]
theorem PU {l:List Tab} {ws:List (List UInt8)} (h1:YL ws) (h2:JH (wordAt ws 1)∧JH (wordAt ws 2)) (h:∃ i,3≤i∧i<ws.length∧¬ Zp l (wordAt ws i)):VA l ws=6:=by unfold VA;rw [if_neg (fun k=>k h1),if_neg (fun k=>k h2),if_pos h]
theorem qbo {l:List Tab} {ws:List (List UInt8)} (h1:YL ws) (h2:JH (wordAt ws 1)∧JH (wordAt ws 2)) (h:∀ i,3≤i→i<ws.length→Zp l (wordAt ws i)):VA l ws=0:=by
 unfold VA;rw [if_neg (fun k=>k h1),if_neg (fun k=>k h2),if_neg (fun ⟨i,q1,q2,q3⟩=>q3 (h i q1 q2))]
theorem qbn {l:List Tab} {ws:List (List UInt8)} (h:VA l ws=0):YL ws∧(JH (wordAt ws 1)∧JH (wordAt ws 2))∧∀ i,3≤i→i<ws.length→Zp l (wordAt ws i):=by
 by_cases h1:YL ws
 ·by_cases h2:JH (wordAt ws 1)∧JH (wordAt ws 2)
  ·refine ⟨h1,h2,fun i q1 q2=>?_⟩;by_cases h3:Zp l (wordAt ws i)
   ·exact h3
   ·rw [PU h1 h2 ⟨i,q1,q2,h3⟩] at h;cases h
  ·rw [vN h2] at h;cases h
 ·rw [kZ h1] at h;cases h
noncomputable def x8 (l:List Tab):List Trp→Nat→List (List UInt8)→List Trp×Int×Int
 | out,_,[]=>(out,0,0)
 | out,i,[w]=>if w=[] then (out,0,0) else ([],i,3)
 | out,i,w :: v :: r=>if VA l (zQ 32 w)=0 then x8 l (out ++ [XG l (zQ 32 w)]) (i+1) (v :: r) else ([],i,VA l (zQ 32 w))
theorem WN {l:List Tab} {out:List Trp} {i:Nat} {w:List UInt8} (h:w≠[]):x8 l out i [w]=([],(i:Int),3):=by rw [x8,if_neg h]
theorem Wh {l:List Tab} {out:List Trp} {i:Nat}:x8 l out i [[]]=(out,0,0):=by rw [x8,if_pos rfl]
theorem wE {l:List Tab} {out:List Trp} {i:Nat} {w:List UInt8} {r:List (List UInt8)} (hr:r≠[]) (h:VA l (zQ 32 w)≠0):x8 l out i (w :: r)=([],(i:Int),VA l (zQ 32 w)):=by
 match r,hr with
 | v :: r,_=>rw [x8,if_neg h]
theorem wC {l:List Tab} {out:List Trp} {i:Nat} {w:List UInt8} {r:List (List UInt8)} (hr:r≠[]) (h:VA l (zQ 32 w)=0):x8 l out i (w :: r)=x8 l (out ++ [XG l (zQ 32 w)]) (i+1) r:=by
 match r,hr with
 | v :: r,_=>rw [x8,if_pos h]
noncomputable def Yo (l:List Tab) (s:List UInt8):List Trp×Int×Int:=if 65536<s.length then ([],0,7) else x8 l [] 0 (zQ 10 s)
def GI (l:List Tab) (x:Trp):Prop:=x.ta≠[]∧(0≤x.pl∧x.pl≤999999999)∧(0≤x.st∧x.st≤999999999)∧∀ t∈x.ta,0≤t∧t<l.length
def jd (l:List Tab) (t:Int):List UInt8:=(tb l t.toNat).name
def JJ (l:List Tab) (x:Trp):List (List UInt8):=Ws :: QV x.pl.toNat :: QV x.st.toNat :: x.ta.map (jd l)
open Classical in
noncomputable def Zl (l:List Tab) (xs:List Trp):List UInt8:=if ∀ x∈xs,GI l x then txt (xs.map fun x=>J6 (JJ l x)) else []
theorem qb7:∀ (n:Nat) (s:List UInt8),s.length=n→(∀ x∈s,ZI x)→s≠[]→s.getD 0 default≠48→QV (zJ s)=s∧1≤zJ s:=by
 intro n;induction n with
 | zero=>intro s hl _ hne;exact absurd (List.eq_nil_of_length_eq_zero hl) hne
 | succ n ih =>
  intro s hl hd hne h0;rcases List.eq_nil_or_concat s with rfl|⟨t,x,rfl⟩
  ·exact absurd rfl hne
  rw [List.concat_eq_append] at *;have hx:=hd x (by simp);unfold ZI at hx;have ex:UInt8.ofNat (48+(x.toNat - 48))=x:=by rw [show 48+(x.toNat - 48)=x.toNat by omega];simp
  rw [YP];by_cases ht:t=[]
  ·subst ht;have h48:x.toNat≠48:=fun q=>h0 (show x=48 from UInt8.toNat.inj (by rw [q];rfl));rw [show zJ []=0 from rfl,show 10*0+(x.toNat - 48)=x.toNat - 48 by omega,XR (by omega),ex];exact ⟨rfl,by omega⟩
  ·have hg:t.getD 0 default≠48:=by
    have:0<t.length:=List.length_pos_iff.2 ht;rw [zA2,zH7 this,← zA2] at h0;exact h0
   obtain ⟨i1,i2⟩:=ih t (by simp at hl;exact hl) (fun y hy=>hd y (by simp [hy])) ht hg;rw [jk (by omega),show (10*zJ t+(x.toNat - 48)) / 10=zJ t by omega,show (10*zJ t+(x.toNat - 48)) % 10=x.toNat - 48 by omega,i1,ex];exact ⟨rfl,by omega⟩
theorem Wl {s:List UInt8} (h:JH s):QV (zJ s)=s∧zJ s≤999999999:=by
 obtain ⟨h1,h2,h3,h4⟩:=h;have hd:∀ x∈s,ZI x:=fun x hx=>by
  obtain ⟨j,hj,rfl⟩:=qI.1 hx;exact h4 j hj
 have hv:=qc8 h4 s.length (zA3 _);rw [zD4] at hv;have hp:10 ^ s.length≤10 ^ 9:=Nat.pow_le_pow_right (by decide) h2;refine ⟨?_,by omega⟩;by_cases hl:s.length=1
 ·match s,hl with
  | [x],_ =>
   have hx:=hd x (by simp);unfold ZI at hx;rw [show zJ [x]=10*0+(x.toNat - 48) from rfl,XR (by omega),show 48+(10*0+(x.toNat - 48))=x.toNat by omega];simp
 ·exact (qb7 _ s rfl hd (fun q=>by rw [q] at h1;simp at h1) (h3 (by omega))).1
theorem Gh {n:Nat} (h:n≤999999999):JH (QV n)∧zJ (QV n)=n:=by
 obtain ⟨i1,i2,i3,i4⟩:=ku n;have hl:=Ve 8 n (by omega);refine ⟨⟨i3,by omega,fun h1=>i4 fun q=>?_,fun i hi=>i1 _ (qJ hi)⟩,i2⟩;rw [q,XR (by omega)] at h1;simp at h1
theorem Gg {s:List UInt8} (h:∀ x∈s,ZI x) {c:UInt8} (hc:c.toNat<48):c ∉ s:=fun q=>by have:=h c q;unfold ZI at this;omega
theorem qcg {s:List UInt8} (h:jC s) {c:UInt8} (hc:c.toNat<97):c ∉ s:=fun q=>by
 obtain ⟨j,hj,e⟩:=qI.1 q;have:=h.2.2 j hj;rw [e] at this;unfold QO at this;omega
theorem qcl {c:UInt8}:∀ s:List UInt8,c=32→J6 (zQ c s)=s
 | [],h=>by rfl
 | x :: s,h=>by
  have ih:=qcl s h;rw [zQ];split
  ·rename_i hx
   rw [qcn (jR c s),ih,hx,h];rfl
  ·match hs:zQ c s with
   | []=>exact absurd hs (jR c s)
   | [w]=>rw [hs] at ih;rw [← ih];rfl
   | w :: v :: r=>rw [hs] at ih;rw [← ih];rfl
theorem ValidL.nm {l:List Tab} (hv:ValidL l) {i:Nat} (hi:i<l.length):jC (tb l i).name:=by
 have hc:=(hv.2 i hi).1;unfold chk at hc;split at hc
 ·cases hc
 ·rename_i h;exact zF3.1 h
theorem ValidL.uniq {l:List Tab} (hv:ValidL l) {i j:Nat} (hi:i<l.length) (hj:j<l.length) (e:(tb l i).name=(tb l j).name):i=j:=by
 rcases zE7 i j with q|q|q
 ·exact absurd ⟨i,q,e⟩ (hv.2 j hj).2
 ·exact q
 ·exact absurd ⟨j,q,e.symm⟩ (hv.2 i hi).2
theorem YR {l:List Tab} {n:List UInt8} (h:Zp l n):jd l (tix l n:Int)=n∧tix l n<l.length:=by
 have ex:∃ i,i<l.length∧(tb l i).name=n∧∀ j,j<i→¬ (tb l j).name=n:=by
  obtain ⟨k,hk,e⟩:=h;induction k using Nat.strongRecOn with
  | _ k ih =>
   by_cases q:∃ j,j<k∧(tb l j).name=n
   ·obtain ⟨j,j1,j2⟩:=q;exact ih j j1 (by omega) j2
   ·exact ⟨k,hk,e,fun j hj e2=>q ⟨j,hj,e2⟩⟩
 obtain ⟨i,h1,h2,h3⟩:=ex;rw [YS h1 h2 h3];exact ⟨h2,h1⟩
theorem GK {l:List Tab} (hv:ValidL l) {x:Trp} (h:GI l x):zQ 32 (J6 (JJ l x))=JJ l x∧(10:UInt8) ∉ J6 (JJ l x)∧VA l (JJ l x)=0∧XG l (JJ l x)=x∧J6 (JJ l x)≠[]:=by
 obtain ⟨h1,h2,h3,h4⟩:=h;obtain ⟨p1,p2⟩:=Gh (n:=x.pl.toNat) (by omega);obtain ⟨s1,s2⟩:=Gh (n:=x.st.toNat) (by omega);have dp:=(ku x.pl.toNat).1;have ds:=(ku x.st.toNat).1;have hn:∀ w∈x.ta.map (jd l),jC w:=fun w hw=>by
  obtain ⟨t,ht,rfl⟩:=zF1.1 hw;have:=h4 t ht;exact hv.nm (by omega)
 have free:∀ c:UInt8,c.toNat<48→c ∉ Ws→∀ w∈JJ l x,c ∉ w:=fun c hc hw w h=>by
  rcases zE8.1 h with rfl|h
  ·exact hw
  rcases zE8.1 h with rfl|h
  ·exact Gg dp hc
  rcases zE8.1 h with rfl|h
  ·exact Gg ds hc
  ·exact qcg (hn w h) (by omega)
 have hta:0<x.ta.length:=List.length_pos_iff.2 h1;have hne:JJ l x≠[]:=by simp [JJ]
 have hform:YL (JJ l x):=by
  refine ⟨by simp [JJ];omega,rfl,fun q=>?_⟩;rcases zE8.1 q with q|q
  ·cases q
  rcases zE8.1 q with q|q
  ·have:=p1.1;rw [← q] at this;simp at this
  rcases zE8.1 q with q|q
  ·have:=s1.1;rw [← q] at this;simp at this
  ·have:=(hn _ q).1;simp at this
 have hmap:(JJ l x).drop 3=x.ta.map (jd l):=rfl;have hget:∀ i,3≤i→i<(JJ l x).length→∃ t,0≤t∧t<(l.length:Int)∧wordAt (JJ l x) i=jd l t:=fun i q1 q2=>by
  have hm:wordAt (JJ l x) i∈x.ta.map (jd l):=by
   obtain ⟨j,rfl⟩:∃ j,i=j+3:=⟨i - 3,by omega⟩
   have:wordAt (JJ l x) (j+3)=(x.ta.map (jd l)).getD j default:=rfl;rw [this];refine qJ ?_;simp [JJ] at q2 ⊢;omega
  obtain ⟨t,ht,e⟩:=zF1.1 hm;exact ⟨t,(h4 t ht).1,(h4 t ht).2,e.symm⟩
 refine ⟨pM hne (free 32 (by decide) (by decide)),qag (by decide) (free 10 (by decide) (by decide)),qbo hform ⟨p1,s1⟩ fun i q1 q2=>?_,?_,?_⟩
 ·obtain ⟨t,t1,t2,e⟩:=hget i q1 q2;rw [e];exact ⟨t.toNat,by omega,rfl⟩
 ·have e1:x.ta.map (fun t=>((tix l (jd l t):Nat):Int))=x.ta:=by
   conv=>rhs;rw [← List.map_id x.ta]
   refine List.map_congr_left fun t ht=>?_;have hb:=h4 t ht;obtain ⟨k1,k2⟩:=YR (l:=l) (n:=jd l t) ⟨t.toNat,by omega,rfl⟩;have:=hv.uniq (i:=tix l (jd l t)) (j:=t.toNat) k2 (by omega) k1;rw [this];show ((t.toNat:Nat):Int)=t
   omega
  unfold XG;rw [hmap,List.map_map];show Trp.mk _ _ _=x
  have e2:((zJ (wordAt (JJ l x) 1):Nat):Int)=x.pl:=by
   show ((zJ (QV x.pl.toNat):Nat):Int)=x.pl
   rw [p2];omega
  have e3:((zJ (wordAt (JJ l x) 2):Nat):Int)=x.st:=by
   show ((zJ (QV x.st.toNat):Nat):Int)=x.st
   rw [s2];omega
  rw [e2,e3];exact congrArg (fun y=>Trp.mk y x.pl x.st) e1
 ·intro q;have:zQ 32 (J6 (JJ l x))=JJ l x:=pM hne (free 32 (by decide) (by decide));rw [q] at this;have h5:=congrArg List.length this;simp [zQ,JJ] at h5
theorem qdv {l:List Tab} (hv:ValidL l) {xs:List Trp} (h:∀ x∈xs,GI l x) (hl:(Zl l xs).length≤65536):Yo l (Zl l xs)=(xs,0,0):=by
 have e:Zl l xs=txt (xs.map fun x=>J6 (JJ l x)):=by unfold Zl;rw [if_pos h]
 unfold Yo;rw [if_neg (by omega),e,vZ fun w hw=>by
  obtain ⟨x,hx,rfl⟩:=zF1.1 hw;exact (GK hv (h x hx)).2.1]
 have key:∀ (ys:List Trp) (out:List Trp) (i:Nat),(∀ x∈ys,GI l x)→x8 l out i ((ys.map fun x=>J6 (JJ l x)) ++ [[]])=(out ++ ys,0,0):=by
  intro ys;induction ys with
  | nil=>intro out i _;rw [List.map_nil,zC0,Wh,zD7]
  | cons y ys ih =>
   intro out i hy;obtain ⟨k1,k2,k3,k4,k5⟩:=GK hv (hy y (by simp));rw [List.map_cons,zC6,wC (by simp) (by rw [k1];exact k3),k1,k4,ih _ _ fun x hx=>hy x (List.mem_cons_of_mem _ hx),zF2];rfl
 exact key xs [] 0 h
theorem qdc {s:List UInt8}:∀ {P:List (List UInt8)},zQ 10 s=P ++ [[]]→txt P=s:=by
 have key:∀ s:List UInt8,∀ P w,zQ 10 s=P ++ [w]→txt P ++ w=s:=by
  intro s;induction s with
  | nil =>
   intro P w h;cases P with
   | nil=>simp [zQ] at h;subst h;rfl
   | cons p P=>simp [zQ] at h
  | cons x s ih =>
   intro P w h;rw [zQ] at h;split at h
   ·rename_i hx
    cases P with
    | nil =>
     have:=congrArg List.length h;simp at this;exact absurd this (jR 10 s)
    | cons p P =>
     rw [zC6] at h;obtain ⟨h1,h2⟩:=List.cons.inj h;rw [X6,← h1,zC0,zC6,ih P w h2,hx]
   ·match hs:zQ 10 s with
    | []=>exact absurd hs (jR 10 s)
    | u :: r =>
     rw [hs] at h;cases P with
     | nil =>
      rw [zC0] at h;obtain ⟨h1,h2⟩:=List.cons.inj h;have:=ih [] u (by rw [hs,h2];rfl);rw [← h1,← this];rfl
     | cons p P =>
      rw [zC6] at h;obtain ⟨h1,h2⟩:=List.cons.inj h;have:=ih (u :: P) w (by rw [hs,h2];rfl);rw [← h1,X6,← this,X6];simp
 intro P h;have:=key s P [] h;simpa using this
theorem qdM {l:List Tab} (hv:ValidL l) {s:List UInt8} (hl:s.length≤65536) {xs:List Trp} {i:Int} (h:Yo l s=(xs,i,0)):(∀ x∈xs,GI l x)∧Zl l xs=s∧i=0:=by
 unfold Yo at h;rw [if_neg (by omega)] at h;have key:∀ (P:List (List UInt8)) (out:List Trp) (k:Nat),P≠[]→x8 l out k P=(xs,i,0)→∃ Q ys,P=Q ++ [[]]∧xs=out ++ ys∧i=0∧(∀ x∈ys,GI l x)∧(ys.map fun x=>J6 (JJ l x))=Q:=by
  intro P;induction P with
  | nil=>intro out k h;exact absurd rfl h
  | cons w P ih =>
   intro out k _ h;by_cases hP:P=[]
   ·subst hP;by_cases hw:w=[]
    ·subst hw;rw [Wh] at h;obtain ⟨rfl,h2⟩:=Prod.mk.inj h;exact ⟨[],[],rfl,by simp,(Prod.mk.inj h2).1.symm,by simp,rfl⟩
    ·rw [WN hw] at h;have:=(Prod.mk.inj (Prod.mk.inj h).2).2;cases this
   ·by_cases he:VA l (zQ 32 w)=0
    ·rw [wC hP he] at h;obtain ⟨Q,ys,q1,q2,q3,q4,q5⟩:=ih _ _ hP h;obtain ⟨t1,⟨t2,t3⟩,t4⟩:=qbn he;have hlen:0<((zQ 32 w).drop 3).length:=by rw [zB4];have:=t1.1;omega
     have hok:GI l (XG l (zQ 32 w)):=by
      obtain ⟨-,n1⟩:=Wl t2;obtain ⟨-,n2⟩:=Wl t3;refine ⟨fun q=>?_,⟨by show (0:Int)≤((zJ _:Nat):Int);omega,by show ((zJ _:Nat):Int)≤_;omega⟩,⟨by show (0:Int)≤((zJ _:Nat):Int);omega,by show ((zJ _:Nat):Int)≤_;omega⟩,fun t ht=>?_⟩
      ·have:=congrArg List.length q;simp [XG] at this
       rw [zB4] at hlen;omega
      ·obtain ⟨n,hn,rfl⟩:=zF1.1 ht;obtain ⟨j,hj,rfl⟩:=qI.1 hn;rw [zB4] at hj;have e:((zQ 32 w).drop 3).getD j default=wordAt (zQ 32 w) (3+j):=by
        unfold wordAt;rw [zA2,zC3,zA2]
       rw [e];have:=(YR (t4 (3+j) (by omega) (by omega))).2;omega
     have hws:JJ l (XG l (zQ 32 w))=zQ 32 w:=by
      have e0:=t1.2.1;obtain ⟨n1,-⟩:=Wl t2;obtain ⟨n2,-⟩:=Wl t3;have hmap:(((zQ 32 w).drop 3).map fun n=>(tix l n:Int)).map (jd l)=(zQ 32 w).drop 3:=by
       rw [List.map_map];conv=>rhs;rw [← List.map_id ((zQ 32 w).drop 3)]
       refine List.map_congr_left fun n hn=>?_;obtain ⟨j,hj,rfl⟩:=qI.1 hn;rw [zB4] at hj;have e:((zQ 32 w).drop 3).getD j default=wordAt (zQ 32 w) (3+j):=by
        unfold wordAt;rw [zA2,zC3,zA2]
       rw [e];exact (YR (t4 (3+j) (by omega) (by omega))).1
      have h4:=t1.1;unfold JJ XG;dsimp only;rw [hmap];rw [show ((zJ (wordAt (zQ 32 w) 1):Nat):Int).toNat=zJ (wordAt (zQ 32 w) 1) by omega,show ((zJ (wordAt (zQ 32 w) 2):Nat):Int).toNat=zJ (wordAt (zQ 32 w) 2) by omega,n1,n2,← e0];generalize zQ 32 w=L at h4
      match L,h4 with
      | a :: b :: c :: d :: r,_=>rfl
     refine ⟨w :: Q,XG l (zQ 32 w) :: ys,by rw [q1];rfl,by rw [q2,zF2];rfl,q3,fun x hx=>?_,?_⟩
     ·rcases zE8.1 hx with rfl|hx
      ·exact hok
      ·exact q4 x hx
     ·rw [List.map_cons,q5,hws,qcl w rfl]
    ·rw [wE hP he] at h;exact absurd (Prod.mk.inj (Prod.mk.inj h).2).2 he
 obtain ⟨Q,ys,q1,q2,q3,q4,q5⟩:=key _ [] 0 (jR 10 s) h;rw [zC0] at q2;subst q2;refine ⟨q4,?_,q3⟩;unfold Zl;rw [if_pos q4,q5];exact qdc q1
theorem qbX {l:List Tab} {s:List UInt8} {xs:List Trp} {i e:Int} (h:Yo l s=(xs,i,e)) (he:e≠0):xs=[]∧0≤i∧i+1≤(zQ 10 s).length:=by
 have hp:=List.length_pos_iff.2 (jR 10 s);unfold Yo at h;split at h
 ·obtain ⟨rfl,h2⟩:=Prod.mk.inj h;obtain ⟨rfl,-⟩:=Prod.mk.inj h2;exact ⟨rfl,Int.le_refl _,by omega⟩
 ·have key:∀ (P:List (List UInt8)) (out:List Trp) (k:Nat),P≠[]→x8 l out k P=(xs,i,e)→xs=[]∧(k:Int)≤i∧i+1≤k+P.length:=by
   intro P;induction P with
   | nil=>intro out k h;exact absurd rfl h
   | cons w P ih =>
    intro out k _ h;by_cases hP:P=[]
    ·subst hP;by_cases hw:w=[]
     ·subst hw;rw [Wh] at h;exact absurd (Prod.mk.inj (Prod.mk.inj h).2).2.symm he
     ·rw [WN hw] at h;obtain ⟨rfl,h2⟩:=Prod.mk.inj h;obtain ⟨rfl,-⟩:=Prod.mk.inj h2;exact ⟨rfl,Int.le_refl _,by simp⟩
    ·by_cases hz:VA l (zQ 32 w)=0
     ·rw [wC hP hz] at h;obtain ⟨h1,h2,h3⟩:=ih _ _ hP h;exact ⟨h1,by omega,by rw [zC4];omega⟩
     ·rw [wE hP hz] at h;obtain ⟨rfl,h2⟩:=Prod.mk.inj h;obtain ⟨rfl,-⟩:=Prod.mk.inj h2;exact ⟨rfl,Int.le_refl _,by rw [zC4];omega⟩
  obtain ⟨h1,h2,h3⟩:=key _ [] 0 (jR 10 s) h;exact ⟨h1,h2,by omega⟩
end Go.Proofs.Xx
namespace Go.Proofs.Xx
def jo (ld:Int→Int):List Int→Int
 | []=>0
 | t :: l=>ld t+jo ld l
theorem Wv {ld:Int→Int}:∀ (a b:List Int),jo ld (a ++ b)=jo ld a+jo ld b
 | [],b=>by simp [jo]
 | t :: a,b=>by simp only [zC6,jo,Wv a b];omega
theorem vU {ld:Int→Int}:∀ {l:List Int},(∀ t∈l,0≤ld t)→0≤jo ld l
 | [],_=>Int.le_refl _
 | t :: l,h=>by
  have h1:=h t (by simp);have h2:=vU (l:=l) fun x q=>h x (List.mem_cons_of_mem _ q);simp only [jo];omega
theorem qbx {ld:Int→Int} {M:Int}:∀ {l:List Int},(∀ t∈l,ld t≤M)→jo ld l≤M*l.length
 | [],_=>by simp [jo]
 | t :: l,h=>by
  have h1:=h t (by simp);have h2:=qbx (l:=l) fun x q=>h x (List.mem_cons_of_mem _ q);simp only [jo,zC4];push_cast;rw [Int.mul_add];omega
def seg (w:List Int) (i j:Nat):List Int:=(w.drop i).take (j - i)
theorem wz {w:List Int} {i j:Nat} (h:i≤j) (hj:j≤w.length):(seg w i j).length=j - i:=by simp [seg];omega
theorem ww {w:List Int} {i j:Nat} {t:Int} (h:t∈seg w i j):t∈w:=List.mem_of_mem_drop (List.mem_of_mem_take h)
theorem qbH {w:List Int} {i j:Nat} (h:i≤j):seg w i j ++ w.drop j=w.drop i:=by
 have:=zH1 (j - i) (w.drop i);rw [List.drop_drop,show i+(j - i)=j by omega] at this;exact this
theorem qdp {w:List Int} {i:Nat}:seg w i i=[]:=by simp [seg]
theorem gY {w:List Int} {i j:Nat} (h:i≤j) (hj:j<w.length):seg w i (j+1)=seg w i j ++ [w.getD j default]:=by
 unfold seg;rw [show j+1 - i=(j - i)+1 by omega,List.take_add_one,zC3,show i+(j - i)=j by omega,zA4 hj,zA2,zA4 hj];simp
def qc0 (ld:Int→Int) (k:Int) (c:List (List Int)):Prop:=∀ p∈c,p≠[]∧jo ld p≤k
def cost (d:Int→Int→Int):List (List Int)→Int
 | []=>0
 | p :: c=>tour d p+cost d c
theorem Gi {d:Int→Int→Int}:∀ (a b:List (List Int)),cost d (a ++ b)=cost d a+cost d b
 | [],b=>by simp [cost]
 | t :: a,b=>by simp only [zC6,cost,Gi a b];omega
def BestC (d:Int→Int→Int) (ld:Int→Int) (k:Int) (w:List Int) (i:Nat) (f:Int):Prop:=∀ c,qc0 ld k c→c.flatten=w.drop i→f≤cost d c
theorem BestC.last {d:Int→Int→Int} (m:Met d) {ld:Int→Int} {k:Int} {w:List Int}:BestC d ld k w w.length 0:=fun c _ h=>by
 rw [List.drop_length] at h;induction c with
 | nil=>exact Int.le_refl _
 | cons p c ih =>
  simp only [List.flatten_cons,List.append_eq_nil_iff] at h;have h1:=qdu m p (-1) (-1);have h2:=ih (fun q hq=>by rename_i hc;exact hc q (List.mem_cons_of_mem _ hq)) h.2;show 0≤tour d p+cost d c
  unfold tour;omega
theorem BestC.step {d:Int→Int→Int} {ld:Int→Int} {k:Int} {w:List Int} {i:Nat} {f:Int} {F:Nat→Int} (hi:i<w.length) (hF:∀ j,i<j→j≤w.length→BestC d ld k w j (F j))
 (h:∀ j,i<j→j≤w.length→jo ld (seg w i j)≤k→f≤tour d (seg w i j)+F j):BestC d ld k w i f:=fun c hc e=>by
 cases c with
 | nil =>
  have:=congrArg List.length e;simp at this;omega
 | cons p c =>
  obtain ⟨h1,h2⟩:=hc p (by simp);have hp:0<p.length:=List.length_pos_iff.2 h1;rw [List.flatten_cons] at e;have el:=congrArg List.length e;simp only [zB2,zB4] at el;have es:seg w i (i+p.length)=p:=by
   unfold seg;rw [← e,show i+p.length - i=p.length by omega];simp
  have ed:c.flatten=w.drop (i+p.length):=by
   have:=qbH (w:=w) (i:=i) (j:=i+p.length) (by omega);rw [es,← e] at this;exact (List.append_cancel_left this).symm
  have h3:=h (i+p.length) (by omega) (by omega) (by rw [es];exact h2);have h4:=hF (i+p.length) (by omega) (by omega) c (fun q hq=>hc q (List.mem_cons_of_mem _ hq)) ed;rw [es] at h3;show f≤tour d p+cost d c
  omega
theorem qbG {ld:Int→Int} {w:List Int} {i j j':Nat} (h0:∀ t∈w,0≤ld t) (h1:i≤j) (h2:j≤j') (h3:j'≤w.length):jo ld (seg w i j)≤jo ld (seg w i j'):=by
 induction h2 with
 | refl=>exact Int.le_refl _
 | @step n h ih =>
  have hn:n≤w.length:=by simp at h3;omega
  rw [gY (zD0 h1 h) (by simp at h3;omega),Wv];have:=h0 (w.getD n default) (by
   rw [zA2,zA4 (by simp at h3;omega)];exact List.getElem_mem _)
  have:=ih hn;simp only [jo];omega
section
variable {P:Program} {X:Extern} {sz:Nat} {L L':Ks} {h h0:AH} {rs:List Rs} {ops:Array Oper} {os:List Oper} {o:Oper} {R:Ks→AH→Prop}
theorem cpy {x y:Operand} {ty ty2 e e':TypeId} {zc:List Value} {vd u:Value} {l m:List Int} {d:Tmp} (S:Hs h0 h (.sl vd e 1 eI l :: rs)) (hr:zo h u 1 eI m) (hc:zV u) (hl:1≤l.length) (hm:l.length≤m.length)
 (w:∀ h',Hs h0 h' (.sl vd e 1 eI (m.take l.length) :: rs)→KO P X sz ops os (L.put d (.int .i64 l.length)) h' R) (ho:o.op = .call { callee:=.builtin .copy,args:=#[x,y],argTypes:=#[ty,ty2] }:=by exact rfl) (hg:qo ops L.tree o.guard=some true:=by exact rfl)
 (hx:kA L x=some vd:=by exact rfl) (hy:kA L y=some u:=by exact rfl) (hs:qK P ty=some e':=by exact rfl) (hz:qN P e'=some zc:=by exact rfl) (hzl:zc.length=1:=by exact rfl) (hdst:o.dst=some d:=by exact rfl) (hds:Nat.blt d sz=true:=by exact rfl):KO P X sz ops (o :: os) L h R:=by
 obtain ⟨fp,k1,k2,k3⟩:=S.sep;rcases k1 with ⟨-,rfl⟩|⟨b,oo,cc,slk,cap,e1,g1,fb,t1,c1,s1⟩
 ·simp at hl
 rcases hr with ⟨-,h1,-⟩|⟨b2,o2,c2,cc2,e2,s2,r2,rfl,g2,t2⟩
 ·omega
 subst e1;obtain ⟨N,hN⟩:∃ N,l.length=N:=⟨_,rfl⟩
 rw [hN] at t1 c1 hx hl hm;have hmin:Nat.min m.length N=N:=by simp only [Nat.min_def];split<;>omega
 have hnew:(m.take N).flatMap eI=(m.flatMap eI).take (N*1):=(jQ (z:=1) (enc:=eI) (by intro _;rfl) m N)
 have hnl:((m.take N).flatMap eI).length=N:=by rw [qO (z:=1) (enc:=eI) (by intro _;rfl),zA9];omega
 have rsub:Rd h (.slice (some ⟨b2,o2,none⟩) (Nat.min m.length N) c2) 1 N ((m.take N).flatMap eI):=by
  rw [hmin];refine .inr ⟨b2,o2,c2,cc2,e2,s2,r2,rfl,g2,?_⟩;have:=jG (i:=0) (m:=N*1) t2 (by omega);rw [hnew];simpa using this
 have hsrc:=rsub.source;have hfit:oo+((m.take N).flatMap eI).length≤cc.length:=by rw [hnl];omega
 have hcap:m.length≤c2:=hc;have hone:((m.take N).flatMap eI).all one? = true:=by
  rw [zC8];intro x hx;obtain ⟨y,-,hy⟩:=zH0.1 hx;simp [eI] at hy
  subst hy;rfl
 rw [hmin] at hsrc;have hput:putCells h b oo cc e slk ((m.take N).flatMap eI)=some (h.put b (.cells (splice cc oo ((m.take N).flatMap eI)) e slk false)):=by
  unfold putCells;simp only [zB3 hfit,hone,zF9]
 refine qW (v:=.int .i64 N) (h':=h.put b (.cells (splice cc oo ((m.take N).flatMap eI)) e slk false)) hg ?_ (by simp only [qE,hdst,hds,hN]) (w _ ?_)
 ·rw [ho];have ha:Gx P ty (.slice (some ⟨b,oo,none⟩) N cap) (.slice (some ⟨b2,o2,none⟩) m.length c2) h=some (.int .i64 N,h.put b (.cells (splice cc oo ((m.take N).flatMap eI)) e slk false)):=by
   unfold Gx;simp only [hs,hz,hzl,zB3 hl,zB3 (show 1≤m.length by omega),zB3 hcap,zF9,hsrc,g1,hput,hmin]
  simp [zD,qB hx,qB hy,zY,zO,ha,ji]
 ·have hTl:(m.take N).length=N:=by rw [zA9];omega
  rw [hN] at S ⊢;refine S.turn .here (zA3 _) (S.wf.put (S.wf.lt g1) _) fun fq p1 p2=>?_;rcases p1 with ⟨p1,-⟩|⟨b3,o3,cc3,sl3,cap3,p1,-,p3,-⟩
  ·cases p1
  obtain rfl:b3=b:=by cases p1;rfl
  refine ⟨fun j _ hf=>by rw [AH.get_put,if_neg];intro q;subst q;exact hf p3,fun j=>j=b3,.inr ⟨b3,oo,_,slk,cap,by rw [hTl],by rw [AH.get_put,if_pos rfl],rfl,?_,⟨by rw [hTl];exact c1.1,?_⟩,s1⟩,fun j hj=>?_⟩
  ·rw [hTl];refine G8 (by rw [hnl];omega) ?_ fun j hj=>?_
   ·rw [qV _ _ _ hfit];omega
   ·rw [zK _ _ _ hfit,if_neg (by omega),if_pos (by omega)];congr 1;omega
  ·rw [qV _ _ _ hfit];exact c1.2
  ·subst hj;exact ⟨S.wf.lt g1,.inl p3⟩
end
abbrev JG {α:Type} (f:α→Rs) (l:List α):Rs:=.any (fun h fp=>Star h (l.map f) fp)
theorem Star.snoc_ {h:AH} {r:Rs} {fp:Fp} (hr:r.ok h fp):∀ {l:List Rs} {U:Fp},Star h l U→(∀ b,fp b→¬ U b)→Star h (l ++ [r]) (fun b=>U b∨fp b)
 | [],U,_,_=>⟨fp,hr,fun b hb=>.inr hb,trivial⟩
 | x :: l,U,⟨fx,h1,h2,h3⟩,hd=>⟨fx,h1,fun b hb=>.inl (h2 b hb),(Star.snoc_ hr h3 fun b hb q=>hd b hb q.1).mono fun b hb=>by
  rcases hb with hb|hb
  ·exact ⟨.inl hb.1,hb.2⟩
  ·exact ⟨.inr hb,fun q=>hd b hb (h2 b q)⟩⟩
section
variable {α:Type} {f:α→Rs} {h0 h:AH} {rs:List Rs} {gs:List α} {g:α}
theorem Hs.owNil (S:Hs h0 h rs):Hs h0 h (JG f [] :: rs):=S.anyS fun h'=>trivial
theorem Hs.owApp (S:Hs h0 h (f g :: JG f gs :: rs)):Hs h0 h (JG f (gs ++ [g]) :: rs):=by
 obtain ⟨f1,k1,k2,f2,k3,k4,k5⟩:=S.sep;refine ⟨S.ext,fun b=>f2 b∨f1 b,fun h' q=>?_,fun b hb=>?_,k5.mono fun b hb=>⟨trivial,fun q=>?_⟩⟩
 ·rw [zC9];exact Star.snoc_ (k1.local fun b hb=>q b (.inr hb)) (k3 h' fun b hb=>q b (.inl hb)) fun b hb q=>(k4 b q).2.2.2 hb
 ·rcases hb with hb|hb
  ·exact ⟨(k4 b hb).1,(k4 b hb).2.1,trivial⟩
  ·exact k2 b hb
 ·rcases q with q|q
  ·exact hb.2 q
  ·exact hb.1.2 q
theorem Star.get_ {r:Rs}:∀ {l:List Rs} {U:Fp},Star h l U→r∈l→∃ fp,r.ok h fp
 | x :: l,U,⟨fx,h1,h2,h3⟩,hr=>by
  rcases zE8.1 hr with rfl|hr
  ·exact ⟨fx,h1⟩
  ·exact Star.get_ h3 hr
theorem qdo {α:Type} {v:Value} {e:TypeId} {z:Nat} {enc:α→List Value} {l:List α} {h:AH} {fp:Fp} (k:(Rs.sl v e z enc l).ok h fp):zo h v z enc l:=by
 rcases k with ⟨rfl,rfl⟩|⟨b,o,cc,slk,cap,h1,h2,h3,h4,-⟩
 ·exact .inl ⟨rfl,rfl,rfl⟩
 ·exact .inr ⟨b,o,_,cc,e,slk,false,h1,h2,h4⟩
end
end Go.Proofs.Xx
