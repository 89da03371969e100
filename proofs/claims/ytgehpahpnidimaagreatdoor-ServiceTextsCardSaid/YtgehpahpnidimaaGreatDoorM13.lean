/-
  Strings that are cut and split;lines,words and numbers of a text.
-/
import Derived.Test.YtgehpahpnidimaaGreatDoorM12
import Derived.Test.YtgehpahpnidimaaGreatDoorM10
import Derived.Test.YtgehpahpnidimaaGreatDoorM9
set_option linter.unusedSimpArgs false
set_option linter.unusedVariables false
set_option linter.unusedSectionVars false
set_option maxRecDepth 100000
set_option maxHeartbeats 4000000
namespace Go.Proofs.Xx
open Go Go.Proofs
section
variable {P:Program} {X:Extern} {sz:Nat} {L:Ks} {h h0:AH} {rs:List Rs} {ops:Array Oper} {os:List Oper} {o:Oper} {R:Ks→AH→Prop}
theorem tsl {L':Ks} {x:Operand} {lo hi:Option Operand} {vlo vhi:Option Value} {ty:TypeId} {l:List UInt8} {a b:Nat} (w:KO P X sz ops os L' h R) (ho:o.op = .slice ty x lo hi none:=by exact rfl) (hg:qm ops L.tree o.guard=some true:=by exact rfl) (hx:kA L x=some (str l):=by exact rfl)
 (hlo:zO L.tree lo=some vlo:=by exact rfl) (hhi:zO L.tree hi=some vhi:=by exact rfl) (hu:P.underlying ty=some .string:=by exact rfl) (h1:qP vlo 0=some a:=by exact rfl) (h2:qP vhi l.length=some b:=by exact rfl) (hab:a≤b∧b≤l.length:=by first|omega|grind)
 (hp:qB sz L o.dst (str ((l.drop a).take (b - a)))=some L':=by exact rfl):KO P X sz ops (o :: os) L h R:=by
 refine qV hg ?_ hp w;have t1:Nat.ble a b=true:=zB3 hab.1;have t2:Nat.ble b l.length=true:=zB3 hab.2;rw [ho];have e:(⟨l.toArray⟩:ByteArray).data.toList=l:=rfl;simp only [zC,qA hx,hlo,hhi,show zO L.tree none=some none from rfl,zK,zo,str,hu,h1,h2,e,t1,t2,zF8,qH]
end
section
variable {P:Program} {X:Extern} {sz:Nat} {L:Ks} {h h0:AH} {rs:List Rs} {ops:Array Oper} {os:List Oper} {o:Oper} {R:Ks→AH→Prop}
theorem thA {α:Type} {x hi:Operand} {ty e:TypeId} {v vh:Value} {z:Nat} {enc:α→List Value} {l:List α} {f:Rs→List Rs} {dd:List Rs} {d:Tmp} (b:Nat) (S:Hs h0 h rs) (ho:o.op = .slice ty x none (some hi) none) (hx:kA L x=some v) [i:HasS rs v α e z enc l f dd]
 (w:KO P X sz ops os (L.put d v) h R) (hg:qm ops L.tree o.guard=some true:=by exact rfl) (hhi:kA L hi=some vh:=by exact rfl) (hbo:qP (some vh) l.length=some b:=by exact rfl) (hb:b=l.length:=by first|omega|grind)
 (hu:QT P ty=some z:=by exact rfl) (hdst:o.dst=some d:=by exact rfl) (hds:Nat.blt d sz=true:=by exact rfl):KO P X sz ops (o :: os) L h R:=by
 obtain ⟨fp,k1,k2,-⟩:=(i.ut (.sl v e z enc l)).ok (h':=h) S.ext.next (zA3 _) S.sep
 have hue:∃ e',P.underlying ty=some (.slice e')∧zq P e'=some z:=by
  unfold QT at hu;split at hu
  ·exact ⟨_,by assumption,hu⟩
  ·cases hu
 obtain ⟨e',hu1,hu2⟩:=hue;have hhi':zF L.tree hi=some vh:=qA hhi;have h0b:qP none 0=some 0:=rfl;have q1:zo P ty v none (some vh) none h=some v:=by
  subst hb;rcases k1 with ⟨rfl,rfl⟩|⟨bb,o',cc,slk,cap,g1,g2,g3,g4,g5,g6⟩
  ·have:qP (some vh) 0=some 0:=hbo;simp only [zo,hu1,hu2,this,h0b]
  ·subst g1;have t1:Nat.ble 0 l.length=true:=by simp
   have t2:Nat.ble l.length cap=true:=zB3 g5.1;cases hk:(slk.isNone && Nat.beq 0 cap) with
   | false=>simp only [zo,hu1,hu2,g2,h0b,hbo,t1,t2,hk,zF8,Nat.zero_mul,Nat.add_zero];rfl
   | true=>simp only [zo,hu1,hu2,g2,h0b,hbo,t1,t2,hk,zF8];rfl
 refine qV (v:=v) (h':=h) hg ?_ (by simp only [qB,hdst,hds]) w;rw [ho];simp only [zC,qA hx,zO,hhi',q1,qH,zK]
end
theorem index_one (c:UInt8):∀ s:List UInt8,Lib.index s [c]=Vt c s
 | []=>rfl
 | b :: l=>by
  unfold Lib.index Vt Qh;by_cases h:b=c
  ·subst h;simp [List.isPrefixOf]
  ·have h2:([c]:List UInt8).isPrefixOf (b :: l)=false:=by simp [List.isPrefixOf];exact fun q=>h q.symm
   rw [if_neg (by rw [h2];decide),if_neg h,index_one c l];unfold Vt;cases hq:Qh c l with
   | none=>simp
   | some m =>
    have:((m:Int) == -1)=false:=by rw [beq_eq_false_iff_ne];omega
    simp [this]
variable [Flag]
theorem qcj (c:UInt8):((c.toNat:Int).toNat).toUInt8=c:=by simp
theorem qc8 {h0:AH} (s:List UInt8) (c:UInt8):Fn Tryz.prog Xh 67 [str s,.int .u8 (c.toNat:Int)] h0 (fun v h'=>v = .int .i64 (qaw c s:Nat)∧h'=h0) :=
 Zd (v:=.int .i64 (qaw ((c.toNat:Int).toNat).toUInt8 s:Nat)) rfl ⟨by rw [qcj],rfl⟩
theorem Y6 {h0:AH} (s sep:List UInt8) (hs:s.length<4294967281):Fn Tryz.prog Xh 124 [str s,str sep] h0 (fun v h'=>v = .int .i64 (Lib.index s sep)∧h'=h0) :=
 Zd (v:=.int .i64 (Lib.index s sep)) (by show (if s.length<4294967281 then _ else _)=_;rw [if_pos hs]) ⟨rfl,rfl⟩
theorem Gi {h0:AH} (s sep:List UInt8) (hs:s.length<4294967281):Fn Tryz.prog Xh 68 [str s,str sep] h0 (fun v h'=>v = .int .i64 (Lib.index s sep)∧h'=h0):=by
 refine qF (by first|rfl) Tryz.func68 rfl rfl ?_;all_goals (repeat' (first|refine qg ?_|(refine qc 0 ?_;refine mv ?_;refine qf ?_)|(refine qc 1 ?_;refine mv ?_;refine mv ?_)))
 (refine qo rfl rfl rfl rfl rfl ((Y6 s sep hs).mono ?_);rintro _ _ ⟨rfl,rfl⟩)<;>(refine mv ?_;refine qf ?_)
 all_goals (repeat' (fail))
 refine qi ⟨_,rfl,?_⟩;exact ⟨rfl,rfl⟩
theorem PW {h0:AH} (s sep:List UInt8) (hl:sep.length=1) (hs:s.length≤1000000):Fn Tryz.prog Xh 68 [str s,str sep] h0 (fun v h'=>v = .int .i64 (Vt (sep.getD 0 0) s)∧h'=h0) :=
 (Gi s sep (by omega)).mono fun v h' q=>by
  match sep,hl with
  | [c],_=>exact ⟨q.1.trans (by rw [index_one];rfl),q.2⟩
theorem PX {h0:AH} (s sep:List UInt8) (hl:sep.length=1):Fn Tryz.prog Xh 19 [str s,str sep] h0 (fun v h'=>v = .int .i64 (qaw (sep.getD 0 0) s:Nat)∧h'=h0):=by
 refine qF (by first|rfl) Tryz.func19 rfl rfl ?_;all_goals (repeat' (first|refine qg ?_|refine qh rfl ?_|refine qj ?_|(refine qc 0 ?_;refine mv ?_;refine qf ?_)|(refine qc 1 ?_;refine mv ?_;refine tl ?_;(refine cF ?_)<;>(refine qf ?_))|(refine qc 3 ?_;refine mv ?_;refine tl ?_;(refine cT ?_)<;>(refine qf ?_))|(refine qc 4 ?_;refine mv ?_;refine mv ?_;refine ti ?_)))
 all_goals (try (exfalso;omega))
 (refine qo rfl rfl rfl rfl rfl ((qc8 s (sep.getD 0 0)).mono ?_);rintro _ _ ⟨rfl,rfl⟩)<;>(refine mv ?_;refine qf ?_)
 all_goals (repeat' (fail))
 refine qi ⟨_,rfl,?_⟩;exact ⟨rfl,rfl⟩
theorem qaq {c:UInt8} {s:List UInt8} (h:Qh c s=none):Vt c s = -1:=by unfold Vt;rw [h]
theorem yu {c:UInt8} {s:List UInt8} {m:Nat} (h:Qh c s=some m):Vt c s=m:=by unfold Vt;rw [h]
theorem Xi {α:Type} {l:List α} {i:Nat} (h:i<l.length) (x:α):(l.set i x).take (i+1)=l.take i ++ [x]:=by
 rw [List.take_add_one,List.getElem?_set_self h,List.take_set_of_le (zA3 _)];rfl
theorem gz {h0:AH} (w:WfH h0) (s sep:List UInt8) (hl:sep.length=1) (hs:s.length≤1000000):Fn Tryz.prog Xh 178 [str s,str sep,.int .i64 0,.int .i64 (-1)] h0 (fun v h'=>Hs h0 h' [.sl v 9 1 eS (ji (sep.getD 0 0) s)]):=by
 have S:=Hs.start w;have hne:sep≠[]:=fun q=>by rw [q] at hl;cases hl
 generalize hc0:sep.getD 0 0=c
 have hlen:=Ql c s;have hcs:s.countP (· == c)≤s.length:=List.countP_le_length;obtain ⟨n,hn⟩:∃ n,(ji c s).length=n:=⟨_,rfl⟩
 refine qF (by first|rfl) Tryz.func178 rfl rfl ?_;all_goals (repeat' (first|refine qg ?_|refine qh rfl ?_|refine qj ?_|(refine qc 0 ?_;refine mv ?_;refine qf ?_)|(refine qc 1 ?_;refine mv ?_;(refine cF ?_)<;>(refine qf ?_))|(refine qc 3 ?_;refine mv ?_;(refine tS ?_ ?_<;>intro hc)<;>(refine qf ?_))|(refine qc 4 ?_;refine mv ?_;refine mv ?_)|(refine qc 5 ?_;refine mv ?_;(refine cT ?_)<;>(refine qf ?_))|(refine qc 6 ?_;refine mv ?_;refine mv ?_)))
 ·exact absurd hc hne
 have hcb:qaw (sep.getD 0 0) s=s.countP (· == c):=by rw [hc0];rfl
 (refine qo rfl rfl rfl rfl rfl ((PX s sep hl).mono ?_);rintro _ h0 ⟨rfl,rfl⟩)<;>((refine ad ?_);refine mv ?_;refine qf ?_)
 rw [hc0];rw [hc0] at hcb;all_goals (repeat' (first|refine qg ?_|(refine qc 7 ?_;refine mv ?_;refine mv ?_;refine tl ?_;refine ad ?_;refine mn ?_;refine mv ?_;refine qf ?_)|(refine qc 8 ?_;refine mv ?_)))
 have e1:min ((qaw c s:Nat)+1:Int) ((s.length:Int)+1)=n:=by omega
 simp only [e1];refine qd6 (z:=1) (by_:=16) (enc:=eS) (y0:=[]) S rfl rfl rfl rfl rfl rfl rfl rfl rfl (by intro _;rfl) (by first|omega) rfl rfl ?_;clear S;intro v h S;refine mv ?_;refine qf ?_;all_goals (repeat' (first|refine qg ?_|refine ql ?_|(refine qc 9 ?_;refine mv ?_;refine sb ?_;refine mv ?_;refine qf ?_)|(refine qc 10 ?_;refine mv ?_;refine qf ?_)))
 simp only [zA0] at S;refine qG (σ:=Nat×List UInt8×List (List UInt8)) (fun (i,t,l) h'=>Hs h0 h' [.sl v 9 1 eS l]∧l.length=n∧i+(ji c t).length=n∧ji c s=l.take i ++ ji c t∧t.length≤1000000) (fun (i,t,l)=>n - i) (fun (i,t,l)=>[(0,str t),(1,str sep),(2,.int .i64 0),(3,.int .i64 ((n:Int) - 1)),(9,v),(10,.int .i64 i)]) (0,s,List.replicate n []) qw ?_ ?_
 ·exact ⟨S,by simp,by omega,by simp,hs⟩
 clear S;rintro ⟨i,t,l⟩ h ⟨S,h1,h2,h3,h4⟩;have hp:0<(ji c t).length:=List.length_pos_iff.2 (Z4 c t);all_goals (repeat' (first|refine qg ?_|refine qh rfl ?_|refine qj ?_|refine qx ?_|refine ql ?_|(refine qc 11 ?_;refine mv ?_;refine mv ?_;(first|(refine cS ?_ ?_<;>intro hc))<;>(refine qf ?_))|(refine qc 12 ?_;refine mv ?_;refine mv ?_)|(refine qc 17 ?_;(iterate 3 refine mv ?_);refine Xc S rfl rfl ?_;(first|(refine sE2 S rfl rfl ?_;clear S;intro h S));refine qf ?_)|(refine qc 18 ?_;refine mv ?_;refine mv ?_;refine ad ?_)))
 ·have hi:i+1<n:=by omega
  (refine qo rfl rfl rfl rfl rfl ((PW t sep hl h4).mono ?_);rintro _ h ⟨rfl,rfl⟩)<;>(refine mv ?_;refine qf ?_)
  rw [hc0];rcases hf:Qh c t with _|m
  ·exfalso
   rw [X3 (XE.1 hf)] at h2;simp at h2;omega
  ·rw [yu hf];obtain ⟨m1,m2,m3⟩:=Zb hf;have m4:=wZ hf;all_goals (repeat' (first|refine qg ?_|refine qh rfl ?_|refine qj ?_|(refine qc 13 ?_;refine mv ?_;(refine cF ?_)<;>(refine qf ?_))|(refine qc 14 ?_;(iterate 5 refine mv ?_);refine ad ?_;refine tsl ?_;refine Xc S rfl rfl ?_;(first|(refine sE2 S rfl rfl ?_;clear S;intro h S));refine qf ?_)|(refine qc 15 ?_;(iterate 3 refine mv ?_);refine tl ?_;refine ad ?_;refine tsl ?_;refine mv ?_;refine qf ?_)|(refine qc 16 ?_;refine mv ?_;refine ad ?_;refine mv ?_;refine qf ?_)))
   have e1:(t.drop (m+sep.length)).take (t.length - (m+sep.length))=t.drop (m+1):=by rw [hl,zF7 (by simp)]
   have e2:(t.drop 0).take (m+0 - 0)=t.take m:=by simp
   rw [e1,e2];rw [e2] at S;refine ⟨(i+1,t.drop (m+1),l.set i (t.take m)),?_,?_,qw⟩
   ·show n - (i+1)<n - i;omega
   ·rw [m4] at h2 h3;simp only [zC4] at h2;(try simp only [zA0] at S);refine ⟨by simpa using S,by simpa using h1,by omega,?_,by simp;omega⟩;rw [h3,Xi (by omega)];simp
 ·have hi:i+1=n:=by omega
  obtain ⟨u,hu⟩:∃ u,ji c t=[u]:=by
   match hq:ji c t with
   | []=>exact absurd hq (Z4 c t)
   | [u]=>exact ⟨u,rfl⟩
   | u :: u2 :: r=>rw [hq] at h2;simp at h2;omega
  obtain ⟨rfl,-⟩:=qcr hu;all_goals (repeat' (fail))
  (try simp only [zA0] at S)
  have e:(l.set i t)=ji c s:=by
   rw [h3,hu,← Xi (by omega),zF7 (by simp;omega)]
  rw [e] at S;refine thA (i+1) S rfl rfl ?_;refine mv ?_;refine qf ?_;all_goals (repeat' (fail))
  refine qi ⟨_,rfl,?_⟩;exact S
theorem split_ok {h0:AH} (w:WfH h0) (s sep:List UInt8) (hl:sep.length=1) (hs:s.length≤1000000):Fn Tryz.prog Xh 120 [str s,str sep] h0 (fun v h'=>Hs h0 h' [.sl v 9 1 eS (ji (sep.getD 0 0) s)]):=by
 have S:=Hs.start w;refine qF (by first|rfl) Tryz.func120 rfl rfl ?_;all_goals (repeat' (first|refine qg ?_|(refine qc 0 ?_;refine mv ?_;refine qf ?_)|(refine qc 1 ?_;refine mv ?_;refine mv ?_)))
 (refine qo rfl rfl rfl rfl rfl ((gz S.wf s sep hl hs).mono ?_);rintro v h x)<;>(replace S:=S.join1 x;clear x;refine mv ?_;refine qf ?_)
 all_goals (repeat' (fail))
 refine qi ⟨_,rfl,?_⟩;exact S
def cutV (c:UInt8) (s:List UInt8):Value:=match Qh c s with
 | some m=>.tuple #[str (s.take m),str (s.drop (m+1)),.bool true]
 | none=>.tuple #[str s,str [],.bool false]
theorem ku {h0:AH} (s sep:List UInt8) (hl:sep.length=1) (hs:s.length≤1000000):Fn Tryz.prog Xh 124 [str s,str sep] h0 (fun v h'=>v = .int .i64 (Vt (sep.getD 0 0) s)∧h'=h0) :=
 (Y6 s sep (by omega)).mono fun v h' q=>by
  match sep,hl with
  | [c],_=>exact ⟨q.1.trans (by rw [index_one];rfl),q.2⟩
theorem kw {h0:AH} (s sep:List UInt8) (hl:sep.length=1) (hs:s.length≤1000000):Fn Tryz.prog Xh 119 [str s,str sep] h0 (fun v h'=>v=cutV (sep.getD 0 0) s∧h'=h0):=by
 refine qF (by first|rfl) Tryz.func119 rfl rfl ?_;all_goals (repeat' (first|refine qg ?_|(refine qc 0 ?_;(iterate 3 refine mv ?_);refine qf ?_)|(refine qc 1 ?_;refine mv ?_;refine mv ?_)))
 (refine qo rfl rfl rfl rfl rfl ((ku s sep hl hs).mono ?_);rintro _ _ ⟨rfl,rfl⟩)<;>(refine mv ?_;refine qf ?_)
 rcases hf:Qh (sep.getD 0 0) s with _|m
 ·rw [qaq hf,show cutV (sep.getD 0 0) s = .tuple #[str s,str [],.bool false] by unfold cutV;rw [hf]];all_goals (repeat' (first|refine qg ?_|refine qh rfl ?_|refine qj ?_|(refine qc 2 ?_;refine mv ?_;(refine cF ?_)<;>(refine qf ?_))|(refine qc 4 ?_;(iterate 4 refine mv ?_);refine qf ?_)))
  refine qi ⟨_,rfl,?_⟩;exact ⟨rfl,rfl⟩
 ·rw [yu hf,show cutV (sep.getD 0 0) s = .tuple #[str (s.take m),str (s.drop (m+1)),.bool true] by unfold cutV;rw [hf]];have hm:=(Zb hf).1;all_goals (repeat' (first|refine qg ?_|refine qh rfl ?_|(refine qc 2 ?_;refine mv ?_;(refine cT ?_)<;>(refine qf ?_))|(refine qQ 3 ?_;refine mv ?_;refine mv ?_;refine tsl ?_;(iterate 3 refine mv ?_);refine tl ?_;refine ad ?_;refine tsl ?_;(iterate 3 refine mv ?_);refine qf ?_)))
  refine qi ⟨_,rfl,?_⟩;refine ⟨?_,rfl⟩;have e:(s.drop (m+1)).take (s.length - (m+1))=s.drop (m+1):=zF7 (by simp);simp [zG,hl,e]
theorem pR {h0:AH} (s sep:List UInt8) (hl:sep.length=1) (hs:s.length≤1000000):Fn Tryz.prog Xh 62 [str s,str sep] h0 (fun v h'=>v=cutV (sep.getD 0 0) s∧h'=h0):=by
 refine qF (by first|rfl) Tryz.func62 rfl rfl ?_;all_goals (repeat' (first|refine qg ?_|(refine qc 0 ?_;(iterate 3 refine mv ?_);refine qf ?_)|(refine qc 1 ?_;refine mv ?_;refine mv ?_)))
 rcases hf:Qh (sep.getD 0 0) s with _|m
 ·have e:cutV (sep.getD 0 0) s = .tuple #[str s,str [],.bool false]:=by unfold cutV;rw [hf]
  (refine qo rfl rfl rfl rfl rfl ((kw s sep hl hs).mono ?_);rintro _ _ ⟨hv,rfl⟩)<;>(rw [e] at hv;subst hv;refine vl ?_;refine vl ?_;refine vl ?_;(iterate 3 refine mv ?_);refine qf ?_)
  rw [e];all_goals (repeat' (fail))
  refine qi ⟨_,rfl,?_⟩;exact ⟨rfl,rfl⟩
 ·have e:cutV (sep.getD 0 0) s = .tuple #[str (s.take m),str (s.drop (m+1)),.bool true]:=by unfold cutV;rw [hf]
  (refine qo rfl rfl rfl rfl rfl ((kw s sep hl hs).mono ?_);rintro _ _ ⟨hv,rfl⟩)<;>(rw [e] at hv;subst hv;refine vl ?_;refine vl ?_;refine vl ?_;(iterate 3 refine mv ?_);refine qf ?_)
  rw [e];all_goals (repeat' (fail))
  refine qi ⟨_,rfl,?_⟩;exact ⟨rfl,rfl⟩
theorem qcK {h0:AH} (w:WfH h0) (v:Value) (l:List (List UInt8)) (r:qY h0 v 1 eS l) (hl:l.length≤1000000) (n:List UInt8):Fn Tryz.prog Xh 179 [v,str n] h0 (fun u h'=>((u = .int .i64 (-1)∧¬ n∈l)∨∃ i:Nat,u = .int .i64 i∧i≤1000000∧n∈l)∧Hs h0 h' []):=by
 have S:=Hs.start w;refine qF (by first|rfl) Tryz.func179 rfl rfl ?_;all_goals (repeat' (first|refine qg ?_|refine ql ?_|(refine qc 0 ?_;refine mv ?_;refine qf ?_)|(refine qc 1 ?_;refine mv ?_;refine zT S ?_;refine mv ?_;refine qf ?_)))
 refine qG (σ:=Nat) (fun i h'=>Hs h0 h' []∧i≤l.length∧∀ j,j<i→l.getD j default≠n) (fun i=>l.length - i) (fun i=>[(0,v),(1,str n),(7,.int .i64 l.length),(8,.int .i64 i)]) 0 qw ?_ ?_
 ·exact ⟨S,zB0 _,fun j hj=>absurd hj (zB7 _)⟩
 clear S;rintro i h ⟨S,g1,g2⟩;all_goals (repeat' (first|refine qg ?_|refine qh rfl ?_|refine qj ?_|refine qx ?_|refine ql ?_|(refine qc 2 ?_;(first|(refine cS ?_ ?_<;>intro hc))<;>(refine qf ?_))|(refine qc 3 ?_;refine mv ?_;refine mv ?_;refine qf ?_)|(refine qc 4 ?_;(iterate 3 refine mv ?_);refine jB S ?_;refine jA S ?_;(refine tS ?_ ?_<;>intro hc)<;>(refine qf ?_))|(refine qc 5 ?_;refine mv ?_;refine mv ?_;refine qf ?_)|(refine qc 6 ?_;refine ad ?_;refine mv ?_;refine qf ?_)|(refine qc 7 ?_;refine mv ?_;refine qf ?_)))
 all_goals (try simp only [zA0] at *)
 ·refine qi ⟨_,rfl,?_⟩;have hm:=qL (show i<l.length by omega);exact ⟨.inr ⟨i,rfl,by omega,by rw [hc];exact hm⟩,S⟩
 ·refine ⟨i+1,?_,?_,qw⟩
  ·show l.length - (i+1)<l.length - i;omega
  ·exact ⟨S,by omega,jr g2 fun q=>hc q.symm⟩
 ·refine qi ⟨_,rfl,?_⟩;refine ⟨.inl ⟨rfl,fun q=>?_⟩,S⟩;obtain ⟨j,h1,h2⟩:=qR.1 q;exact g2 j (by omega) h2
theorem qc7 {h0:AH} (w:WfH h0) (v:Value) (l:List (List UInt8)) (r:qY h0 v 1 eS l) (hl:l.length≤1000000) (n:List UInt8):Fn Tryz.prog Xh 121 [v,str n] h0 (fun u h'=>qI u (n∈l)∧Hs h0 h' []):=by
 have S:=Hs.start w;refine qF (by first|rfl) Tryz.func121 rfl rfl ?_;all_goals (repeat' (first|refine qg ?_|(refine qc 0 ?_;refine mv ?_;refine qf ?_)|(refine qc 1 ?_;refine mv ?_;refine mv ?_)))
 (refine qo rfl rfl rfl rfl rfl ((qcK S.wf v l (r.ext w S.ext) hl n).mono ?_);rintro _ h ⟨⟨rfl,z⟩|⟨i,rfl,z1,z⟩,x⟩)<;>(replace S:=S.join0 x;clear x;(first|refine cT ?_|refine cF ?_)<;>(refine mv ?_;refine qf ?_))
 ·all_goals (repeat' (fail))
  refine qi ⟨_,rfl,?_⟩;exact ⟨.inr ⟨rfl,z⟩,S⟩
 ·skip
  all_goals (repeat' (fail))
  refine qi ⟨_,rfl,?_⟩;exact ⟨.inl ⟨rfl,z⟩,S⟩
def qf4 (s:List UInt8) (k:Int) (b:Bool):Prop:=(b=true∧Vq s∧k=zJ s)∨(b=false∧¬ Vq s)
theorem pF {x c:UInt8} (h:(x.toNat:Int)=c.toNat):x=c:=UInt8.toNat.inj (by omega)
theorem pq {s:List UInt8} {i:Nat} (h:∀ j,j<i→Xe (s.getD j default)) (hi:i≤9∧i≤s.length):zJ (s.take i)<1000000000:=by
 have key:∀ k,k≤i→zJ (s.take k)<10 ^ k:=fun k hk=>by
  induction k with
  | zero=>simp [zJ]
  | succ k ih =>
   have:=ih (by omega);have d:=h k (by omega);unfold Xe at d;rw [Yx (by omega),Nat.pow_succ];omega
 have h1:=key i (zA3 _);have h2:10 ^ i≤10 ^ 9:=Nat.pow_le_pow_right (by decide) hi.1;omega
theorem Wq {h0:AH} (w:WfH h0) (s:List UInt8) (hs:s.length≤1000000):Fn Tryz.prog Xh 103 [str s] h0 (fun v h'=>∃ k b,v = .tuple #[.int .i64 k,.bool b]∧qf4 s k b∧Hs h0 h' []):=by
 have S:=Hs.start w;refine qF (by first|rfl) Tryz.func103 rfl rfl ?_;all_goals (repeat' (first|refine qg ?_|(refine qc 0 ?_;refine mv ?_;refine mv ?_;refine qf ?_)))
 (repeat (refine qg ?_));first|refine zL (σ:=Unit) (fun _ h'=>Hs h0 h' []∧1≤s.length∧s.length≤9) (fun _=>[(0,str s)]) ?_ ?_
 ·all_goals (repeat' (first|refine qg ?_|refine qh rfl ?_|refine qj ?_|(refine qc 1 ?_;refine mv ?_;refine tl ?_;(first|(refine cS ?_ ?_<;>intro hc))<;>(refine mv ?_;(first|refine off ?_|refine mv ?_);(first|refine off ?_|refine tl ?_);(first|refine off ?_|(first|(refine cS ?_ ?_<;>intro hc)))<;>(refine vl ?_;refine qf ?_)))|(refine qc 2 ?_;refine mv ?_;refine mv ?_;refine qf ?_)))
  ·refine qi ⟨_,rfl,?_⟩;exact ⟨0,false,rfl,.inr ⟨rfl,fun q=>by have:=q.1;omega⟩,S⟩
  ·refine qi ⟨_,rfl,?_⟩;exact ⟨0,false,rfl,.inr ⟨rfl,fun q=>by have:=q.2.1;omega⟩,S⟩
  ·exact ⟨(),⟨S,by omega,by omega⟩,(qw)⟩
 clear S;rintro - h ⟨S,l1,l2⟩;all_goals (repeat' (first|refine qg ?_|refine ql ?_|(refine qc 3 ?_;refine mv ?_;refine qf ?_)|(refine qc 4 ?_;refine mv ?_;refine qf ?_)))
 refine qG (σ:=Nat) (fun i h'=>Hs h0 h' []∧i≤s.length∧(∀ j,j<i→Xe (s.getD j default))∧(1<i→s.getD 0 default≠48)) (fun i=>s.length - i) (fun i=>[(0,str s),(4,.int .i64 (zJ (s.take i):Nat)),(5,.int .i64 i)]) 0 qw ?_ ?_
 ·exact ⟨S,zB0 _,fun j hj=>absurd hj (zB7 _),fun q=>by omega⟩
 clear S;rintro i h ⟨S,h1,h2,h3⟩;have hb:=pq (s:=s) h2 (by omega);all_goals (repeat' (first|refine qg ?_|refine qh rfl ?_|refine qj ?_|refine qx ?_|refine ql ?_|(refine qc 5 ?_;refine mv ?_;refine mv ?_;refine tl ?_;(first|(refine cS ?_ ?_<;>intro hc))<;>(refine qf ?_))|(refine qc 7 ?_;refine mv ?_;refine mv ?_;refine ti ?_;(first|(refine cS ?_ ?_<;>intro hc))<;>(refine mv ?_;(first|refine off ?_|refine mv ?_);(first|refine off ?_|refine mv ?_);(first|refine off ?_|(refine ti ?_));(first|refine off ?_|(first|(refine cS ?_ ?_<;>intro hc)))<;>(refine vl ?_;refine mv ?_;(first|refine off ?_|refine mv ?_);(first|refine off ?_|(first|(refine cS ?_ ?_<;>intro hc)))<;>((first|refine off ?_|refine mv ?_);(first|refine off ?_|refine mv ?_);(first|refine off ?_|(refine ti ?_));(first|refine off ?_|(first|(refine cS ?_ ?_<;>intro hc)))<;>((first|refine off ?_|refine vl ?_);refine vl ?_;refine qf ?_)))))|(refine qc 8 ?_;refine mv ?_;refine mv ?_;refine qf ?_)))
 ·(try simp only [zA0] at *)
  refine qi ⟨_,rfl,?_⟩;exact ⟨0,false,rfl,.inr ⟨rfl,fun q=>by have:=q.2.2.2 i (by omega);unfold Xe at this;rw [Qk] at this;omega⟩,S⟩
 ·(try simp only [zA0] at *)
  refine qi ⟨_,rfl,?_⟩;exact ⟨0,false,rfl,.inr ⟨rfl,fun q=>by have:=q.2.2.2 i (by omega);unfold Xe at this;rw [Qk] at this;omega⟩,S⟩
 ·refine qi ⟨_,rfl,?_⟩;have hz:=pF (c:=48) hc;exact ⟨0,false,rfl,.inr ⟨rfl,fun q=>q.2.2.1 (by omega) hz⟩,S⟩
 rotate_left 2
 ·have hi:i=s.length:=by omega
  subst hi;rw [zD4];all_goals (repeat' (first|(refine qc 10 ?_;(iterate 3 refine mv ?_);refine qf ?_)))
  refine qi ⟨_,rfl,?_⟩;exact ⟨_,true,rfl,.inl ⟨rfl,⟨l1,l2,h3,h2⟩,rfl⟩,S⟩
 all_goals
  have h3':1<i+1→s.getD 0 default≠48:=by
   first
    | exact fun _ q=>hc (by rw [show s.getD (Int.toNat 0) 0=s.getD 0 default from rfl,q];rfl)
    | exact fun q=>h3 (by omega)
  all_goals (repeat' (first|(refine qc 6 ?_;refine mv ?_;refine ad ?_;refine mv ?_;refine qf ?_)|(refine qc 9 ?_;refine mv ?_;refine ml ?_;refine mv ?_;refine mv ?_;refine ti ?_;refine cI ?_;refine ad ?_;refine sb ?_;refine mv ?_;refine qf ?_)))
  (try simp only [zA0] at *)
  have hi:i<s.length:=by omega
  have hd:Xe (s.getD i default):=by unfold Xe;rw [Qk];omega
  have e:=Yx hi;rw [Qk] at e;have e2:(10:Int)*(zJ (s.take i):Nat)+((s.getD i 0).toNat:Int) - 48=(zJ (s.take (i+1)):Nat):=by
   unfold Xe at hd;rw [Qk] at hd;omega
  rw [e2];refine ⟨i+1,?_,?_,qw⟩
  ·show s.length - (i+1)<s.length - i;omega
  ·exact ⟨S,by omega,jr h2 hd,h3'⟩
theorem wY {c:UInt8} {s:List UInt8} {i:Nat} (h:i<s.length):ji c (s.drop i)=if s.getD i 0=c then [] :: ji c (s.drop (i+1)) else Yc [s.getD i 0] (ji c (s.drop (i+1))):=by
 rw [zG6 h];have e:s.getD i 0=s[i]:=by simp [zA2,h]
 rw [e];rfl
theorem qcs {c:UInt8} {s:List UInt8}:ji c (s.drop s.length)=[[]]:=by rw [List.drop_length];rfl
theorem xY {a w:List UInt8} {r:List (List UInt8)}:Yc a (w :: r)=(a ++ w) :: r:=rfl
def PcsL (c:UInt8) (s:List UInt8) (st i:Nat) (out:List (List UInt8)):Prop:=st≤i∧i≤s.length∧ji c s=out ++ Yc ((s.drop st).take (i - st)) (ji c (s.drop i))∧out.length≤i
theorem take_snoc {s:List UInt8} {st i:Nat} (h1:st≤i) (h2:i<s.length):(s.drop st).take (i+1 - st)=(s.drop st).take (i - st) ++ [s.getD i 0]:=by
 rw [show i+1 - st=(i - st)+1 by omega,List.take_add_one,zC3,show st+(i - st)=i by omega,zA4 h2];simp [zA2,h2]
theorem PcsL.zero (c:UInt8) (s:List UInt8):PcsL c s 0 0 []:=⟨zA3 _,zB0 _,by rw [zC0,zG5,List.take_zero,kM (Z4 _ _),List.drop_zero],zA3 _⟩
theorem PcsL.no {c:UInt8} {s:List UInt8} {st i:Nat} {out:List (List UInt8)} (p:PcsL c s st i out) (hi:i<s.length) (hx:¬ s.getD i 0=c):PcsL c s st (i+1) out:=by
 obtain ⟨p1,p2,p3,p4⟩:=p;rw [wY hi,if_neg hx,qae (Z4 _ _),← take_snoc p1 hi] at p3;exact ⟨by omega,hi,p3,by omega⟩
theorem PcsL.yes {c:UInt8} {s:List UInt8} {st i:Nat} {out:List (List UInt8)} (p:PcsL c s st i out) (hi:i<s.length) (hx:s.getD i 0=c):ji c s=out ++ (s.drop st).take (i - st) :: ji c (s.drop (i+1))∧PcsL c s (i+1) (i+1) (out ++ [(s.drop st).take (i - st)]):=by
 obtain ⟨p1,p2,p3,p4⟩:=p;rw [wY hi,if_pos hx,xY,zD7] at p3;exact ⟨p3,zA3 _,hi,by rw [zG5,List.take_zero,kM (Z4 _ _),zF1];exact p3,by simp;omega⟩
theorem PcsL.fin {c:UInt8} {s:List UInt8} {st:Nat} {out:List (List UInt8)} (p:PcsL c s st s.length out):ji c s=out ++ [s.drop st]:=by
 obtain ⟨p1,p2,p3,p4⟩:=p;rw [qcs,xY,zD7,zF7 (by simp)] at p3;exact p3
theorem qdu {x c:UInt8} (h:¬ (x.toNat:Int)=c.toNat):¬ x=c:=fun q=>h (by rw [q])
theorem P7 {h0:AH} (w:WfH h0) (s:List UInt8) (hs:s.length≤100000):Fn Tryz.prog Xh 101 [str s] h0 (fun v h'=>∃ u b l,v = .tuple #[u,.bool b]∧((b=false∧∃ ini w,l=ini ++ [w]∧ji 10 s=l∧w≠[])∨(b=true∧ji 10 s=l ++ [[]]))∧Hs h0 h' [.sl u 9 1 eS l]):=by
 have S:=Hs.start w;refine qF (by first|rfl) Tryz.func101 rfl rfl ?_;all_goals (repeat' (first|refine qg ?_|refine ql ?_|(refine qc 0 ?_;refine mv ?_;refine mv ?_;refine qf ?_)|(refine qc 1 ?_;refine mv ?_;refine qf ?_)|(refine qc 2 ?_;refine mv ?_;refine qf ?_)|(refine qc 3 ?_;refine mv ?_;refine qf ?_)))
 refine qG (σ:=Nat×Nat×List (List UInt8)×Value) (fun (i,st,out,vo) h'=>Hs h0 h' [.sl vo 9 1 eS out]∧PcsL 10 s st i out) (fun (i,st,out,vo)=>s.length - i) (fun (i,st,out,vo)=>[(0,str s),(4,vo),(5,.int .i64 st),(6,.int .i64 i)]) (0,0,[],.slice none 0 0) qw ?_ ?_
 ·exact ⟨S.nilS,.zero _ _⟩
 clear S;rintro ⟨i,st,out,vo⟩ h ⟨S,P⟩;have p1:=P.1;have p2:=P.2.1;have p4:=P.2.2.2;all_goals (repeat' (first|refine qg ?_|refine qh rfl ?_|refine qj ?_|refine qx ?_|refine ql ?_|(refine qc 4 ?_;refine mv ?_;refine mv ?_;refine tl ?_;(first|(refine cS ?_ ?_<;>intro hc))<;>(refine qf ?_))|(refine qc 6 ?_;refine mv ?_;refine mv ?_;refine ti ?_;(first|(refine cS ?_ ?_<;>intro hc))<;>(refine qf ?_))))
 ·have hi:i<s.length:=by omega
  (try simp only [zA0] at *)
  obtain ⟨-,P2⟩:=P.yes hi (pF (c:=10) hc);all_goals (repeat' (first|(refine qc 7 ?_;(iterate 4 refine mv ?_);refine tsl ?_;(refine one 1 S ?_;clear S;intro u h S))))
  refine app (y0:=((s.drop st).take (i - st))) S rfl rfl ?_;clear S;intro v h S;refine mv ?_;refine qf ?_;all_goals (repeat' (first|(refine qc 5 ?_;refine mv ?_;refine ad ?_;refine mv ?_;refine qf ?_)|(refine qc 8 ?_;refine mv ?_;refine ad ?_;refine mv ?_;refine qf ?_)))
  refine ⟨(i+1,i+1,out ++ [(s.drop st).take (i - st)],v),?_,?_,qw⟩
  ·show s.length - (i+1)<s.length - i;omega
  ·exact ⟨S,P2⟩
 ·have hi:i<s.length:=by omega
  (try simp only [zA0] at *)
  all_goals (repeat' (first|(refine qc 5 ?_;refine mv ?_;refine ad ?_;refine mv ?_;refine qf ?_)))
  refine ⟨(i+1,st,out,vo),?_,?_,qw⟩
  ·show s.length - (i+1)<s.length - i;omega
  ·exact ⟨S,P.no hi (qdu hc)⟩
 ·obtain rfl:i=s.length:=by omega
  have p3:=P.fin;have e:(s.drop st).take (s.length - st)=s.drop st:=zF7 (by simp);all_goals (repeat' (first|refine qg ?_|refine qh rfl ?_|refine qj ?_|(refine qc 9 ?_;refine mv ?_;refine mv ?_;refine tl ?_;(first|(refine cS ?_ ?_<;>intro hc))<;>(refine qf ?_))|(refine qc 10 ?_;(iterate 3 refine mv ?_);refine tsl ?_;(refine one 1 S ?_;clear S;intro u h S))|(refine qc 11 ?_;(iterate 3 refine mv ?_);refine qf ?_)))
  ·refine app (y0:=((s.drop st).take (s.length - st))) S rfl rfl ?_;clear S;intro v h S;refine mv ?_;refine mv ?_;refine qf ?_;rw [e] at S;all_goals (repeat' (fail))
   refine qi ⟨_,rfl,?_⟩;have hl:0<(s.drop st).length:=by simp;omega
   exact ⟨_,false,_,rfl,.inl ⟨rfl,out,s.drop st,rfl,p3,fun q=>by rw [q] at hl;simp at hl⟩,S⟩
  ·refine qi ⟨_,rfl,?_⟩;have hn:s.drop st=[]:=List.drop_of_length_le (by omega);rw [hn] at p3;exact ⟨_,true,_,rfl,.inr ⟨rfl,p3⟩,S⟩
theorem PY {h0:AH} (w:WfH h0) (s:List UInt8) (hs:s.length≤100000):Fn Tryz.prog Xh 102 [str s] h0 (fun v h'=>([] ∉ ji 32 s∧∃ u,v = .tuple #[u,.bool true]∧Hs h0 h' [.sl u 9 1 eS (ji 32 s)])∨([]∈ji 32 s∧v = .tuple #[.slice none 0 0,.bool false]∧Hs h0 h' [])):=by
 have S:=Hs.start w;refine qF (by first|rfl) Tryz.func102 rfl rfl ?_;all_goals (repeat' (first|refine qg ?_|refine ql ?_|(refine qc 0 ?_;refine mv ?_;refine mv ?_;refine qf ?_)|(refine qc 1 ?_;refine mv ?_;refine qf ?_)|(refine qc 2 ?_;refine mv ?_;refine qf ?_)|(refine qc 3 ?_;refine mv ?_;refine qf ?_)))
 refine qG (σ:=Nat×Nat×List (List UInt8)×Value) (fun (i,st,out,vo) h'=>Hs h0 h' [.sl vo 9 1 eS out]∧PcsL 32 s st i out∧[] ∉ out) (fun (i,st,out,vo)=>s.length - i) (fun (i,st,out,vo)=>[(0,str s),(4,vo),(5,.int .i64 st),(6,.int .i64 i)]) (0,0,[],.slice none 0 0) qw ?_ ?_
 ·exact ⟨S.nilS,.zero _ _,by simp⟩
 clear S;rintro ⟨i,st,out,vo⟩ h ⟨S,P,hne⟩;have p1:=P.1;have p2:=P.2.1;have p4:=P.2.2.2;all_goals (repeat' (first|refine qg ?_|refine qh rfl ?_|refine qj ?_|refine qx ?_|refine ql ?_|(refine qc 4 ?_;refine mv ?_;refine mv ?_;refine tl ?_;(first|(refine cS ?_ ?_<;>intro hc))<;>(refine qf ?_))|(refine qc 6 ?_;refine mv ?_;refine mv ?_;refine ti ?_;(first|(refine cS ?_ ?_<;>intro hc))<;>(refine qf ?_))))
 ·have hi:i<s.length:=by omega
  (try simp only [zA0] at *)
  obtain ⟨P1,P2⟩:=P.yes hi (pF (c:=32) hc);all_goals (repeat' (first|refine qg ?_|refine qh rfl ?_|refine qj ?_|(refine qc 7 ?_;refine mv ?_;refine mv ?_;(first|(refine cS ?_ ?_<;>intro hc))<;>(refine qf ?_))|(refine qc 8 ?_;refine mv ?_;refine mv ?_;refine qf ?_)))
  ·have hst:st=i:=by omega
   refine qi ⟨_,rfl,?_⟩;refine .inr ⟨?_,rfl,S.drop⟩;rw [P1,hst,zG5,List.take_zero];simp
  ·all_goals (repeat' (first|(refine qc 9 ?_;(iterate 4 refine mv ?_);refine tsl ?_;(refine one 1 S ?_;clear S;intro u h S))))
   refine app (y0:=((s.drop st).take (i - st))) S rfl rfl ?_;clear S;intro v h S;refine mv ?_;refine qf ?_;all_goals (repeat' (first|(refine qc 5 ?_;refine mv ?_;refine ad ?_;refine mv ?_;refine qf ?_)|(refine qc 10 ?_;refine mv ?_;refine ad ?_;refine mv ?_;refine qf ?_)))
   refine ⟨(i+1,i+1,out ++ [(s.drop st).take (i - st)],v),?_,?_,qw⟩
   ·show s.length - (i+1)<s.length - i;omega
   ·refine ⟨S,P2,fun q=>?_⟩;rcases zB8.1 q with q|q
    ·exact hne q
    ·have:=congrArg List.length (zB5.1 q);simp at this;omega
 ·have hi:i<s.length:=by omega
  (try simp only [zA0] at *)
  all_goals (repeat' (first|(refine qc 5 ?_;refine mv ?_;refine ad ?_;refine mv ?_;refine qf ?_)))
  refine ⟨(i+1,st,out,vo),?_,?_,qw⟩
  ·show s.length - (i+1)<s.length - i;omega
  ·exact ⟨S,P.no hi (qdu hc),hne⟩
 ·obtain rfl:i=s.length:=by omega
  have p3:=P.fin;have e:(s.drop st).take (s.length - st)=s.drop st:=zF7 (by simp);all_goals (repeat' (first|refine qg ?_|refine qh rfl ?_|refine qj ?_|(refine qc 11 ?_;refine mv ?_;refine mv ?_;refine tl ?_;(first|(refine cS ?_ ?_<;>intro hc))<;>(refine qf ?_))|(refine qc 12 ?_;refine mv ?_;refine mv ?_;refine qf ?_)|(refine qc 13 ?_;(iterate 3 refine mv ?_);refine tsl ?_;(refine one 1 S ?_;clear S;intro u h S))))
  ·refine qi ⟨_,rfl,?_⟩;refine .inr ⟨?_,rfl,S.drop⟩;have hn:s.drop st=[]:=List.drop_of_length_le (by omega);rw [p3,hn];simp
  ·refine app (y0:=((s.drop st).take (s.length - st))) S rfl rfl ?_;clear S;intro v h S;refine mv ?_;refine mv ?_;refine qf ?_;rw [e] at S;all_goals (repeat' (fail))
   refine qi ⟨_,rfl,?_⟩;refine .inl ⟨fun q=>?_,_,rfl,by rw [p3];exact S⟩;rw [p3] at q;rcases zB8.1 q with q|q
   ·exact hne q
   ·have:=congrArg List.length (zB5.1 q);simp at this;omega
end Go.Proofs.Xx
namespace Go.Proofs.Xx
open Go Go.Proofs
def QE (n:Nat):List UInt8:=if h:n<10 then [UInt8.ofNat (48+n)] else QE (n / 10) ++ [UInt8.ofNat (48+n % 10)]
termination_by n
decreasing_by omega
theorem YM {n:Nat} (h:n<10):QE n=[UInt8.ofNat (48+n)]:=by rw [QE,dif_pos h]
theorem jg {n:Nat} (h:¬ n<10):QE n=QE (n / 10) ++ [UInt8.ofNat (48+n % 10)]:=by rw [QE,dif_neg h]
theorem qcW:∀ n:Nat,(QE n).length≤n+1:=by
 intro n;induction n using Nat.strongRecOn with
 | _ n ih =>
 by_cases h:n<10
 ·rw [YM h];simp
 ·rw [jg h,zB2];have:=ih (n / 10) (by omega);simp only [zD5];omega
def d36:List UInt8:=[48,49,50,51,52,53,54,55,56,57,97,98,99,100,101,102,103,104,105,106,107,108,109,110,111,112,113,114,115,116,117,118,119,120,121,122]
def d100:List UInt8:=[48,48,48,49,48,50,48,51,48,52,48,53,48,54,48,55,48,56,48,57,49,48,49,49,49,50,49,51,49,52,49,53,49,54,49,55,49,56,49,57,50,48,50,49,50,50,50,51,50,52,50,53,50,54,50,55,50,56,50,57,51,48,51,49,51,50,51,51,51,52,51,53,51,54,51,55,51,56,51,57,52,48,52,49,52,50,52,51,52,52,52,53,52,54,52,55,52,56,52,57,53,48,53,49,53,50,53,51,53,52,53,53,53,54,53,55,53,56,53,57,54,48,54,49,54,50,54,51,54,52,54,53,54,54,54,55,54,56,54,57,55,48,55,49,55,50,55,51,55,52,55,53,55,54,55,55,55,56,55,57,56,48,56,49,56,50,56,51,56,52,56,53,56,54,56,55,56,56,56,57,57,48,57,49,57,50,57,51,57,52,57,53,57,54,57,55,57,56,57,57]
theorem qeo:∀ n,n<10→(d36.drop n).take (n+1 - n)=[UInt8.ofNat (48+n)]:=by decide +kernel
theorem qcX:∀ n,n<100→(d100.drop (n*2)).take (n*2+2 - n*2)=[UInt8.ofNat (48+n / 10)] ++ [UInt8.ofNat (48+n % 10)]:=by decide +kernel
def Vs:List (List UInt8)→List UInt8
 | []=>[]
 | [w]=>w
 | w :: u :: r=>w ++ 32 :: Vs (u :: r)
theorem qbB {n:Nat}:∀ {ws:List (List UInt8)},(∀ w∈ws,w.length≤n)→(Vs ws).length≤(n+1)*ws.length
 | [],_=>by simp [Vs]
 | [w],k=>by have:=k w (by simp);simp [Vs];omega
 | w :: u :: r,k=>by
  have h1:=k w (by simp);have h2:=qbB (ws:=u :: r) fun x hx=>k x (List.mem_cons_of_mem _ hx);rw [Vs,zB2,zC4,zC4 (a:=w),Nat.mul_add];omega
theorem u8t {n:Nat} (h:n<256):(UInt8.ofNat n).toNat=n:=by rw [UInt8.toNat_ofNat',Nat.mod_eq_of_lt h]
theorem XH:∀ (k n:Nat),n<10 ^ (k+1)→(QE n).length≤k+1
 | 0,n,h=>by rw [YM (by omega)];simp
 | k+1,n,h=>by
  by_cases q:n<10
  ·rw [YM q];simp
  ·rw [jg q,zB2,zD5];have:=XH k (n / 10) (by rw [Nat.pow_succ] at h;omega);omega
def txt (l:List (List UInt8)):List UInt8:=(l.map (· ++ [10])).flatten
theorem qck (a b:List (List UInt8)):txt (a ++ b)=txt a ++ txt b:=by simp [txt]
variable [Flag]
theorem qaX {h0:AH} (w:WfH h0) (n:Nat) (hn:n<100):Fn Tryz.prog Xh 234 [.int .i64 n] h0 (fun v h'=>v=str (QE n)∧Hs h0 h' []):=by
 have S:=Hs.start w;refine qF (by first|rfl) Tryz.func234 rfl rfl ?_;all_goals (repeat' (first|refine qg ?_|refine qh rfl ?_|refine qj ?_|(refine qc 0 ?_;refine mv ?_;refine qf ?_)|(refine qc 1 ?_;refine mv ?_;(first|(refine cS ?_ ?_<;>intro hc))<;>(refine qf ?_))))
 ·all_goals (repeat' (first|(refine qc 2 ?_;refine mv ?_;refine mv ?_;refine ad ?_)))
  rw [show ((n:Int)+1)=((n+1:Nat):Int) by omega];refine tsl (l:=d36) (a:=n) (b:=n+1) ?_ rfl rfl rfl rfl rfl rfl rfl rfl ⟨by omega,by rw [show d36.length=36 from rfl];omega⟩;rw [show (d36.drop n).take (n+1 - n)=QE n by rw [YM (by omega)];exact qeo n (by omega)];(refine mv ?_;refine qf ?_);all_goals (repeat' (fail))
  refine qi ⟨_,rfl,?_⟩;exact ⟨rfl,S⟩
 ·all_goals (repeat' (first|(refine qc 3 ?_;refine mv ?_;refine ml ?_;refine mv ?_;refine ml ?_;refine ad ?_)))
  rw [show ((n:Int)*2+2)=((n*2+2:Nat):Int) by omega,show ((n:Int)*2)=((n*2:Nat):Int) by omega];refine tsl (l:=d100) (a:=n*2) (b:=n*2+2) ?_ rfl rfl rfl rfl rfl rfl rfl rfl ⟨by omega,by rw [show d100.length=200 by decide +kernel];omega⟩;rw [show (d100.drop (n*2)).take (n*2+2 - n*2)=QE n by rw [jg (by omega),YM (by omega)];exact qcX n hn];(refine mv ?_;refine qf ?_);all_goals (repeat' (fail))
  refine qi ⟨_,rfl,?_⟩;exact ⟨rfl,S⟩
theorem qau:∀ (n:Nat) {h0:AH} (w:WfH h0) (hn:n≤9223372036854775807),Fn Tryz.prog Xh 82 [.int .i64 n] h0 (fun v h'=>v=str (QE n)∧Hs h0 h' []):=by
 intro n;induction n using Nat.strongRecOn with
 | _ n ih =>
 intro h0 w hn;have S:=Hs.start w;refine qF (by first|rfl) Tryz.func82 rfl rfl ?_;all_goals (repeat' (first|refine qg ?_|refine qh rfl ?_|refine qj ?_|(refine qc 0 ?_;refine mv ?_;refine qf ?_)|(refine qc 1 ?_;refine mv ?_;(first|(refine cS ?_ ?_<;>intro hc))<;>(refine qf ?_))))
 ·all_goals (repeat' (first|(refine qc 2 ?_;refine mv ?_;refine ad ?_;refine cU ?_;(refine one 1 S ?_;clear S;intro u h S))))
  have r:qY h u 1 eU [48+n]:=by
   have:=Rd.of_sl (enc:=XG) S .here;exact this
  refine bS r ?_;(refine mv ?_;refine qf ?_);all_goals (repeat' (fail))
  refine qi ⟨_,rfl,?_⟩;rw [YM (by omega)];exact ⟨rfl,S.drop⟩
 ·(repeat (refine qg ?_));refine qce (id:=3) (j1:=7) (rd:=[(6,(0,1)),(7,(0,1)),(8,(0,1))]) (fun b1=>[none,some b1,some b1]) S (by exact HintOk.many (ks:=[3,4,5,6]) (by decide +kernel) rfl (.mv rfl rfl rfl rfl rfl (.bin (qcv (by omega) (by omega)) rfl rfl rfl rfl rfl rfl (.bin (PE rfl (by omega) (by omega)) rfl rfl rfl rfl rfl rfl (.cU (by omega) rfl rfl rfl rfl rfl rfl rfl .nil)))) rfl) ?_;clear S;intro b1 h S;refine qp ?_;(first|(refine mv ?_<;>refine qf ⟨⟨by (first|exact True.intro),rfl⟩,?_⟩));refine qp ?_;(first|(refine qu ?_<;>refine qf ⟨⟨by (first|exact True.intro),rfl⟩,?_⟩));rw [show ((n:Int) / 10)=((n / 10:Nat):Int) by omega];replace S:Hs h0 h (.blk b1 [.int .u8 (48+(n:Int) % 10)] 5 :: []):=S;((refine qp ?_;first|refine qo rfl rfl rfl rfl rfl ((ih (n / 10) (by omega) S.wf (by omega)).mono ?_));rintro _ h ⟨rfl,x⟩)<;>((refine qf ⟨⟨True.intro,?_⟩,?_⟩;(focus ((show keepsX _ _ _ _ _;simp only [keepsX];(repeat' (first|exact True.intro|refine And.intro ?_ ?_));all_goals (intro hw;first|exact x.ext.old _ S.bB)))));replace S:=S.join0 x;clear x;refine qp ?_;(first|(refine mv ?_<;>refine qf ⟨⟨by (first|exact True.intro),rfl⟩,?_⟩));refine qp ?_;(first|(refine rm ?_<;>refine qf ⟨⟨by (first|exact True.intro),rfl⟩,?_⟩));refine qp ?_;(first|(refine ad ?_<;>refine qf ⟨⟨by (first|exact True.intro),rfl⟩,?_⟩));refine qp ?_;(first|(refine cU ?_<;>refine qf ⟨⟨by (first|exact ⟨Or.inr rfl,rfl⟩),rfl⟩,?_⟩));refine fl S rfl rfl S.gB ?_)
  have hdl:=qcW (n / 10);have hl1:([48+n % 10].map UInt8.ofNat).length=1:=rfl;have r:qY h (jV (some 1) b1) 1 eU [48+n % 10]:=.inr ⟨b1,0,1,_,_,none,_,rfl,J5 S .here,rfl⟩;refine qp ?_;refine bS r ?_;refine qf ⟨⟨by (first|exact Or.inr rfl),rfl⟩,?_⟩;(refine qp ?_;(first|(refine tc ?_<;>refine qf ⟨⟨by (first|exact True.intro),rfl⟩,?_⟩));refine qp ?_;(first|(refine mv ?_<;>refine qf ⟨⟨by (first|exact True.intro),rfl⟩,?_⟩));refine Ji ?_);all_goals (repeat' (fail))
  refine qi ⟨_,rfl,?_⟩;rw [jg (by omega)];exact ⟨rfl,S.drop⟩
theorem WM {h0:AH} (w:WfH h0) {z:Int} (n:Nat) (hz:z=n) (hn:n≤9223372036854775807):Fn Tryz.prog Xh 82 [.int .i64 z] h0 (fun v h'=>v=str (QE n)∧Hs h0 h' []):=by
 subst hz;exact qau n w hn
abbrev bst (bb:Nat) (q v:Value):Rs:=.blk bb [q,v] 98
abbrev bsl (v:Value) (l:List UInt8):Rs:=.sl v 5 1 eU (l.map UInt8.toNat)
def QP (bb:Nat) (q:Value):Prop:=q = .pointer none∨q = .pointer (some ⟨bb,0,none⟩)
def tlW (r:List (List UInt8)):List UInt8:=r.flatMap fun w=>32 :: w
theorem GG (w:List UInt8):∀ r:List (List UInt8),Vs (w :: r)=w ++ tlW r
 | []=>by simp [Vs,tlW]
 | u :: r=>by
  rw [Vs,GG u r];simp [tlW]
theorem qaL (r:List (List UInt8)) (w:List UInt8):tlW (r ++ [w])=tlW r ++ [32] ++ w:=by simp [tlW]
theorem qbv {h0:AH} (v:Value):Fn Tryz.prog Xh 176 [v] h0 (fun r h'=>r=v∧h'=h0):=Zd rfl ⟨rfl,rfl⟩
theorem qaA {h0 h:AH} {rs:List Rs} {bb:Nat} {q v:Value} (S:Hs h0 h (bst bb q v :: rs)) (hq:QP bb q):Fn Tryz.prog Xh 117 [.pointer (some ⟨bb,0,none⟩)] h (fun r h'=>Hs h0 h' (bst bb (.pointer (some ⟨bb,0,none⟩)) v :: rs)):=by
 rcases hq with rfl|rfl
 ·refine qF (by first|rfl) Tryz.func117 rfl rfl ?_;all_goals (repeat' (first|refine qg ?_|refine qh rfl ?_|(refine qc 0 ?_;refine mv ?_;refine vl ?_;refine vl ?_;refine lB S rfl rfl ?_;refine vl ?_;refine qf ?_)))
  refine qc 1 ?_;refine mv ?_;refine mv ?_;refine pU1 (b:=bb) (c:=[.pointer none,v]) (e:=98) S.gB ?_;(refine qo rfl rfl rfl rfl rfl ((qbv _).mono ?_);rintro _ h ⟨rfl,rfl⟩)<;>(refine pU2 (b:=bb) (c:=[.pointer none,v]) (e:=98) S.gB ?_ (hc:=by kernel_rfl);((refine vl ?_;refine vl ?_;(first|(refine sB S rfl rfl ?_;clear S;intro h S));refine qf ?_)))
  all_goals (repeat' (fail))
  refine ⟨_,rfl,?_⟩;exact S
 ·refine qF (by first|rfl) Tryz.func117 rfl rfl ?_;all_goals (repeat' (first|refine qg ?_|refine qh rfl ?_|(refine qc 0 ?_;refine mv ?_;refine vl ?_;refine vl ?_;refine lB S rfl rfl ?_;refine vl ?_;refine qf ?_)))
  refine qc 2 ?_;refine mv ?_;refine vl ?_;refine vl ?_;refine lB S rfl rfl ?_;refine mv ?_;refine pN ?_;refine qf ?_;all_goals (repeat' (first|refine qh rfl ?_|refine qj ?_))
  refine ⟨_,rfl,?_⟩;exact S
theorem YQ {h0 h:AH} {rs:List Rs} {bb:Nat} {q v:Value} {l:List UInt8} (s:List UInt8) (S:Hs h0 h (bst bb q v :: bsl v l :: rs)) (hq:QP bb q) (hl:l.length+s.length≤1000000):Fn Tryz.prog Xh 59 [.pointer (some ⟨bb,0,none⟩),str s] h
 (fun r h'=>∃ v',Hs h0 h' (bst bb (.pointer (some ⟨bb,0,none⟩)) v' :: bsl v' (l ++ s) :: rs)):=by
 have hl':(l.map UInt8.toNat).length+s.length≤1000000:=by simpa using hl
 refine qF (by first|rfl) Tryz.func59 rfl rfl ?_;all_goals (repeat' (first|refine qg ?_|(refine qc 0 ?_;refine mv ?_;refine mv ?_;refine qf ?_)|(refine qc 1 ?_;refine mv ?_)))
 (refine qo rfl rfl rfl rfl rfl ((qaA S hq).mono ?_);rintro _ h S2)<;>(replace S:=S2;clear S2;refine qf ?_)
 refine qg ?_;refine qc 2 ?_;refine mv ?_;refine mv ?_;refine vl ?_;refine vl ?_;refine lB S rfl rfl ?_;refine mv ?_;refine apS S rfl rfl ?_;clear S;intro v2 h S;obtain ⟨sv,rfl⟩:=(Rd.of_sl S .here).isSl;refine vl ?_;refine vl ?_;(first|(refine sB S rfl rfl ?_;clear S;intro h S));refine qf ?_;all_goals (repeat' (first|refine qg ?_|(refine qc 3 ?_;refine mv ?_;refine tl ?_;refine mv ?_;refine mv ?_;refine qf ?_)))
 refine qi ⟨_,rfl,?_⟩;rw [← zC9] at S;exact ⟨_,S.front (.there .here)⟩
theorem qdc {h0 h:AH} {rs:List Rs} {bb:Nat} {q v:Value} {l:List UInt8} (S:Hs h0 h (bst bb q v :: bsl v l :: rs)) (hl:0<l.length∧l.length≤1000000):Fn Tryz.prog Xh 61 [.pointer (some ⟨bb,0,none⟩)] h (fun r h'=>r=str l∧Hs h0 h' (bst bb q v :: rs)):=by
 have hl':(l.map UInt8.toNat).length=l.length:=by simp
 have hl2:(l.map UInt8.toNat).map UInt8.ofNat=l:=by
  rw [List.map_map];exact (List.map_congr_left fun a _=>by simp).trans (List.map_id _)
 refine qF (by first|rfl) Tryz.func61 rfl rfl ?_;all_goals (repeat' (first|refine qg ?_|(refine qc 0 ?_;refine mv ?_;refine qf ?_)))
 refine qQ 1 ?_;refine mv ?_;refine vl ?_;refine vl ?_;refine lB S rfl rfl ?_;refine usd S (by omega) rfl rfl ?_;rintro b o cap rfl;refine mv ?_;refine vl ?_;refine vl ?_;refine lB S rfl rfl ?_;refine wM S rfl rfl ?_;refine uns (l:=l.map UInt8.toNat) (cap:=cap) S ⟨by omega,by omega⟩ rfl rfl ?_;clear S;intro h S;rw [hl2];refine mv ?_;refine qf ?_;all_goals (repeat' (fail))
 refine qi ⟨_,rfl,?_⟩;exact ⟨rfl,S⟩
end Go.Proofs.Xx
namespace Go.Proofs.Xx
open Go Go.Proofs
abbrev wordAt (ws:List (List UInt8)) (i:Nat):List UInt8:=ws.getD i default
def ZE:List UInt8:=[116,114,105,112]
structure Trp where
 ta:List Int
 pl:Int
 st:Int
instance:Inhabited Trp:=⟨⟨[],0,0⟩⟩
def W9 (ws:List (List UInt8)):Prop:=4≤ws.length∧wordAt ws 0=ZE∧[] ∉ ws
open Classical in
noncomputable def Yy (l:List Tab) (ws:List (List UInt8)):Int :=
 if ¬ W9 ws then 3 else if ¬ (Vq (wordAt ws 1)∧Vq (wordAt ws 2)) then 3 else if ∃ i,3≤i∧i<ws.length∧¬ QI l (wordAt ws i) then 6 else 0
def XV (l:List Tab) (ws:List (List UInt8)):Trp:=⟨(ws.drop 3).map fun n=>(tix l n:Int),zJ (wordAt ws 1),zJ (wordAt ws 2)⟩
theorem XW {l:List Tab} {ws:List (List UInt8)} (h:¬ W9 ws):Yy l ws=3:=by unfold Yy;rw [if_pos h]
theorem VD {l:List Tab} {ws:List (List UInt8)} (h:¬ (Vq (wordAt ws 1)∧Vq (wordAt ws 2))):Yy l ws=3:=by
 unfold Yy;by_cases q:W9 ws
 ·rw [if_neg (fun k=>k q),if_pos h]
 ·rw [if_pos q]
theorem pG {l:List Tab} {ws:List (List UInt8)} (h1:W9 ws) (h2:Vq (wordAt ws 1)∧Vq (wordAt ws 2)) (h:∃ i,3≤i∧i<ws.length∧¬ QI l (wordAt ws i)):Yy l ws=6:=by unfold Yy;rw [if_neg (fun k=>k h1),if_neg (fun k=>k h2),if_pos h]
theorem qaK {l:List Tab} {ws:List (List UInt8)} (h1:W9 ws) (h2:Vq (wordAt ws 1)∧Vq (wordAt ws 2)) (h:∀ i,3≤i→i<ws.length→QI l (wordAt ws i)):Yy l ws=0:=by
 unfold Yy;rw [if_neg (fun k=>k h1),if_neg (fun k=>k h2),if_neg (fun ⟨i,q1,q2,q3⟩=>q3 (h i q1 q2))]
noncomputable def XN (l:List Tab):List Trp→Nat→List (List UInt8)→List Trp×Int×Int
 | out,_,[]=>(out,0,0)
 | out,i,[w]=>if w=[] then (out,0,0) else ([],i,3)
 | out,i,w :: v :: r=>if Yy l (ji 32 w)=0 then XN l (out ++ [XV l (ji 32 w)]) (i+1) (v :: r) else ([],i,Yy l (ji 32 w))
theorem kL {l:List Tab} {out:List Trp} {i:Nat} {w:List UInt8} (h:w≠[]):XN l out i [w]=([],(i:Int),3):=by rw [XN,if_neg h]
theorem pX {l:List Tab} {out:List Trp} {i:Nat}:XN l out i [[]]=(out,0,0):=by rw [XN,if_pos rfl]
theorem yZ {l:List Tab} {out:List Trp} {i:Nat} {w:List UInt8} {r:List (List UInt8)} (hr:r≠[]) (h:Yy l (ji 32 w)≠0):XN l out i (w :: r)=([],(i:Int),Yy l (ji 32 w)):=by
 match r,hr with
 | v :: r,_=>rw [XN,if_neg h]
theorem qbi {l:List Tab} {out:List Trp} {i:Nat} {w:List UInt8} {r:List (List UInt8)} (hr:r≠[]) (h:Yy l (ji 32 w)=0):XN l out i (w :: r)=XN l (out ++ [XV l (ji 32 w)]) (i+1) r:=by
 match r,hr with
 | v :: r,_=>rw [XN,if_pos h]
noncomputable def Xb (l:List Tab) (s:List UInt8):List Trp×Int×Int:=if 65536<s.length then ([],0,7) else XN l [] 0 (ji 10 s)
def KA (l:List Tab) (x:Trp):Prop:=x.ta≠[]∧(0≤x.pl∧x.pl≤999999999)∧(0≤x.st∧x.st≤999999999)∧∀ t∈x.ta,0≤t∧t<l.length
def jQ (l:List Tab) (t:Int):List UInt8:=(tb l t.toNat).name
def wsT (l:List Tab) (x:Trp):List (List UInt8):=ZE :: QE x.pl.toNat :: QE x.st.toNat :: x.ta.map (jQ l)
open Classical in
noncomputable def Jq (l:List Tab) (xs:List Trp):List UInt8:=if ∀ x∈xs,KA l x then txt (xs.map fun x=>Vs (wsT l x)) else []
theorem ValidL.nm {l:List Tab} (hv:ValidL l) {i:Nat} (hi:i<l.length):Qg (tb l i).name:=by
 have hc:=(hv.2 i hi).1;unfold chk at hc;split at hc
 ·cases hc
 ·rename_i h;exact zF2.1 h
theorem ValidL.uniq {l:List Tab} (hv:ValidL l) {i j:Nat} (hi:i<l.length) (hj:j<l.length) (e:(tb l i).name=(tb l j).name):i=j:=by
 rcases zE6 i j with q|q|q
 ·exact absurd ⟨i,q,e⟩ (hv.2 j hj).2
 ·exact q
 ·exact absurd ⟨j,q,e.symm⟩ (hv.2 i hi).2
abbrev yG (ws:List (List UInt8)) (i:Nat):List UInt8:=ws.getD i default
def qdN:List UInt8:=[103,117,101,115,116]
def pg:List UInt8:=[102,114,105,101,110,100]
def qeZ:List UInt8:=[102,101,117,100]
def qdD (w:List UInt8):Prop:=w=[45]∨w=[104]∨w=[97]∨w=[104,97]
instance (w:List UInt8):Decidable (qdD w):=inferInstanceAs (Decidable (_∨_))
def KH (w:List UInt8):List UInt8:=if w=[45] then [] else w
def GP (ws:List (List UInt8)):Prop:=8≤ws.length∧Vq (yG ws 4)∧Vq (yG ws 5)∧qdD (yG ws 7)
def qea (ws:List (List UInt8)):Gu:={ name:=yG ws 1,rank:=KH (yG ws 2),court:=KH (yG ws 3),since:=zJ (yG ws 4),side:=zJ (yG ws 5),diet:=KH (yG ws 6),host:=decide (yG ws 7=[104]∨yG ws 7=[104,97]),access:=decide (yG ws 7=[97]∨yG ws 7=[104,97]),tg:=ws.drop 8 }
open Classical in
noncomputable def qgF (r:Rl) (ws:List (List UInt8)):Rl×Int :=
 if yG ws 0=qdN then (if GP ws then XM r (qea ws) else (r,3))
 else if yG ws 0=pg∨yG ws 0=qeZ then (if ws.length=3 then Zg r (yG ws 1) (yG ws 2) (if yG ws 0=pg then 1 else 2) else (r,3))
 else (r,3)
def qgK:List UInt8:=[32,45,32,104,32,97,32,104,97,32]
theorem Xw (c:UInt8):∀ s:List UInt8,∀ w∈ji c s,w.length≤s.length
 | [],w,h=>by simp [ji] at h;subst h;simp
 | x :: s,w,h=>by
  unfold ji at h;split at h
  ·rcases zE7.1 h with rfl|h
   ·simp
   ·have:=Xw c s w h;simp;omega
  ·cases hs:ji c s with
   | nil=>exact absurd hs (Z4 c s)
   | cons u r =>
    rw [hs] at h;simp only [Yc,List.singleton_append] at h;rcases zE7.1 h with rfl|h
    ·have:=Xw c s u (by rw [hs];simp);simp;omega
    ·have:=Xw c s w (by rw [hs];simp [h]);simp;omega
abbrev trV (x:Tr_):Value:=.agg (jo x).toArray
abbrev Tr_.trp (x:Tr_):Trp:=⟨x.ta,x.pl,x.st⟩
variable [Flag]
theorem VU {h0:AH} (w:WfH h0) (s:List UInt8) (hs:s.length≤1000000):Fn Tryz.prog Xh 122 [str s] h0 (fun v h'=>∃ k b,v = .tuple #[.int .i64 k,.bool b]∧qf4 s k b∧Hs h0 h' []):=by
 have S:=Hs.start w;refine qF (by first|rfl) Tryz.func122 rfl rfl ?_;all_goals (repeat' (first|refine qg ?_|(refine qc 0 ?_;refine mv ?_;refine mv ?_;refine qf ?_)))
 (repeat (refine qg ?_));first|refine zL (σ:=Unit) (fun _ h'=>Hs h0 h' []∧1≤s.length∧s.length≤9∧(1<s.length→s.getD 0 default≠48)) (fun _=>[(0,str s)]) ?_ ?_
 ·all_goals (repeat' (first|refine qg ?_|refine qh rfl ?_|refine qj ?_|(refine qc 1 ?_;refine mv ?_;refine tl ?_;(first|(refine cS ?_ ?_<;>intro hc))<;>(refine mv ?_;(first|refine off ?_|refine mv ?_);(first|refine off ?_|refine tl ?_);(first|refine off ?_|(first|(refine cS ?_ ?_<;>intro hc)))<;>(refine vl ?_;refine mv ?_;(first|refine off ?_|refine mv ?_);(first|refine off ?_|refine tl ?_);(first|refine off ?_|(first|(refine cS ?_ ?_<;>intro hc)))<;>((first|refine off ?_|refine mv ?_);(first|refine off ?_|refine mv ?_);(first|refine off ?_|(refine ti ?_));(first|refine off ?_|(first|(refine cS ?_ ?_<;>intro hc)))<;>((first|refine off ?_|refine vl ?_);refine vl ?_;refine qf ?_)))))|(refine qc 2 ?_;refine mv ?_;refine mv ?_;refine qf ?_)))
  ·refine qi ⟨_,rfl,?_⟩;exact ⟨0,false,rfl,.inr ⟨rfl,fun q=>by have:=q.1;omega⟩,S⟩
  ·refine qi ⟨_,rfl,?_⟩;exact ⟨0,false,rfl,.inr ⟨rfl,fun q=>by have:=q.2.1;omega⟩,S⟩
  ·refine qi ⟨_,rfl,?_⟩;have hz:=pF (c:=48) hc;exact ⟨0,false,rfl,.inr ⟨rfl,fun q=>q.2.2.1 (by omega) hz⟩,S⟩
  ·exact ⟨(),⟨S,by omega,by omega,fun _ q=>hc (by rw [show s.getD (Int.toNat 0) 0=s.getD 0 default from rfl,q];rfl)⟩,(qw)⟩
  ·exact ⟨(),⟨S,by omega,by omega,fun q=>by omega⟩,(qw)⟩
 clear S;rintro - h ⟨S,l1,l2,l3⟩;all_goals (repeat' (first|refine qg ?_|refine ql ?_|(refine qc 3 ?_;refine mv ?_;refine qf ?_)|(refine qc 4 ?_;refine mv ?_;refine qf ?_)))
 refine qG (σ:=Nat) (fun i h'=>Hs h0 h' []∧i≤s.length∧∀ j,j<i→Xe (s.getD j default)) (fun i=>s.length - i) (fun i=>[(0,str s),(4,.int .i64 (zJ (s.take i):Nat)),(5,.int .i64 i)]) 0 qw ?_ ?_
 ·exact ⟨S,zB0 _,fun j hj=>absurd hj (zB7 _)⟩
 clear S;rintro i h ⟨S,h1,h2⟩;have hb:=pq (s:=s) h2 (by omega);all_goals (repeat' (first|refine qg ?_|refine qh rfl ?_|refine qj ?_|refine qx ?_|refine ql ?_|(refine qc 5 ?_;refine mv ?_;refine mv ?_;refine tl ?_;(first|(refine cS ?_ ?_<;>intro hc))<;>(refine qf ?_))|(refine qc 7 ?_;refine mv ?_;refine mv ?_;refine ti ?_;(first|(refine cS ?_ ?_<;>intro hc))<;>(refine mv ?_;(first|refine off ?_|refine mv ?_);(first|refine off ?_|refine mv ?_);(first|refine off ?_|(refine ti ?_));(first|refine off ?_|(first|(refine cS ?_ ?_<;>intro hc)))<;>(refine vl ?_;refine qf ?_)))|(refine qc 8 ?_;refine mv ?_;refine mv ?_;refine qf ?_)))
 ·(try simp only [zA0] at *)
  refine qi ⟨_,rfl,?_⟩;exact ⟨0,false,rfl,.inr ⟨rfl,fun q=>by have:=q.2.2.2 i (by omega);unfold Xe at this;rw [Qk] at this;omega⟩,S⟩
 ·(try simp only [zA0] at *)
  refine qi ⟨_,rfl,?_⟩;exact ⟨0,false,rfl,.inr ⟨rfl,fun q=>by have:=q.2.2.2 i (by omega);unfold Xe at this;rw [Qk] at this;omega⟩,S⟩
 ·all_goals (repeat' (first|(refine qc 6 ?_;refine mv ?_;refine ad ?_;refine mv ?_;refine qf ?_)|(refine qc 9 ?_;refine mv ?_;refine ml ?_;refine mv ?_;refine mv ?_;refine ti ?_;refine sU ?_;refine cI ?_;refine ad ?_;refine mv ?_;refine qf ?_)))
  (try simp only [zA0] at *)
  have hi:i<s.length:=by omega
  have hd:Xe (s.getD i default):=by unfold Xe;rw [Qk];omega
  have e:=Yx hi;rw [Qk] at e;have e2:(10:Int)*(zJ (s.take i):Nat)+(((s.getD i 0).toNat:Int) - 48)=(zJ (s.take (i+1)):Nat):=by
   unfold Xe at hd;rw [Qk] at hd;omega
  rw [e2];refine ⟨i+1,?_,?_,qw⟩
  ·show s.length - (i+1)<s.length - i;omega
  ·exact ⟨S,by omega,jr h2 hd⟩
 ·have hi:i=s.length:=by omega
  subst hi;rw [zD4];all_goals (repeat' (first|(refine qc 10 ?_;(iterate 3 refine mv ?_);refine qf ?_)))
  refine qi ⟨_,rfl,?_⟩;exact ⟨_,true,rfl,.inl ⟨rfl,⟨l1,l2,l3,h2⟩,rfl⟩,S⟩
theorem qaS {h0:AH} (w:WfH h0) (pv:PbV) (p:Pb) (H:PbOk h0 pv p) (hv:ValidL p.tabs) (s:List UInt8) (hs:s.length≤100000) :
 Fn Tryz.prog Xh 63 [pv.val,str s] h0 (fun u h'=>∃ x:Tr_,u = .tuple #[trV x,.int .i64 (Yy p.tabs (ji 32 s))]∧(Yy p.tabs (ji 32 s)=0→x.trp=XV p.tabs (ji 32 s))∧Hs h0 h' [zy x]):=by
 have S:=Hs.start w;have hr:=H.tab.rd;have hl:=H.tab.len;have hwl:=Ql 32 s;have hcs:s.countP (· == 32)≤s.length:=List.countP_le_length;have hwm:∀ u∈ji 32 s,u.length≤100000:=fun u hu=>zD0 (Xw 32 s u hu) hs;unfold PbV.val;refine qF (by first|rfl) Tryz.func63 rfl rfl ?_;all_goals (repeat' (first|refine qg ?_|(refine qc 0 ?_;(refine bx S ?_;clear S;intro b h S);(refine al S ?_;clear S;intro b h S);refine mv ?_;refine qf ?_)))
 rename_i b2 h2
 obtain ⟨b4,hnm⟩:∃ x,x=b:=⟨_,rfl⟩;subst hnm;all_goals (repeat' (first|(refine qc 1 ?_;refine mv ?_)))
 (refine qo rfl rfl rfl rfl rfl ((split_ok S.wf s [32] rfl (by omega)).mono ?_);rintro v6 h x)<;>(replace S:=S.join1 x;clear x;refine mv ?_;refine qf ?_)
 obtain ⟨ws,hws⟩:∃ ws,ji 32 s=ws:=⟨_,rfl⟩
 replace S:Hs h0 h [.sl v6 9 1 eS (ji 32 s),.blk b4 (jo default) 71,.blk b2 pv.cs 28]:=S;rw [hws] at S hwl hwm ⊢;have herr:∀ {h':AH} {rs:List Rs} (S:Hs h0 h' rs) {e:Int},e≠0→Yy p.tabs ws=e→∃ x:Tr_,Value.tuple #[trV default,.int .i64 e] = .tuple #[trV x,.int .i64 (Yy p.tabs ws)]∧(Yy p.tabs ws=0→x.trp=XV p.tabs ws)∧Hs h0 h' [zy x]:=fun S e h1 h2 =>
  ⟨default,by rw [h2],fun q=>absurd (h2.symm.trans q) h1,Hs.nilS S.drop⟩
 (repeat (refine qg ?_));first|refine zL (σ:=Unit) (fun _ h'=>Hs h0 h' [.sl v6 9 1 eS ws,.blk b4 (jo default) 71,.blk b2 pv.cs 28]∧W9 ws) (fun _=>[(2,.pointer (some ⟨b2,0,none⟩)),(4,.pointer (some ⟨b4,0,none⟩)),(6,v6)]) ?_ ?_
 ·all_goals (repeat' (first|refine qg ?_|refine qh rfl ?_|(refine qc 2 ?_;refine mv ?_;refine wM S rfl rfl ?_;(first|(refine cS ?_ ?_<;>intro hc))<;>(refine mv ?_;(first|refine off ?_|refine mv ?_);(first|refine off ?_|(refine Xc S rfl rfl ?_));(first|refine off ?_|(refine XD S rfl rfl ?_));(first|refine off ?_|(refine tS ?_ ?_<;>intro hc))<;>(refine vl ?_;refine mv ?_;(first|refine off ?_|refine mv ?_);(first|(refine off ?_;refine vl ?_;refine qf ?_)|skip))))))
  all_goals (try ((refine qo rfl rfl rfl rfl rfl ((qc7 S.wf v6 ws (Rd.of_sl S .here) (by omega) []).mono ?_);rintro _ h ⟨⟨rfl,z⟩|⟨rfl,z⟩,x⟩)<;>(replace S:=S.join0 x;clear x;refine vl ?_;refine qf ?_)))
  all_goals (all_goals (repeat' (first|refine qg ?_|refine qh rfl ?_|refine qj ?_|(refine qc 3 ?_;refine vl ?_;(first|(refine sB S rfl rfl ?_;clear S;intro h S));refine mv ?_;refine qf ?_))))
  all_goals first
   | exact ⟨(),⟨S,by omega,by assumption,z⟩,(qw)⟩
   | skip
  all_goals (refine qi ⟨_,jE S rfl (by first|exact .there .here) (by exact rfl) (by exact rfl),?_⟩)
  all_goals refine herr S (by decide) (XW fun q=>?_)
  all_goals first
   | exact q.2.2 z
   | (have hq:ws.getD (Int.toNat 0) default=[116,114,105,112]:=q.2.1;contradiction)
   | exact (by assumption:¬ ws.getD (Int.toNat 0) default=[116,114,105,112]) q.2.1
   | (have:=q.1;omega)
 clear S;rintro _ h ⟨S,hF⟩;have hw4:=hF.1;have hw1:(ws.getD (1:Int).toNat default).length≤1000000:=zD0 (hwm _ (qL (show 1<ws.length by omega))) (by omega);have hw2:(ws.getD (2:Int).toNat default).length≤1000000:=zD0 (hwm _ (qL (show 2<ws.length by omega))) (by omega);all_goals (repeat' (first|refine qg ?_|(refine qc 4 ?_;refine mv ?_;refine Xc S rfl rfl ?_;refine XD S rfl rfl ?_)))
 (refine qo rfl rfl rfl rfl rfl ((VU S.wf (ws.getD (1:Int).toNat default) hw1).mono ?_);rintro _ h ⟨k1,c1,rfl,n1,x⟩)<;>(replace S:=S.join0 x;clear x;refine mv ?_;refine vl ?_;refine vl ?_;refine mv ?_;refine mv ?_;refine qf ?_)
 all_goals (repeat' (first|refine qg ?_|(refine qc 5 ?_;refine mv ?_;refine Xc S rfl rfl ?_;refine XD S rfl rfl ?_)))
 (refine qo rfl rfl rfl rfl rfl ((VU S.wf (ws.getD (2:Int).toNat default) hw2).mono ?_);rintro _ h ⟨k2,c2,rfl,n2,x⟩)<;>(replace S:=S.join0 x;clear x;refine mv ?_;refine vl ?_;refine vl ?_;refine mv ?_;refine mv ?_;refine qf ?_)
 rcases n1 with ⟨rfl,p1,rfl⟩|⟨rfl,p1⟩
 rotate_left
 ·all_goals (repeat' (first|refine qg ?_|refine qh rfl ?_|(refine qc 6 ?_;refine mv ?_;refine vl ?_;refine mv ?_;refine off ?_;refine off ?_;refine vl ?_;refine qf ?_)|(refine qc 7 ?_;refine vl ?_;(first|(refine sB S rfl rfl ?_;clear S;intro h S));refine mv ?_;refine qf ?_)))
  refine qi ⟨_,jE S rfl (by first|exact .there .here) (by exact rfl) (by exact rfl),?_⟩;exact herr S (by decide) (VD fun q=>p1 q.1)
 rcases n2 with ⟨rfl,p2,rfl⟩|⟨rfl,p2⟩
 rotate_left
 ·all_goals (repeat' (first|refine qg ?_|refine qh rfl ?_|(refine qc 6 ?_;refine mv ?_;refine vl ?_;refine mv ?_;refine mv ?_;refine vl ?_;refine vl ?_;refine qf ?_)|(refine qc 7 ?_;refine vl ?_;(first|(refine sB S rfl rfl ?_;clear S;intro h S));refine mv ?_;refine qf ?_)))
  refine qi ⟨_,jE S rfl (by first|exact .there .here) (by exact rfl) (by exact rfl),?_⟩;exact herr S (by decide) (VD fun q=>p2 q.2)
 all_goals (repeat' (first|refine qg ?_|refine qh rfl ?_|refine qj ?_|(refine qc 6 ?_;refine mv ?_;refine vl ?_;refine mv ?_;refine mv ?_;refine vl ?_;refine vl ?_;refine qf ?_)|(refine qc 8 ?_;refine mv ?_;refine mv ?_;refine vl ?_;(refine al S ?_;clear S;intro b h S);(first|(refine sB S rfl rfl ?_;clear S;intro h S));refine qf ?_)))
 obtain ⟨b11,hnm⟩:∃ x,x=b:=⟨_,rfl⟩;subst hnm;replace S:Hs h0 h [.blk b11 (jo ⟨⟨none,0,0⟩,[],(zJ (wordAt ws 1):Nat),(zJ (wordAt ws 2):Nat)⟩) 71,.sl v6 9 1 eS ws,.blk b4 (jo default) 71,.blk b2 pv.cs 28]:=S;all_goals (repeat' (first|refine ql ?_|(refine qc 9 ?_;refine mv ?_;(refine dr S rfl rfl ?_;clear S;intro vq S);refine wM S rfl rfl ?_;refine mv ?_;refine qf ?_)))
 replace S:Hs h0 h [.blk b11 (jo ⟨⟨none,0,0⟩,[],(zJ (wordAt ws 1):Nat),(zJ (wordAt ws 2):Nat)⟩) 71,.sl vq 9 1 eS (ws.drop 3),.blk b4 (jo default) 71,.blk b2 pv.cs 28]:=S;obtain ⟨N,hN⟩:∃ N,ws.drop 3=N:=⟨_,rfl⟩
 have hNl:N.length=ws.length - 3:=by rw [← hN,zB4]
 have hNg:∀ j,j<N.length→N.getD j default=wordAt ws (3+j):=fun j hj=>by
  unfold wordAt;rw [← hN,zA2,zC3,zA2]
 have hdl:(ws.drop (3:Int).toNat).length=N.length:=by rw [show (3:Int).toNat=3 from rfl,hN]
 rw [hN] at S;(try rw [hdl]);replace S:Hs h0 h [.sl (.slice none 0 0) 3 1 eI [],.blk b11 (jo ⟨⟨none,0,0⟩,[],(zJ (wordAt ws 1):Nat),(zJ (wordAt ws 2):Nat)⟩) 71,.sl vq 9 1 eS N,.blk b4 (jo default) 71,.blk b2 pv.cs 28]:=S.nilS;refine qG (σ:=Nat×SlV) (fun (i,sv) h'=>Hs h0 h' [.sl sv.val 3 1 eI ((N.take i).map fun n=>(tix p.tabs n:Int)),.blk b11 (jo ⟨sv,[],(zJ (wordAt ws 1):Nat),(zJ (wordAt ws 2):Nat)⟩) 71,.sl vq 9 1 eS N,.blk b4 (jo default) 71,.blk b2 pv.cs 28]∧i≤N.length∧∀ j,j<i→QI p.tabs (N.getD j default)) (fun (i,sv)=>N.length - i) (fun (i,sv)=>[(2,.pointer (some ⟨b2,0,none⟩)),(4,.pointer (some ⟨b4,0,none⟩)),(11,.pointer (some ⟨b11,0,none⟩)),(57,vq),(58,.int .i64 N.length),(59,.int .i64 i)]) (0,⟨none,0,0⟩) qw ?_ ?_
 ·exact ⟨S,zB0 _,fun j hj=>absurd hj (zB7 _)⟩
 clear S;rintro ⟨i,sv⟩ h ⟨S,g1,g2⟩;have htl:((N.take i).map fun n=>(tix p.tabs n:Int)).length≤200000:=by rw [zC5,zA9];omega
 all_goals (repeat' (first|refine qg ?_|refine qh rfl ?_|refine qj ?_|refine qx ?_|refine ql ?_|(refine qc 10 ?_;(first|(refine cS ?_ ?_<;>intro hc))<;>(refine qf ?_))))
 ·have hi:i<N.length:=by omega
  have hx0:N.getD (i:Int).toNat default=N.getD i default:=rfl;all_goals (repeat' (first|refine qg ?_|(refine qc 11 ?_;refine Xc S rfl rfl ?_;refine XD S rfl rfl ?_;refine mv ?_;refine qf ?_)|(refine qc 12 ?_;refine vl ?_;refine lB S rfl rfl ?_;refine mv ?_)))
  rw [hx0];(refine qo rfl rfl rfl rfl rfl ((gu S.wf pv.vt.val p.tabs (H.tab.ext w S.ext) (N.getD i default)).mono ?_);rintro _ h ⟨⟨k,rfl,-,hk,hn,hmin⟩|⟨rfl,hnot⟩,x⟩)<;>(replace S:=S.join0 x;clear x;refine mv ?_;refine vl ?_;refine vl ?_;refine mv ?_;refine mv ?_;refine qf ?_)
  ·all_goals (repeat' (first|refine qg ?_|refine qh rfl ?_|refine qj ?_|(refine qc 13 ?_;refine mv ?_;refine vl ?_;refine qf ?_)|(refine qc 15 ?_;refine vl ?_;refine lB S rfl rfl ?_;refine mv ?_;(refine one 1 S ?_;clear S;intro u h S))))
   refine app (y0:=(k:Int)) S rfl rfl ?_;clear S;intro v1 h S;obtain ⟨s1,rfl⟩:=S.sV v1;((refine vl ?_);(first|(refine sB S rfl rfl ?_;clear S;intro h S));refine qf ?_);all_goals (repeat' (first|(refine qc 16 ?_;refine ad ?_;refine mv ?_;refine qf ?_)))
   refine ⟨(i+1,s1),?_,?_,qw⟩
   ·show N.length - (i+1)<N.length - i;omega
   ·have e:((N.take (i+1)).map fun n=>(tix p.tabs n:Int))=((N.take i).map fun n=>(tix p.tabs n:Int)) ++ [(k:Int)]:=by
     rw [qK hi,zC9,List.map_cons,List.map_nil,VM hk hn hmin]
    refine ⟨by rw [e];exact S,by (try dsimp only);omega,jr g2 ⟨k,hk,hn⟩⟩
  ·all_goals (repeat' (first|refine qg ?_|refine qh rfl ?_|(refine qc 13 ?_;refine mv ?_;refine vl ?_;refine qf ?_)|(refine qc 14 ?_;refine vl ?_;(first|(refine sB S rfl rfl ?_;clear S;intro h S));refine mv ?_;refine qf ?_)))
   refine qi ⟨_,jE S rfl (by first|exact .there (.there (.there .here))) (by exact rfl) (by exact rfl),?_⟩;exact herr S (by decide) (pG hF ⟨p1,p2⟩ ⟨3+i,by omega,by omega,by
    rw [← hNg i hi];rintro ⟨j,h1,h2⟩;exact hnot.elim (fun q=>q hv) fun q=>q j h1 h2⟩)
 ·obtain rfl:i=N.length:=by omega
  rw [zF7 (zA3 _)] at S;have e0:Yy p.tabs ws=0:=qaK hF ⟨p1,p2⟩ fun j h1 h2=>by
   have:=g2 (j - 3) (by omega);rw [hNg (j - 3) (by omega),show 3+(j - 3)=j by omega] at this;exact this
  all_goals (repeat' (first|(refine qc 17 ?_;refine lB S rfl rfl ?_;(first|(refine sB S rfl rfl ?_;clear S;intro h S));refine mv ?_;refine qf ?_)))
  refine qi ⟨_,jE S rfl (by first|exact .there (.there (.there .here))) (by exact rfl) (by exact rfl),?_⟩;rw [e0];refine ⟨⟨sv,N.map fun n=>(tix p.tabs n:Int),(zJ (wordAt ws 1):Nat),(zJ (wordAt ws 2):Nat)⟩,rfl,fun _=>?_,S.only .here⟩;unfold XV;rw [hN]
theorem PS {h0:AH} (w:WfH h0) (pv:PbV) (p:Pb) (H:PbOk h0 pv p) (s:List UInt8) :
 Fn Tryz.prog Xh 17 [pv.val,str s] h0 (fun u h'=>∃ vo ts i e,u = .tuple #[vo,.int .i64 i,.int .i64 e]∧Hs h0 h' [.sl vo 71 3 jo ts,zY zy ts]∧((¬ PO p∧ts=[]∧i=0∧e≠0∧∃ i,CkP p i e)∨(PO p∧(ts.map (·.trp),i,e)=Xb p.tabs s))):=by
 have S:=Hs.start w;have hnil:∀ {h2:AH} {rs:List Rs} (S2:Hs h0 h2 rs),Hs h0 h2 [.sl (.slice none 0 0) 71 3 jo [],zY zy []]:=fun S2=>Hs.nilS (Hs.owNil (f:=zy) S2.drop);unfold PbV.val;refine qF (by first|rfl) Tryz.func17 rfl rfl ?_;all_goals (repeat' (first|refine qg ?_|(refine qc 0 ?_;(refine bx S ?_;clear S;intro b h S);(iterate 3 refine mv ?_);refine qf ?_)|(refine qc 1 ?_;refine lB S rfl rfl ?_)))
 obtain ⟨b2,hnm⟩:∃ x,x=b:=⟨_,rfl⟩;subst hnm;(refine qo rfl rfl rfl rfl rfl ((V3 S.wf pv p (H.ext w S.ext)).mono ?_);rintro _ h ⟨i,e,rfl,hk,x⟩)<;>(replace S:=S.join0 x;clear x;refine mv ?_;refine vl ?_;refine vl ?_;refine mv ?_;refine mv ?_;refine qf ?_)
 have hpo:=hk.po;all_goals (repeat' (first|refine qg ?_|refine qh rfl ?_|refine qj ?_|(refine qc 2 ?_;refine mv ?_;(first|(refine cS ?_ ?_<;>intro hc))<;>(refine qf ?_))|(refine qc 3 ?_;(iterate 4 refine mv ?_);refine qf ?_)))
 ·refine qi ⟨_,rfl,?_⟩;exact ⟨.slice none 0 0,[],0,e,rfl,hnil S,.inl ⟨fun q=>(by assumption:¬ e=0) (hpo.2 q),rfl,rfl,by assumption,i,hk⟩⟩
 have hP:PO p:=hpo.1 (by omega);all_goals (repeat' (first|refine qg ?_|refine qh rfl ?_|refine qj ?_|(refine qc 4 ?_;refine mv ?_;refine tl ?_;(first|(refine cS ?_ ?_<;>intro hc))<;>(refine qf ?_))|(refine qc 5 ?_;(iterate 3 refine mv ?_);refine qf ?_)))
 ·refine qi ⟨_,rfl,?_⟩;exact ⟨.slice none 0 0,[],0,7,rfl,hnil S,.inr ⟨hP,by unfold Xb;rw [if_pos (by omega)];rfl⟩⟩
 have hs:s.length≤65536:=by omega
 have hR:Xb p.tabs s=XN p.tabs [] 0 (ji 10 s):=by unfold Xb;rw [if_neg (by omega)]
 rw [hR];generalize hRR:XN p.tabs [] 0 (ji 10 s)=R
 all_goals (repeat' (first|refine qg ?_|refine ql ?_|(refine qc 6 ?_;refine mv ?_;refine qf ?_)|(refine qc 7 ?_;refine mv ?_;refine qf ?_)))
 replace S:Hs h0 h [.sl (.slice none 0 0) 71 3 jo [],zY zy [],.blk b2 pv.cs 28]:=(S.owNil (f:=zy)).nilS;refine qG (σ:=Nat×List UInt8×Value×List Tr_) (fun (i,t,vo,ts) h'=>Hs h0 h' [.sl vo 71 3 jo ts,zY zy ts,.blk b2 pv.cs 28]∧i+t.length≤65536∧ts.length≤i∧XN p.tabs (ts.map (·.trp)) i (ji 10 t)=R) (fun (i,t,vo,ts)=>t.length) (fun (i,t,vo,ts)=>[(1,str t),(2,.pointer (some ⟨b2,0,none⟩)),(9,vo),(10,.int .i64 i)]) (0,s,.slice none 0 0,[]) qw ?_ ?_
 ·exact ⟨S,by omega,zB0 _,hRR⟩
 clear S;rintro ⟨i,t,vo,ts⟩ h ⟨S,g1,g2,g3⟩;all_goals (repeat' (first|refine qg ?_|refine qh rfl ?_|refine qj ?_|refine qx ?_|refine ql ?_|(refine qc 8 ?_;refine mv ?_;(refine tS ?_ ?_<;>intro hc)<;>(refine qf ?_))))
 ·have ht:t=[]:=by assumption
  subst ht;rw [show ji 10 []=[[]] from rfl,pX] at g3;all_goals (repeat' (first|(refine qc 18 ?_;(iterate 4 refine mv ?_);refine qf ?_)))
  refine qi ⟨_,rfl,?_⟩;exact ⟨vo,ts,0,0,rfl,S.pick,.inr ⟨hP,g3⟩⟩
 have ht:¬ t=[]:=by assumption
 all_goals (repeat' (first|(refine qc 10 ?_;refine mv ?_)))
 rcases hf:Qh 10 t with _|m
 ·have e:cutV 10 t = .tuple #[str t,str [],.bool false]:=by unfold cutV;rw [hf]
  (refine qo rfl rfl rfl rfl rfl ((pR t [10] rfl (by omega)).mono ?_);rintro _ _ ⟨hv,rfl⟩)<;>(rw [show ([10]:List UInt8).getD 0 0=10 from rfl,e] at hv;subst hv;refine mv ?_;refine vl ?_;refine vl ?_;refine vl ?_;(iterate 3 refine mv ?_);refine qf ?_)
  all_goals (repeat' (first|refine qg ?_|refine qh rfl ?_|(refine qc 11 ?_;refine mv ?_;refine vl ?_;refine qf ?_)|(refine qc 12 ?_;(iterate 4 refine mv ?_);refine qf ?_)))
  refine qi ⟨_,rfl,?_⟩;rw [X3 (XE.1 hf),kL ht] at g3;exact ⟨.slice none 0 0,[],i,3,rfl,hnil S,.inr ⟨hP,g3⟩⟩
 ·have e:cutV 10 t = .tuple #[str (t.take m),str (t.drop (m+1)),.bool true]:=by unfold cutV;rw [hf]
  obtain ⟨m1,m2,m3⟩:=Zb hf;rw [wZ hf] at g3;(refine qo rfl rfl rfl rfl rfl ((pR t [10] rfl (by omega)).mono ?_);rintro _ _ ⟨hv,rfl⟩)<;>(rw [show ([10]:List UInt8).getD 0 0=10 from rfl,e] at hv;subst hv;refine mv ?_;refine vl ?_;refine vl ?_;refine vl ?_;(iterate 3 refine mv ?_);refine qf ?_)
  all_goals (repeat' (first|refine qg ?_|refine qh rfl ?_|refine qj ?_|(refine qc 11 ?_;refine mv ?_;refine vl ?_;refine qf ?_)|(refine qc 13 ?_;refine lB S rfl rfl ?_;refine mv ?_)))
  have htk:(t.take m).length≤100000:=by rw [zA9];omega
  (refine qo rfl rfl rfl rfl rfl ((qaS S.wf pv p (H.ext w S.ext) hP.tabs (t.take m) htk).mono ?_);rintro _ h ⟨x,rfl,hx,y⟩)<;>(replace S:=S.join1 y;clear y;refine mv ?_;refine vl ?_;refine vl ?_;(refine al S ?_;clear S;intro b h S);(first|(refine sB S rfl rfl ?_;clear S;intro h S));refine mv ?_;refine qf ?_)
  obtain ⟨b14,hnm⟩:∃ x,x=b:=⟨_,rfl⟩;subst hnm;replace S:Hs h0 h [.blk b14 (jo x) 71,zy x,.sl vo 71 3 jo ts,zY zy ts,.blk b2 pv.cs 28]:=S;all_goals (repeat' (first|refine qg ?_|refine qh rfl ?_|refine qj ?_|(refine qc 14 ?_;refine mv ?_;(first|(refine cS ?_ ?_<;>intro hc))<;>(refine qf ?_))|(refine qc 15 ?_;(iterate 5 refine mv ?_);refine qf ?_)))
  ·refine qi ⟨_,rfl,?_⟩;have hne:¬ Yy p.tabs (ji 32 (t.take m))=0:=by assumption
   rw [yZ (Z4 _ _) hne] at g3;exact ⟨.slice none 0 0,[],i,_,rfl,hnil S,.inr ⟨hP,g3⟩⟩
  ·have h0e:Yy p.tabs (ji 32 (t.take m))=0:=by omega
   rw [qbi (Z4 _ _) h0e] at g3;all_goals (repeat' (first|(refine qc 16 ?_;refine mv ?_;refine lB S rfl rfl ?_;(refine one 3 S ?_;clear S;intro u h S))))
   refine app (y0:=x) S rfl rfl ?_;clear S;intro v1 h S;(refine mv ?_;refine qf ?_);replace S:Hs h0 h [.sl v1 71 3 jo (ts ++ [x]),.blk b14 (jo x) 71,zy x,zY zy ts,.blk b2 pv.cs 28]:=S;have S:=(show Hs h0 h [zy x,zY zy ts,.sl v1 71 3 jo (ts ++ [x]),.blk b2 pv.cs 28] from S.pick)
   have S:=Hs.owApp (f:=zy) (g:=x) S;all_goals (repeat' (first|(refine qc 9 ?_;refine mv ?_;refine ad ?_;refine mv ?_;refine qf ?_)|(refine qc 17 ?_;refine mv ?_;refine mv ?_;refine qf ?_)))
   refine ⟨(i+1,t.drop (m+1),v1,ts ++ [x]),?_,?_,qw⟩
   ·show (t.drop (m+1)).length<t.length;rw [zB4];omega
   ·refine ⟨S.pick,by rw [zB4];omega,by simp;omega,?_⟩;rw [zC9,List.map_cons,List.map_nil,hx h0e];exact g3
end Go.Proofs.Xx
