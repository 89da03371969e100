/-
  Itoa,for numbers below 10^9.
-/
import Derived.Test.YtgehpahpnidimaaGreatDoorM13
import Derived.Test.YtgehpahpnidimaaGreatDoorM12
set_option linter.unusedSimpArgs false
set_option linter.unusedVariables false
set_option linter.unusedSectionVars false
set_option maxRecDepth 100000
set_option maxHeartbeats 4000000
namespace Go.Proofs.Xx
open Go Go.Proofs
section
variable {P:Program} {X:Extern} {sz:Nat} {L L':Ks} {h:AH} {ops:Array Oper} {os:List Oper} {o:Oper} {R:Ks→AH→Prop}
theorem wrap_u32 {n:Int} (h:0≤n∧n≤4294967295):IntKind.u32.wrap n=n:=vU (by simpa [IntKind.min,IntKind.max,IntKind.signed,IntKind.bits] using h)
theorem Jy {x y:Operand} {ty ty2:TypeId} {a b:Int} (w:KO P X sz ops os L' h R) (ho:o.op = .binOp .rem ty x y ty2:=by exact rfl) (hg:qm ops L.tree o.guard=some true:=by exact rfl) (hx:kA L x=some (.int .u32 a):=by exact rfl) (hy:kA L y=some (.int .u32 b):=by exact rfl)
 (hb:0≤a∧0<b:=by omega) (hp:qB sz L o.dst (.int .u32 (a % b))=some L':=by exact rfl):KO P X sz ops (o :: os) L h R :=
 zI ho hg hx hy (by
  have h1:¬ b=0:=by omega
  have h2:a.tmod b=a % b:=Int.tmod_eq_emod_of_nonneg hb.1;simp only [jM,decide_true,decide_eq_false h1,h2]) hp w
theorem JA {x y:Operand} {ty ty2:TypeId} {a b:Int} (w:KO P X sz ops os L' h R) (ho:o.op = .binOp .quo ty x y ty2:=by exact rfl) (hg:qm ops L.tree o.guard=some true:=by exact rfl) (hx:kA L x=some (.int .u32 a):=by exact rfl) (hy:kA L y=some (.int .u32 b):=by exact rfl)
 (hb:0≤a∧a≤4294967295∧0<b:=by omega) (hp:qB sz L o.dst (.int .u32 (a / b))=some L':=by exact rfl):KO P X sz ops (o :: os) L h R :=
 zI ho hg hx hy (by
  have h1:¬ b=0:=by omega
  have h2:a.tdiv b=a / b:=Int.tdiv_eq_ediv_of_nonneg hb.1;have h3:0≤a / b:=Int.ediv_nonneg hb.1 (by omega);have h4:a / b≤a:=Int.ediv_le_self _ hb.1;simp only [jM,decide_true,decide_eq_false h1,h2,wrap_u32 ⟨h3,(by omega:a / b≤4294967295)⟩]) hp w
theorem Ja {x y:Operand} {ty ty2:TypeId} {a b:Int} (w:KO P X sz ops os L' h R) (ho:o.op = .binOp .mul ty x y ty2:=by exact rfl) (hg:qm ops L.tree o.guard=some true:=by exact rfl) (hx:kA L x=some (.int .u32 a):=by exact rfl) (hy:kA L y=some (.int .u32 b):=by exact rfl)
 (hb:0≤a*b∧a*b≤4294967295:=by omega) (hp:qB sz L o.dst (.int .u32 (a*b))=some L':=by exact rfl):KO P X sz ops (o :: os) L h R :=
 zI ho hg hx hy (by simp only [jM,decide_true,wrap_u32 hb]) hp w
theorem Zc {x y:Operand} {ty ty2:TypeId} {a b:Int} (w:KO P X sz ops os L' h R) (ho:o.op = .binOp .add ty x y ty2:=by exact rfl) (hg:qm ops L.tree o.guard=some true:=by exact rfl) (hx:kA L x=some (.int .u32 a):=by exact rfl) (hy:kA L y=some (.int .u32 b):=by exact rfl)
 (hb:0≤a+b∧a+b≤4294967295:=by omega) (hp:qB sz L o.dst (.int .u32 (a+b))=some L':=by exact rfl):KO P X sz ops (o :: os) L h R :=
 zI ho hg hx hy (by simp only [jM,decide_true,wrap_u32 hb]) hp w
theorem vT {x:Operand} {s d:TypeId} {k1 k2:IntKind} {a:Int} (w:KO P X sz ops os L' h R) (ho:o.op = .convert s d x:=by exact rfl) (hg:qm ops L.tree o.guard=some true:=by exact rfl) (hx:kA L x=some (.int k1 a):=by exact rfl) (hs:P.underlying s=some (.int k2):=by exact rfl) (hd:P.underlying d=some (.int .u32):=by exact rfl)
 (hb:0≤a∧a≤4294967295:=by omega) (hp:qB sz L o.dst (.int .u32 a)=some L':=by exact rfl):KO P X sz ops (o :: os) L h R :=
 qV (v:=.int .u32 a) hg (by rw [ho];simp only [zC,qA hx,zD,hs,hd,wrap_u32 hb]) hp w
theorem qfe {x y:Operand} {ty ty2:TypeId} {a b:Int} (w:KO P X sz ops os L' h R) (ho:o.op = .binOp .rem ty x y ty2:=by exact rfl) (hg:qm ops L.tree o.guard=some true:=by exact rfl) (hx:kA L x=some (.int .u64 a):=by exact rfl) (hy:kA L y=some (.int .u64 b):=by exact rfl)
 (hb:0≤a∧0<b:=by omega) (hp:qB sz L o.dst (.int .u64 (a % b))=some L':=by exact rfl):KO P X sz ops (o :: os) L h R :=
 zI ho hg hx hy (by
  have h1:¬ b=0:=by omega
  have h2:a.tmod b=a % b:=Int.tmod_eq_emod_of_nonneg hb.1;simp only [jM,decide_true,decide_eq_false h1,h2]) hp w
theorem qfg {x y:Operand} {ty ty2:TypeId} {a b:Int} (w:KO P X sz ops os L' h R) (ho:o.op = .binOp .quo ty x y ty2:=by exact rfl) (hg:qm ops L.tree o.guard=some true:=by exact rfl) (hx:kA L x=some (.int .u64 a):=by exact rfl) (hy:kA L y=some (.int .u64 b):=by exact rfl)
 (hb:0≤a∧a≤18446744073709551615∧0<b:=by omega) (hp:qB sz L o.dst (.int .u64 (a / b))=some L':=by exact rfl):KO P X sz ops (o :: os) L h R :=
 zI ho hg hx hy (by
  have h1:¬ b=0:=by omega
  have h2:a.tdiv b=a / b:=Int.tdiv_eq_ediv_of_nonneg hb.1;have h3:0≤a / b:=Int.ediv_nonneg hb.1 (by omega);have h4:a / b≤a:=Int.ediv_le_self _ hb.1;simp only [jM,decide_true,decide_eq_false h1,h2,wrap_u64 ⟨h3,(by omega:a / b≤18446744073709551615)⟩]) hp w
theorem pO {x lo hi:Operand} {vl vr:Value} {ty e' e:TypeId} {b m l r z:Nat} {c:List Value} (hb:h.get b=some (.cells c e none false))
 (w:KO P X sz ops os L' h R) (ho:o.op = .slice ty x (some lo) (some hi) none:=by exact rfl) (hg:qm ops L.tree o.guard=some true:=by exact rfl) (hx:kA L x=some (.pointer (some ⟨b,0,none⟩)):=by exact rfl)
 (h1:kA L lo=some vl:=by exact rfl) (h2:kA L hi=some vr:=by exact rfl) (b1:qP (some vl) 0=some l:=by exact rfl) (hu:P.underlying ty=some (.array m e'):=by exact rfl) (b2:qP (some vr) m=some r:=by exact rfl)
 (hc:l≤r∧r≤m∧l<m:=by omega) (hz:zq P e'=some z:=by exact rfl) (hp:qB sz L o.dst (.slice (some ⟨b,0+l*z,none⟩) (r - l) (m - l))=some L':=by exact rfl):KO P X sz ops (o :: os) L h R:=by
 refine qV (v:=.slice (some ⟨b,0+l*z,none⟩) (r - l) (m - l)) (h':=h) hg ?_ hp w;have hne:Nat.beq l m=false:=by rw [Bool.eq_false_iff];intro q;have:=zA6 q;omega
 rw [ho];simp only [zC,qA hx,zO,qA h1,qA h2,Yo,zo,hu,hb,hz,b1,b2,zB3 hc.1,zB3 hc.2.1,zF8,hne,qH]
end
variable [Flag]
theorem qcy {h0:AH} (hf:Flag.b=true) (n:Nat) (hn:1≤n∧n<18446744073709551616):Fn Tryz.prog Xh 235 [.int .u64 n] h0 (fun v h'=>v = .int .i64 (Lib.nDigits n)∧h'=h0):=by
 refine Zd (v:=.int .i64 (Lib.nDigits n)) (h':=h0) ?_ ⟨rfl,rfl⟩;show (if @Flag.b flagOn=true∧1≤(n:Int)∧(n:Int)<18446744073709551616 then some (Value.int .i64 (Lib.nDigits (n:Int).toNat),h0) else none)=_
 rw [if_pos ⟨rfl,by omega,by omega⟩,zA0]
def qgO (l:List Value):List Value:=l ++ List.replicate (24 - l.length) (.int .u8 0)
theorem Pv:∀ k,k<100→d100.getD (k*2) 0=UInt8.ofNat (48+k / 10)∧d100.getD (k*2+1) 0=UInt8.ofNat (48+k % 10):=by decide +kernel
section
variable {P:Program} {X:Extern} {sz:Nat} {L L':Ks} {h:AH} {ops:Array Oper} {os:List Oper} {o:Oper} {R:Ks→AH→Prop}
theorem yM {x i:Operand} {ty:TypeId} {ik:IntKind} {a:Int} (k:Nat) (w:KO P X sz ops os L' h R) (ho:o.op = .index ty x i:=by exact rfl) (hg:qm ops L.tree o.guard=some true:=by exact rfl) (hx:kA L x=some (str d100):=by exact rfl) (hi:kA L i=some (.int ik a):=by exact rfl) (hu:P.underlying ty=some .string:=by exact rfl)
 (ha:a=(k:Int)*2∧k<100:=by omega) (hp:qB sz L o.dst (.int .u8 ((48+k / 10:Nat):Int))=some L':=by exact rfl):KO P X sz ops (o :: os) L h R:=by
 have e:(((d100.getD a.toNat 0).toNat:Nat):Int)=((48+k / 10:Nat):Int):=by
  rw [show a.toNat=k*2 by omega,(Pv k ha.2).1,u8t (by omega)]
 rw [← e] at hp;exact ti w ho hg hx hi hu ⟨by omega,by rw [show d100.length=200 by decide +kernel];omega⟩ hp
theorem yL {x i:Operand} {ty:TypeId} {ik:IntKind} {a:Int} (k:Nat) (w:KO P X sz ops os L' h R) (ho:o.op = .index ty x i:=by exact rfl) (hg:qm ops L.tree o.guard=some true:=by exact rfl) (hx:kA L x=some (str d100):=by exact rfl) (hi:kA L i=some (.int ik a):=by exact rfl) (hu:P.underlying ty=some .string:=by exact rfl)
 (ha:a=(k:Int)*2+1∧k<100:=by omega) (hp:qB sz L o.dst (.int .u8 ((48+k % 10:Nat):Int))=some L':=by exact rfl):KO P X sz ops (o :: os) L h R:=by
 have e:(((d100.getD a.toNat 0).toNat:Nat):Int)=((48+k % 10:Nat):Int):=by
  rw [show a.toNat=k*2+1 by omega,(Pv k ha.2).2,u8t (by omega)]
 rw [← e] at hp;exact ti w ho hg hx hi hu ⟨by omega,by rw [show d100.length=200 by decide +kernel];omega⟩ hp
end
abbrev z8 (k:Nat):List Value:=List.replicate k (.int .u8 0)
abbrev jv (k:Nat):Value:=.int .u8 ((k:Nat):Int)
theorem qej {h0 h:AH} {rs:List Rs} {b:Nat} (S:Hs h0 h (.blk b (z8 24) 254 :: rs)) (n:Nat) (hn:n<10 ^ 3):Fn Tryz.prog Xh 236 [.slice (some ⟨b,1,none⟩) 3 23,.int .u64 n] h
 (fun _ h'=>Hs h0 h' (.blk b (.int .u8 0 :: jv (48+(n / 100)) :: jv (48+n % 100 / 10) :: jv (48+n % 100 % 10) :: z8 20) 254 :: rs)):=by
 have hn:n<1000:=hn;refine qF (by first|rfl) Tryz.func236 rfl rfl ?_;all_goals (repeat' (first|refine qg ?_|refine ql ?_|(refine qc 0 ?_;refine mv ?_;refine vl ?_;refine mv ?_;refine qf ?_)))
 refine qG (σ:=Unit) (fun _ h'=>Hs h0 h' (.blk b (z8 24) 254 :: rs)) (fun _=>0) (fun _=>[(0,.slice (some ⟨b,1,none⟩) 3 23),(1,.int .u64 n),(4,.int .i64 3)]) () qw ?_ ?_
 ·exact S
 clear S;rintro - h S;all_goals (repeat' (first|refine qg ?_|refine qh rfl ?_|refine qj ?_|refine qx ?_|(refine qc 1 ?_;refine mv ?_;(refine cF ?_)<;>(refine qf ?_))|(refine qc 12 ?_;refine mv ?_;refine vT ?_;refine mv ?_;refine qf ?_)|(refine qc 13 ?_;refine mv ?_;(refine cF ?_)<;>(refine qf ?_))|(refine qc 20 ?_;refine mv ?_;(refine cT ?_)<;>(refine qf ?_))|(refine qc 21 ?_;refine mv ?_;refine Jy ?_;refine Ja ?_;refine mv ?_;refine qf ?_)|(refine qc 22 ?_;refine mv ?_;refine JA ?_;refine mv ?_;refine qf ?_)))
 (repeat (refine qg ?_))
 refine qQ 23 ?_;refine mv ?_;refine mv ?_;refine sb ?_;refine mv ?_;refine mv ?_;refine sb ?_;refine mv ?_;refine Zc ?_;refine yL (n % 100) ?_;refine mv ?_;refine yM (n % 100) ?_;refine vl ?_;(refine sB S rfl rfl ?_;clear S;intro h S);refine vl ?_;(refine sB S rfl rfl ?_;clear S;intro h S);refine qf ?_;all_goals (repeat' (first|refine qg ?_|refine qh rfl ?_|(refine qc 24 ?_;refine mv ?_;refine sb ?_;refine mv ?_;refine qf ?_)|(refine qc 25 ?_;refine mv ?_;(refine cT ?_)<;>(refine qf ?_))|(refine qc 26 ?_;refine mv ?_;refine mv ?_;refine Zc ?_;refine cU ?_;refine vl ?_;(first|(refine sB S rfl rfl ?_;clear S;intro h S));refine qf ?_)))
 refine ⟨_,rfl,?_⟩;exact S
theorem qfG {n:Nat} (h:100≤n∧n<1000):[48+(n / 100),48+n % 100 / 10,48+n % 100 % 10].map UInt8.ofNat=QE n:=by
 rw [jg (show ¬ n<10 by omega)];rw [jg (show ¬ n / 10<10 by omega)];rw [YM (show n / 10 / 10<10 by omega)];rw [show 48+(n / 100)=48+n / 10 / 10 by omega];rw [show 48+n % 100 / 10=48+n / 10 % 10 by omega];rw [show 48+n % 100 % 10=48+n % 10 by omega];rfl
theorem qgk {n:Nat} (h:100≤n∧n<1000):Lib.nDigits n=3:=by
 rw [Lib.nDigits,dif_neg (by omega),Lib.nDigits,dif_neg (by omega),Lib.nDigits,dif_pos (by omega)]
theorem qei {h0 h:AH} {rs:List Rs} {b:Nat} (S:Hs h0 h (.blk b (z8 24) 254 :: rs)) (n:Nat) (hn:n<10 ^ 4):Fn Tryz.prog Xh 236 [.slice (some ⟨b,1,none⟩) 4 23,.int .u64 n] h
 (fun _ h'=>Hs h0 h' (.blk b (.int .u8 0 :: jv (48+(n % 10000) / 100 / 10) :: jv (48+(n % 10000) / 100 % 10) :: jv (48+(n % 10000) % 100 / 10) :: jv (48+(n % 10000) % 100 % 10) :: z8 19) 254 :: rs)):=by
 have hn:n<10000:=hn;refine qF (by first|rfl) Tryz.func236 rfl rfl ?_;all_goals (repeat' (first|refine qg ?_|refine ql ?_|(refine qc 0 ?_;refine mv ?_;refine vl ?_;refine mv ?_;refine qf ?_)))
 refine qG (σ:=Unit) (fun _ h'=>Hs h0 h' (.blk b (z8 24) 254 :: rs)) (fun _=>0) (fun _=>[(0,.slice (some ⟨b,1,none⟩) 4 23),(1,.int .u64 n),(4,.int .i64 4)]) () qw ?_ ?_
 ·exact S
 clear S;rintro - h S;all_goals (repeat' (first|refine qg ?_|refine qh rfl ?_|refine qx ?_|(refine qc 1 ?_;refine mv ?_;(refine cF ?_)<;>(refine qf ?_))|(refine qc 12 ?_;refine mv ?_;refine vT ?_;refine mv ?_;refine qf ?_)|(refine qc 13 ?_;refine mv ?_;(refine cT ?_)<;>(refine qf ?_))|(refine qc 14 ?_;refine mv ?_;refine Jy ?_;refine mv ?_;refine qf ?_)|(refine qc 15 ?_;refine mv ?_;refine JA ?_;refine mv ?_;refine qf ?_)|(refine qc 16 ?_;refine mv ?_;refine JA ?_;refine Ja ?_;refine mv ?_;refine Jy ?_;refine Ja ?_;refine mv ?_;refine mv ?_;refine qf ?_)))
 (repeat (refine qg ?_))
 refine qQ 17 ?_;refine mv ?_;refine mv ?_;refine sb ?_;refine mv ?_;refine mv ?_;refine sb ?_;refine mv ?_;refine Zc ?_;refine yL (n % 10000 % 100) ?_;refine mv ?_;refine yM (n % 10000 % 100) ?_;refine vl ?_;(refine sB S rfl rfl ?_;clear S;intro h S);refine vl ?_;(refine sB S rfl rfl ?_;clear S;intro h S);refine qf ?_;(repeat (refine qg ?_));refine qQ 18 ?_;refine mv ?_;refine mv ?_;refine sb ?_;refine mv ?_;refine mv ?_;refine sb ?_;refine mv ?_;refine Zc ?_;refine yL (n % 10000 / 100) ?_;refine mv ?_;refine yM (n % 10000 / 100) ?_;refine vl ?_;(refine sB S rfl rfl ?_;clear S;intro h S);refine vl ?_;(refine sB S rfl rfl ?_;clear S;intro h S);refine qf ?_;all_goals (repeat' (first|refine qg ?_|refine qh rfl ?_|refine qj ?_|(refine qc 19 ?_;refine mv ?_;refine sb ?_;refine mv ?_;refine qf ?_)|(refine qc 20 ?_;refine mv ?_;(refine cF ?_)<;>(refine qf ?_))|(refine qc 25 ?_;refine mv ?_;(refine cF ?_)<;>(refine qf ?_))))
 refine ⟨_,rfl,?_⟩;exact S
theorem qfF {n:Nat} (h:1000≤n∧n<10000):[48+(n % 10000) / 100 / 10,48+(n % 10000) / 100 % 10,48+(n % 10000) % 100 / 10,48+(n % 10000) % 100 % 10].map UInt8.ofNat=QE n:=by
 rw [jg (show ¬ n<10 by omega)];rw [jg (show ¬ n / 10<10 by omega)];rw [jg (show ¬ n / 10 / 10<10 by omega)];rw [YM (show n / 10 / 10 / 10<10 by omega)];rw [show 48+(n % 10000) / 100 / 10=48+n / 10 / 10 / 10 by omega];rw [show 48+(n % 10000) / 100 % 10=48+n / 10 / 10 % 10 by omega];rw [show 48+(n % 10000) % 100 / 10=48+n / 10 % 10 by omega];rw [show 48+(n % 10000) % 100 % 10=48+n % 10 by omega];rfl
theorem qgj {n:Nat} (h:1000≤n∧n<10000):Lib.nDigits n=4:=by
 rw [Lib.nDigits,dif_neg (by omega),Lib.nDigits,dif_neg (by omega),Lib.nDigits,dif_neg (by omega),Lib.nDigits,dif_pos (by omega)]
theorem qeh {h0 h:AH} {rs:List Rs} {b:Nat} (S:Hs h0 h (.blk b (z8 24) 254 :: rs)) (n:Nat) (hn:n<10 ^ 5):Fn Tryz.prog Xh 236 [.slice (some ⟨b,1,none⟩) 5 23,.int .u64 n] h
 (fun _ h'=>Hs h0 h' (.blk b (.int .u8 0 :: jv (48+(n / 10000)) :: jv (48+(n % 10000) / 100 / 10) :: jv (48+(n % 10000) / 100 % 10) :: jv (48+(n % 10000) % 100 / 10) :: jv (48+(n % 10000) % 100 % 10) :: z8 18) 254 :: rs)):=by
 have hn:n<100000:=hn;refine qF (by first|rfl) Tryz.func236 rfl rfl ?_;all_goals (repeat' (first|refine qg ?_|refine ql ?_|(refine qc 0 ?_;refine mv ?_;refine vl ?_;refine mv ?_;refine qf ?_)))
 refine qG (σ:=Unit) (fun _ h'=>Hs h0 h' (.blk b (z8 24) 254 :: rs)) (fun _=>0) (fun _=>[(0,.slice (some ⟨b,1,none⟩) 5 23),(1,.int .u64 n),(4,.int .i64 5)]) () qw ?_ ?_
 ·exact S
 clear S;rintro - h S;all_goals (repeat' (first|refine qg ?_|refine qh rfl ?_|refine qx ?_|(refine qc 1 ?_;refine mv ?_;(refine cF ?_)<;>(refine qf ?_))|(refine qc 12 ?_;refine mv ?_;refine vT ?_;refine mv ?_;refine qf ?_)|(refine qc 13 ?_;refine mv ?_;(refine cT ?_)<;>(refine qf ?_))|(refine qc 14 ?_;refine mv ?_;refine Jy ?_;refine mv ?_;refine qf ?_)|(refine qc 15 ?_;refine mv ?_;refine JA ?_;refine mv ?_;refine qf ?_)|(refine qc 16 ?_;refine mv ?_;refine JA ?_;refine Ja ?_;refine mv ?_;refine Jy ?_;refine Ja ?_;refine mv ?_;refine mv ?_;refine qf ?_)))
 (repeat (refine qg ?_))
 refine qQ 17 ?_;refine mv ?_;refine mv ?_;refine sb ?_;refine mv ?_;refine mv ?_;refine sb ?_;refine mv ?_;refine Zc ?_;refine yL (n % 10000 % 100) ?_;refine mv ?_;refine yM (n % 10000 % 100) ?_;refine vl ?_;(refine sB S rfl rfl ?_;clear S;intro h S);refine vl ?_;(refine sB S rfl rfl ?_;clear S;intro h S);refine qf ?_;(repeat (refine qg ?_));refine qQ 18 ?_;refine mv ?_;refine mv ?_;refine sb ?_;refine mv ?_;refine mv ?_;refine sb ?_;refine mv ?_;refine Zc ?_;refine yL (n % 10000 / 100) ?_;refine mv ?_;refine yM (n % 10000 / 100) ?_;refine vl ?_;(refine sB S rfl rfl ?_;clear S;intro h S);refine vl ?_;(refine sB S rfl rfl ?_;clear S;intro h S);refine qf ?_;all_goals (repeat' (first|refine qg ?_|refine qh rfl ?_|refine qj ?_|(refine qc 19 ?_;refine mv ?_;refine sb ?_;refine mv ?_;refine qf ?_)|(refine qc 20 ?_;refine mv ?_;(refine cF ?_)<;>(refine qf ?_))|(refine qc 25 ?_;refine mv ?_;(refine cT ?_)<;>(refine qf ?_))|(refine qc 26 ?_;refine mv ?_;refine mv ?_;refine Zc ?_;refine cU ?_;refine vl ?_;(first|(refine sB S rfl rfl ?_;clear S;intro h S));refine qf ?_)))
 refine ⟨_,rfl,?_⟩;exact S
theorem qfE {n:Nat} (h:10000≤n∧n<100000):[48+(n / 10000),48+(n % 10000) / 100 / 10,48+(n % 10000) / 100 % 10,48+(n % 10000) % 100 / 10,48+(n % 10000) % 100 % 10].map UInt8.ofNat=QE n:=by
 rw [jg (show ¬ n<10 by omega)];rw [jg (show ¬ n / 10<10 by omega)];rw [jg (show ¬ n / 10 / 10<10 by omega)];rw [jg (show ¬ n / 10 / 10 / 10<10 by omega)];rw [YM (show n / 10 / 10 / 10 / 10<10 by omega)];rw [show 48+(n / 10000)=48+n / 10 / 10 / 10 / 10 by omega];rw [show 48+(n % 10000) / 100 / 10=48+n / 10 / 10 / 10 % 10 by omega];rw [show 48+(n % 10000) / 100 % 10=48+n / 10 / 10 % 10 by omega];rw [show 48+(n % 10000) % 100 / 10=48+n / 10 % 10 by omega];rw [show 48+(n % 10000) % 100 % 10=48+n % 10 by omega];rfl
theorem qgi {n:Nat} (h:10000≤n∧n<100000):Lib.nDigits n=5:=by
 rw [Lib.nDigits,dif_neg (by omega),Lib.nDigits,dif_neg (by omega),Lib.nDigits,dif_neg (by omega),Lib.nDigits,dif_neg (by omega),Lib.nDigits,dif_pos (by omega)]
theorem qeg {h0 h:AH} {rs:List Rs} {b:Nat} (S:Hs h0 h (.blk b (z8 24) 254 :: rs)) (n:Nat) (hn:n<10 ^ 6):Fn Tryz.prog Xh 236 [.slice (some ⟨b,1,none⟩) 6 23,.int .u64 n] h
 (fun _ h'=>Hs h0 h' (.blk b (.int .u8 0 :: jv (48+(n / 10000) % 100 / 10) :: jv (48+(n / 10000) % 100 % 10) :: jv (48+(n % 10000) / 100 / 10) :: jv (48+(n % 10000) / 100 % 10) :: jv (48+(n % 10000) % 100 / 10) :: jv (48+(n % 10000) % 100 % 10) :: z8 17) 254 :: rs)):=by
 have hn:n<1000000:=hn;refine qF (by first|rfl) Tryz.func236 rfl rfl ?_;all_goals (repeat' (first|refine qg ?_|refine ql ?_|(refine qc 0 ?_;refine mv ?_;refine vl ?_;refine mv ?_;refine qf ?_)))
 refine qG (σ:=Unit) (fun _ h'=>Hs h0 h' (.blk b (z8 24) 254 :: rs)) (fun _=>0) (fun _=>[(0,.slice (some ⟨b,1,none⟩) 6 23),(1,.int .u64 n),(4,.int .i64 6)]) () qw ?_ ?_
 ·exact S
 clear S;rintro - h S;all_goals (repeat' (first|refine qg ?_|refine qh rfl ?_|refine qx ?_|(refine qc 1 ?_;refine mv ?_;(refine cF ?_)<;>(refine qf ?_))|(refine qc 12 ?_;refine mv ?_;refine vT ?_;refine mv ?_;refine qf ?_)|(refine qc 13 ?_;refine mv ?_;(refine cT ?_)<;>(refine qf ?_))|(refine qc 14 ?_;refine mv ?_;refine Jy ?_;refine mv ?_;refine qf ?_)|(refine qc 15 ?_;refine mv ?_;refine JA ?_;refine mv ?_;refine qf ?_)|(refine qc 16 ?_;refine mv ?_;refine JA ?_;refine Ja ?_;refine mv ?_;refine Jy ?_;refine Ja ?_;refine mv ?_;refine mv ?_;refine qf ?_)))
 (repeat (refine qg ?_))
 refine qQ 17 ?_;refine mv ?_;refine mv ?_;refine sb ?_;refine mv ?_;refine mv ?_;refine sb ?_;refine mv ?_;refine Zc ?_;refine yL (n % 10000 % 100) ?_;refine mv ?_;refine yM (n % 10000 % 100) ?_;refine vl ?_;(refine sB S rfl rfl ?_;clear S;intro h S);refine vl ?_;(refine sB S rfl rfl ?_;clear S;intro h S);refine qf ?_;(repeat (refine qg ?_));refine qQ 18 ?_;refine mv ?_;refine mv ?_;refine sb ?_;refine mv ?_;refine mv ?_;refine sb ?_;refine mv ?_;refine Zc ?_;refine yL (n % 10000 / 100) ?_;refine mv ?_;refine yM (n % 10000 / 100) ?_;refine vl ?_;(refine sB S rfl rfl ?_;clear S;intro h S);refine vl ?_;(refine sB S rfl rfl ?_;clear S;intro h S);refine qf ?_;all_goals (repeat' (first|refine qg ?_|refine qh rfl ?_|(refine qc 19 ?_;refine mv ?_;refine sb ?_;refine mv ?_;refine qf ?_)|(refine qc 20 ?_;refine mv ?_;(refine cT ?_)<;>(refine qf ?_))|(refine qc 21 ?_;refine mv ?_;refine Jy ?_;refine Ja ?_;refine mv ?_;refine qf ?_)|(refine qc 22 ?_;refine mv ?_;refine JA ?_;refine mv ?_;refine qf ?_)))
 (repeat (refine qg ?_))
 refine qQ 23 ?_;refine mv ?_;refine mv ?_;refine sb ?_;refine mv ?_;refine mv ?_;refine sb ?_;refine mv ?_;refine Zc ?_;refine yL (n / 10000 % 100) ?_;refine mv ?_;refine yM (n / 10000 % 100) ?_;refine vl ?_;(refine sB S rfl rfl ?_;clear S;intro h S);refine vl ?_;(refine sB S rfl rfl ?_;clear S;intro h S);refine qf ?_;all_goals (repeat' (first|refine qg ?_|refine qh rfl ?_|refine qj ?_|(refine qc 24 ?_;refine mv ?_;refine sb ?_;refine mv ?_;refine qf ?_)|(refine qc 25 ?_;refine mv ?_;(refine cF ?_)<;>(refine qf ?_))))
 refine ⟨_,rfl,?_⟩;exact S
theorem qfD {n:Nat} (h:100000≤n∧n<1000000):[48+(n / 10000) % 100 / 10,48+(n / 10000) % 100 % 10,48+(n % 10000) / 100 / 10,48+(n % 10000) / 100 % 10,48+(n % 10000) % 100 / 10,48+(n % 10000) % 100 % 10].map UInt8.ofNat=QE n:=by
 rw [jg (show ¬ n<10 by omega)];rw [jg (show ¬ n / 10<10 by omega)];rw [jg (show ¬ n / 10 / 10<10 by omega)];rw [jg (show ¬ n / 10 / 10 / 10<10 by omega)];rw [jg (show ¬ n / 10 / 10 / 10 / 10<10 by omega)];rw [YM (show n / 10 / 10 / 10 / 10 / 10<10 by omega)];rw [show 48+(n / 10000) % 100 / 10=48+n / 10 / 10 / 10 / 10 / 10 by omega];rw [show 48+(n / 10000) % 100 % 10=48+n / 10 / 10 / 10 / 10 % 10 by omega];rw [show 48+(n % 10000) / 100 / 10=48+n / 10 / 10 / 10 % 10 by omega];rw [show 48+(n % 10000) / 100 % 10=48+n / 10 / 10 % 10 by omega];rw [show 48+(n % 10000) % 100 / 10=48+n / 10 % 10 by omega];rw [show 48+(n % 10000) % 100 % 10=48+n % 10 by omega];rfl
theorem qgh {n:Nat} (h:100000≤n∧n<1000000):Lib.nDigits n=6:=by
 rw [Lib.nDigits,dif_neg (by omega),Lib.nDigits,dif_neg (by omega),Lib.nDigits,dif_neg (by omega),Lib.nDigits,dif_neg (by omega),Lib.nDigits,dif_neg (by omega),Lib.nDigits,dif_pos (by omega)]
theorem qef {h0 h:AH} {rs:List Rs} {b:Nat} (S:Hs h0 h (.blk b (z8 24) 254 :: rs)) (n:Nat) (hn:n<10 ^ 7):Fn Tryz.prog Xh 236 [.slice (some ⟨b,1,none⟩) 7 23,.int .u64 n] h
 (fun _ h'=>Hs h0 h' (.blk b (.int .u8 0 :: jv (48+((n / 10000) / 100)) :: jv (48+(n / 10000) % 100 / 10) :: jv (48+(n / 10000) % 100 % 10) :: jv (48+(n % 10000) / 100 / 10) :: jv (48+(n % 10000) / 100 % 10) :: jv (48+(n % 10000) % 100 / 10) :: jv (48+(n % 10000) % 100 % 10) :: z8 16) 254 :: rs)):=by
 have hn:n<10000000:=hn;refine qF (by first|rfl) Tryz.func236 rfl rfl ?_;all_goals (repeat' (first|refine qg ?_|refine ql ?_|(refine qc 0 ?_;refine mv ?_;refine vl ?_;refine mv ?_;refine qf ?_)))
 refine qG (σ:=Unit) (fun _ h'=>Hs h0 h' (.blk b (z8 24) 254 :: rs)) (fun _=>0) (fun _=>[(0,.slice (some ⟨b,1,none⟩) 7 23),(1,.int .u64 n),(4,.int .i64 7)]) () qw ?_ ?_
 ·exact S
 clear S;rintro - h S;all_goals (repeat' (first|refine qg ?_|refine qh rfl ?_|refine qx ?_|(refine qc 1 ?_;refine mv ?_;(refine cF ?_)<;>(refine qf ?_))|(refine qc 12 ?_;refine mv ?_;refine vT ?_;refine mv ?_;refine qf ?_)|(refine qc 13 ?_;refine mv ?_;(refine cT ?_)<;>(refine qf ?_))|(refine qc 14 ?_;refine mv ?_;refine Jy ?_;refine mv ?_;refine qf ?_)|(refine qc 15 ?_;refine mv ?_;refine JA ?_;refine mv ?_;refine qf ?_)|(refine qc 16 ?_;refine mv ?_;refine JA ?_;refine Ja ?_;refine mv ?_;refine Jy ?_;refine Ja ?_;refine mv ?_;refine mv ?_;refine qf ?_)))
 (repeat (refine qg ?_))
 refine qQ 17 ?_;refine mv ?_;refine mv ?_;refine sb ?_;refine mv ?_;refine mv ?_;refine sb ?_;refine mv ?_;refine Zc ?_;refine yL (n % 10000 % 100) ?_;refine mv ?_;refine yM (n % 10000 % 100) ?_;refine vl ?_;(refine sB S rfl rfl ?_;clear S;intro h S);refine vl ?_;(refine sB S rfl rfl ?_;clear S;intro h S);refine qf ?_;(repeat (refine qg ?_));refine qQ 18 ?_;refine mv ?_;refine mv ?_;refine sb ?_;refine mv ?_;refine mv ?_;refine sb ?_;refine mv ?_;refine Zc ?_;refine yL (n % 10000 / 100) ?_;refine mv ?_;refine yM (n % 10000 / 100) ?_;refine vl ?_;(refine sB S rfl rfl ?_;clear S;intro h S);refine vl ?_;(refine sB S rfl rfl ?_;clear S;intro h S);refine qf ?_;all_goals (repeat' (first|refine qg ?_|refine qh rfl ?_|(refine qc 19 ?_;refine mv ?_;refine sb ?_;refine mv ?_;refine qf ?_)|(refine qc 20 ?_;refine mv ?_;(refine cT ?_)<;>(refine qf ?_))|(refine qc 21 ?_;refine mv ?_;refine Jy ?_;refine Ja ?_;refine mv ?_;refine qf ?_)|(refine qc 22 ?_;refine mv ?_;refine JA ?_;refine mv ?_;refine qf ?_)))
 (repeat (refine qg ?_))
 refine qQ 23 ?_;refine mv ?_;refine mv ?_;refine sb ?_;refine mv ?_;refine mv ?_;refine sb ?_;refine mv ?_;refine Zc ?_;refine yL (n / 10000 % 100) ?_;refine mv ?_;refine yM (n / 10000 % 100) ?_;refine vl ?_;(refine sB S rfl rfl ?_;clear S;intro h S);refine vl ?_;(refine sB S rfl rfl ?_;clear S;intro h S);refine qf ?_;all_goals (repeat' (first|refine qg ?_|refine qh rfl ?_|(refine qc 24 ?_;refine mv ?_;refine sb ?_;refine mv ?_;refine qf ?_)|(refine qc 25 ?_;refine mv ?_;(refine cT ?_)<;>(refine qf ?_))|(refine qc 26 ?_;refine mv ?_;refine mv ?_;refine Zc ?_;refine cU ?_;refine vl ?_;(first|(refine sB S rfl rfl ?_;clear S;intro h S));refine qf ?_)))
 refine ⟨_,rfl,?_⟩;exact S
theorem qfC {n:Nat} (h:1000000≤n∧n<10000000):[48+((n / 10000) / 100),48+(n / 10000) % 100 / 10,48+(n / 10000) % 100 % 10,48+(n % 10000) / 100 / 10,48+(n % 10000) / 100 % 10,48+(n % 10000) % 100 / 10,48+(n % 10000) % 100 % 10].map UInt8.ofNat=QE n:=by
 rw [jg (show ¬ n<10 by omega)];rw [jg (show ¬ n / 10<10 by omega)];rw [jg (show ¬ n / 10 / 10<10 by omega)];rw [jg (show ¬ n / 10 / 10 / 10<10 by omega)];rw [jg (show ¬ n / 10 / 10 / 10 / 10<10 by omega)];rw [jg (show ¬ n / 10 / 10 / 10 / 10 / 10<10 by omega)];rw [YM (show n / 10 / 10 / 10 / 10 / 10 / 10<10 by omega)];rw [show 48+((n / 10000) / 100)=48+n / 10 / 10 / 10 / 10 / 10 / 10 by omega];rw [show 48+(n / 10000) % 100 / 10=48+n / 10 / 10 / 10 / 10 / 10 % 10 by omega];rw [show 48+(n / 10000) % 100 % 10=48+n / 10 / 10 / 10 / 10 % 10 by omega];rw [show 48+(n % 10000) / 100 / 10=48+n / 10 / 10 / 10 % 10 by omega];rw [show 48+(n % 10000) / 100 % 10=48+n / 10 / 10 % 10 by omega];rw [show 48+(n % 10000) % 100 / 10=48+n / 10 % 10 by omega];rw [show 48+(n % 10000) % 100 % 10=48+n % 10 by omega];rfl
theorem qgg {n:Nat} (h:1000000≤n∧n<10000000):Lib.nDigits n=7:=by
 rw [Lib.nDigits,dif_neg (by omega),Lib.nDigits,dif_neg (by omega),Lib.nDigits,dif_neg (by omega),Lib.nDigits,dif_neg (by omega),Lib.nDigits,dif_neg (by omega),Lib.nDigits,dif_neg (by omega),Lib.nDigits,dif_pos (by omega)]
theorem qee {h0 h:AH} {rs:List Rs} {b:Nat} (S:Hs h0 h (.blk b (z8 24) 254 :: rs)) (n:Nat) (hn:n<10 ^ 8):Fn Tryz.prog Xh 236 [.slice (some ⟨b,1,none⟩) 8 23,.int .u64 n] h
 (fun _ h'=>Hs h0 h' (.blk b (.int .u8 0 :: jv (48+(n % 100000000 / 10000) / 100 / 10) :: jv (48+(n % 100000000 / 10000) / 100 % 10) :: jv (48+(n % 100000000 / 10000) % 100 / 10) :: jv (48+(n % 100000000 / 10000) % 100 % 10) :: jv (48+(n % 100000000 % 10000) / 100 / 10) :: jv (48+(n % 100000000 % 10000) / 100 % 10) :: jv (48+(n % 100000000 % 10000) % 100 / 10) :: jv (48+(n % 100000000 % 10000) % 100 % 10) :: z8 15) 254 :: rs)):=by
 have hn:n<100000000:=hn;refine qF (by first|rfl) Tryz.func236 rfl rfl ?_;all_goals (repeat' (first|refine qg ?_|refine ql ?_|(refine qc 0 ?_;refine mv ?_;refine vl ?_;refine mv ?_;refine qf ?_)))
 refine qG (σ:=Bool) (fun c h'=>Hs h0 h' (.blk b (if c then (z8 1 ++ [jv (48+(n % 100000000 / 10000) / 100 / 10),jv (48+(n % 100000000 / 10000) / 100 % 10),jv (48+(n % 100000000 / 10000) % 100 / 10),jv (48+(n % 100000000 / 10000) % 100 % 10),jv (48+(n % 100000000 % 10000) / 100 / 10),jv (48+(n % 100000000 % 10000) / 100 % 10),jv (48+(n % 100000000 % 10000) % 100 / 10),jv (48+(n % 100000000 % 10000) % 100 % 10)] ++ z8 15) else z8 24) 254 :: rs)) (fun c=>if c then 0 else 1) (fun c=>[(0,.slice (some ⟨b,1,none⟩) 8 23),(1,.int .u64 (if c then (n:Int) / 100000000 else n)),(4,.int .i64 (if c then 0 else 8))]) false qw ?_ ?_
 ·exact S
 clear S;rintro c h S;cases c
 ·replace S:Hs h0 h (.blk b (z8 24) 254 :: rs):=S;simp only [if_false,zD9,if_true];all_goals (repeat' (first|refine qg ?_|refine qh rfl ?_|refine qj ?_|refine ql ?_|(refine qc 1 ?_;refine mv ?_;(refine cT ?_)<;>(refine qf ?_))))
  (repeat (refine qg ?_));refine qc 2 ?_;refine mv ?_;refine qfe ?_;refine vT ?_;refine mv ?_;refine qf ?_;(repeat (refine qg ?_));refine qc 3 ?_;refine mv ?_;refine qfg ?_;refine mv ?_;refine qf ?_;all_goals (repeat' (first|refine qg ?_|(refine qc 4 ?_;refine mv ?_;refine JA ?_;refine mv ?_;refine Jy ?_;refine mv ?_;refine mv ?_;refine qf ?_)|(refine qc 5 ?_;refine mv ?_;refine JA ?_;refine Ja ?_;refine mv ?_;refine Jy ?_;refine Ja ?_;refine mv ?_;refine mv ?_;refine qf ?_)|(refine qc 6 ?_;refine mv ?_;refine JA ?_;refine Ja ?_;refine mv ?_;refine Jy ?_;refine Ja ?_;refine mv ?_;refine mv ?_;refine qf ?_)))
  (repeat (refine qg ?_))
  refine qQ 7 ?_;refine mv ?_;refine mv ?_;refine sb ?_;refine mv ?_;refine mv ?_;refine sb ?_;refine mv ?_;refine Zc ?_;refine yL ((n % 100000000 % 10000) % 100) ?_;refine mv ?_;refine yM ((n % 100000000 % 10000) % 100) ?_;refine vl ?_;(refine sB S rfl rfl ?_;clear S;intro h S);refine vl ?_;(refine sB S rfl rfl ?_;clear S;intro h S);refine qf ?_;(repeat (refine qg ?_));refine qQ 8 ?_;refine mv ?_;refine mv ?_;refine sb ?_;refine mv ?_;refine mv ?_;refine sb ?_;refine mv ?_;refine Zc ?_;refine yL ((n % 100000000 % 10000) / 100) ?_;refine mv ?_;refine yM ((n % 100000000 % 10000) / 100) ?_;refine vl ?_;(refine sB S rfl rfl ?_;clear S;intro h S);refine vl ?_;(refine sB S rfl rfl ?_;clear S;intro h S);refine qf ?_;(repeat (refine qg ?_));refine qQ 9 ?_;refine mv ?_;refine mv ?_;refine sb ?_;refine mv ?_;refine mv ?_;refine sb ?_;refine mv ?_;refine Zc ?_;refine yL ((n % 100000000 / 10000) % 100) ?_;refine mv ?_;refine yM ((n % 100000000 / 10000) % 100) ?_;refine vl ?_;(refine sB S rfl rfl ?_;clear S;intro h S);refine vl ?_;(refine sB S rfl rfl ?_;clear S;intro h S);refine qf ?_;(repeat (refine qg ?_));refine qQ 10 ?_;refine mv ?_;refine mv ?_;refine sb ?_;refine mv ?_;refine mv ?_;refine sb ?_;refine mv ?_;refine Zc ?_;refine yL ((n % 100000000 / 10000) / 100) ?_;refine mv ?_;refine yM ((n % 100000000 / 10000) / 100) ?_;refine vl ?_;(refine sB S rfl rfl ?_;clear S;intro h S);refine vl ?_;(refine sB S rfl rfl ?_;clear S;intro h S);refine qf ?_;all_goals (repeat' (first|(refine qc 11 ?_;refine mv ?_;refine sb ?_;refine mv ?_;refine qf ?_)))
  refine ⟨true,?_,?_,qw⟩
  ·exact Nat.zero_lt_one
  ·exact S
 replace S:Hs h0 h (.blk b (z8 1 ++ [jv (48+(n % 100000000 / 10000) / 100 / 10),jv (48+(n % 100000000 / 10000) / 100 % 10),jv (48+(n % 100000000 / 10000) % 100 / 10),jv (48+(n % 100000000 / 10000) % 100 % 10),jv (48+(n % 100000000 % 10000) / 100 / 10),jv (48+(n % 100000000 % 10000) / 100 % 10),jv (48+(n % 100000000 % 10000) % 100 / 10),jv (48+(n % 100000000 % 10000) % 100 % 10)] ++ z8 15) 254 :: rs):=S;simp only [if_true];all_goals (repeat' (first|refine qg ?_|refine qh rfl ?_|refine qj ?_|refine qx ?_|(refine qc 1 ?_;refine mv ?_;(refine cF ?_)<;>(refine qf ?_))|(refine qc 12 ?_;refine mv ?_;refine vT ?_;refine mv ?_;refine qf ?_)|(refine qc 13 ?_;refine mv ?_;(refine cF ?_)<;>(refine qf ?_))|(refine qc 20 ?_;refine mv ?_;(refine cF ?_)<;>(refine qf ?_))|(refine qc 25 ?_;refine mv ?_;(refine cF ?_)<;>(refine qf ?_))))
 refine ⟨_,rfl,?_⟩;exact S
theorem qfB {n:Nat} (h:10000000≤n∧n<100000000):[48+(n % 100000000 / 10000) / 100 / 10,48+(n % 100000000 / 10000) / 100 % 10,48+(n % 100000000 / 10000) % 100 / 10,48+(n % 100000000 / 10000) % 100 % 10,48+(n % 100000000 % 10000) / 100 / 10,48+(n % 100000000 % 10000) / 100 % 10,48+(n % 100000000 % 10000) % 100 / 10,48+(n % 100000000 % 10000) % 100 % 10].map UInt8.ofNat=QE n:=by
 rw [jg (show ¬ n<10 by omega)];rw [jg (show ¬ n / 10<10 by omega)];rw [jg (show ¬ n / 10 / 10<10 by omega)];rw [jg (show ¬ n / 10 / 10 / 10<10 by omega)];rw [jg (show ¬ n / 10 / 10 / 10 / 10<10 by omega)];rw [jg (show ¬ n / 10 / 10 / 10 / 10 / 10<10 by omega)];rw [jg (show ¬ n / 10 / 10 / 10 / 10 / 10 / 10<10 by omega)];rw [YM (show n / 10 / 10 / 10 / 10 / 10 / 10 / 10<10 by omega)];rw [show 48+(n % 100000000 / 10000) / 100 / 10=48+n / 10 / 10 / 10 / 10 / 10 / 10 / 10 by omega];rw [show 48+(n % 100000000 / 10000) / 100 % 10=48+n / 10 / 10 / 10 / 10 / 10 / 10 % 10 by omega];rw [show 48+(n % 100000000 / 10000) % 100 / 10=48+n / 10 / 10 / 10 / 10 / 10 % 10 by omega];rw [show 48+(n % 100000000 / 10000) % 100 % 10=48+n / 10 / 10 / 10 / 10 % 10 by omega];rw [show 48+(n % 100000000 % 10000) / 100 / 10=48+n / 10 / 10 / 10 % 10 by omega];rw [show 48+(n % 100000000 % 10000) / 100 % 10=48+n / 10 / 10 % 10 by omega];rw [show 48+(n % 100000000 % 10000) % 100 / 10=48+n / 10 % 10 by omega];rw [show 48+(n % 100000000 % 10000) % 100 % 10=48+n % 10 by omega];rfl
theorem qgf {n:Nat} (h:10000000≤n∧n<100000000):Lib.nDigits n=8:=by
 rw [Lib.nDigits,dif_neg (by omega),Lib.nDigits,dif_neg (by omega),Lib.nDigits,dif_neg (by omega),Lib.nDigits,dif_neg (by omega),Lib.nDigits,dif_neg (by omega),Lib.nDigits,dif_neg (by omega),Lib.nDigits,dif_neg (by omega),Lib.nDigits,dif_pos (by omega)]
theorem qed {h0 h:AH} {rs:List Rs} {b:Nat} (S:Hs h0 h (.blk b (z8 24) 254 :: rs)) (n:Nat) (hn:n<10 ^ 9):Fn Tryz.prog Xh 236 [.slice (some ⟨b,1,none⟩) 9 23,.int .u64 n] h
 (fun _ h'=>Hs h0 h' (.blk b (.int .u8 0 :: jv (48+n / 100000000) :: jv (48+(n % 100000000 / 10000) / 100 / 10) :: jv (48+(n % 100000000 / 10000) / 100 % 10) :: jv (48+(n % 100000000 / 10000) % 100 / 10) :: jv (48+(n % 100000000 / 10000) % 100 % 10) :: jv (48+(n % 100000000 % 10000) / 100 / 10) :: jv (48+(n % 100000000 % 10000) / 100 % 10) :: jv (48+(n % 100000000 % 10000) % 100 / 10) :: jv (48+(n % 100000000 % 10000) % 100 % 10) :: z8 14) 254 :: rs)):=by
 have hn:n<1000000000:=hn;refine qF (by first|rfl) Tryz.func236 rfl rfl ?_;all_goals (repeat' (first|refine qg ?_|refine ql ?_|(refine qc 0 ?_;refine mv ?_;refine vl ?_;refine mv ?_;refine qf ?_)))
 refine qG (σ:=Bool) (fun c h'=>Hs h0 h' (.blk b (if c then (z8 1 ++ z8 1 ++ [jv (48+(n % 100000000 / 10000) / 100 / 10),jv (48+(n % 100000000 / 10000) / 100 % 10),jv (48+(n % 100000000 / 10000) % 100 / 10),jv (48+(n % 100000000 / 10000) % 100 % 10),jv (48+(n % 100000000 % 10000) / 100 / 10),jv (48+(n % 100000000 % 10000) / 100 % 10),jv (48+(n % 100000000 % 10000) % 100 / 10),jv (48+(n % 100000000 % 10000) % 100 % 10)] ++ z8 14) else z8 24) 254 :: rs)) (fun c=>if c then 0 else 1) (fun c=>[(0,.slice (some ⟨b,1,none⟩) 9 23),(1,.int .u64 (if c then (n:Int) / 100000000 else n)),(4,.int .i64 (if c then 1 else 9))]) false qw ?_ ?_
 ·exact S
 clear S;rintro c h S;cases c
 ·replace S:Hs h0 h (.blk b (z8 24) 254 :: rs):=S;simp only [if_false,zD9,if_true];all_goals (repeat' (first|refine qg ?_|refine qh rfl ?_|refine qj ?_|refine ql ?_|(refine qc 1 ?_;refine mv ?_;(refine cT ?_)<;>(refine qf ?_))))
  (repeat (refine qg ?_));refine qc 2 ?_;refine mv ?_;refine qfe ?_;refine vT ?_;refine mv ?_;refine qf ?_;(repeat (refine qg ?_));refine qc 3 ?_;refine mv ?_;refine qfg ?_;refine mv ?_;refine qf ?_;all_goals (repeat' (first|refine qg ?_|(refine qc 4 ?_;refine mv ?_;refine JA ?_;refine mv ?_;refine Jy ?_;refine mv ?_;refine mv ?_;refine qf ?_)|(refine qc 5 ?_;refine mv ?_;refine JA ?_;refine Ja ?_;refine mv ?_;refine Jy ?_;refine Ja ?_;refine mv ?_;refine mv ?_;refine qf ?_)|(refine qc 6 ?_;refine mv ?_;refine JA ?_;refine Ja ?_;refine mv ?_;refine Jy ?_;refine Ja ?_;refine mv ?_;refine mv ?_;refine qf ?_)))
  (repeat (refine qg ?_))
  refine qQ 7 ?_;refine mv ?_;refine mv ?_;refine sb ?_;refine mv ?_;refine mv ?_;refine sb ?_;refine mv ?_;refine Zc ?_;refine yL ((n % 100000000 % 10000) % 100) ?_;refine mv ?_;refine yM ((n % 100000000 % 10000) % 100) ?_;refine vl ?_;(refine sB S rfl rfl ?_;clear S;intro h S);refine vl ?_;(refine sB S rfl rfl ?_;clear S;intro h S);refine qf ?_;(repeat (refine qg ?_));refine qQ 8 ?_;refine mv ?_;refine mv ?_;refine sb ?_;refine mv ?_;refine mv ?_;refine sb ?_;refine mv ?_;refine Zc ?_;refine yL ((n % 100000000 % 10000) / 100) ?_;refine mv ?_;refine yM ((n % 100000000 % 10000) / 100) ?_;refine vl ?_;(refine sB S rfl rfl ?_;clear S;intro h S);refine vl ?_;(refine sB S rfl rfl ?_;clear S;intro h S);refine qf ?_;(repeat (refine qg ?_));refine qQ 9 ?_;refine mv ?_;refine mv ?_;refine sb ?_;refine mv ?_;refine mv ?_;refine sb ?_;refine mv ?_;refine Zc ?_;refine yL ((n % 100000000 / 10000) % 100) ?_;refine mv ?_;refine yM ((n % 100000000 / 10000) % 100) ?_;refine vl ?_;(refine sB S rfl rfl ?_;clear S;intro h S);refine vl ?_;(refine sB S rfl rfl ?_;clear S;intro h S);refine qf ?_;(repeat (refine qg ?_));refine qQ 10 ?_;refine mv ?_;refine mv ?_;refine sb ?_;refine mv ?_;refine mv ?_;refine sb ?_;refine mv ?_;refine Zc ?_;refine yL ((n % 100000000 / 10000) / 100) ?_;refine mv ?_;refine yM ((n % 100000000 / 10000) / 100) ?_;refine vl ?_;(refine sB S rfl rfl ?_;clear S;intro h S);refine vl ?_;(refine sB S rfl rfl ?_;clear S;intro h S);refine qf ?_;all_goals (repeat' (first|(refine qc 11 ?_;refine mv ?_;refine sb ?_;refine mv ?_;refine qf ?_)))
  refine ⟨true,?_,?_,qw⟩
  ·exact Nat.zero_lt_one
  ·exact S
 replace S:Hs h0 h (.blk b (z8 1 ++ z8 1 ++ [jv (48+(n % 100000000 / 10000) / 100 / 10),jv (48+(n % 100000000 / 10000) / 100 % 10),jv (48+(n % 100000000 / 10000) % 100 / 10),jv (48+(n % 100000000 / 10000) % 100 % 10),jv (48+(n % 100000000 % 10000) / 100 / 10),jv (48+(n % 100000000 % 10000) / 100 % 10),jv (48+(n % 100000000 % 10000) % 100 / 10),jv (48+(n % 100000000 % 10000) % 100 % 10)] ++ z8 14) 254 :: rs):=S;simp only [if_true];all_goals (repeat' (first|refine qg ?_|refine qh rfl ?_|refine qj ?_|refine qx ?_|(refine qc 1 ?_;refine mv ?_;(refine cF ?_)<;>(refine qf ?_))|(refine qc 12 ?_;refine mv ?_;refine vT ?_;refine mv ?_;refine qf ?_)|(refine qc 13 ?_;refine mv ?_;(refine cF ?_)<;>(refine qf ?_))|(refine qc 20 ?_;refine mv ?_;(refine cF ?_)<;>(refine qf ?_))|(refine qc 25 ?_;refine mv ?_;(refine cT ?_)<;>(refine qf ?_))|(refine qc 26 ?_;refine mv ?_;refine mv ?_;refine Zc ?_;refine cU ?_;refine vl ?_;(first|(refine sB S rfl rfl ?_;clear S;intro h S));refine qf ?_)))
 refine ⟨_,rfl,?_⟩;exact S
theorem qfA {n:Nat} (h:100000000≤n∧n<1000000000):[48+n / 100000000,48+(n % 100000000 / 10000) / 100 / 10,48+(n % 100000000 / 10000) / 100 % 10,48+(n % 100000000 / 10000) % 100 / 10,48+(n % 100000000 / 10000) % 100 % 10,48+(n % 100000000 % 10000) / 100 / 10,48+(n % 100000000 % 10000) / 100 % 10,48+(n % 100000000 % 10000) % 100 / 10,48+(n % 100000000 % 10000) % 100 % 10].map UInt8.ofNat=QE n:=by
 rw [jg (show ¬ n<10 by omega)];rw [jg (show ¬ n / 10<10 by omega)];rw [jg (show ¬ n / 10 / 10<10 by omega)];rw [jg (show ¬ n / 10 / 10 / 10<10 by omega)];rw [jg (show ¬ n / 10 / 10 / 10 / 10<10 by omega)];rw [jg (show ¬ n / 10 / 10 / 10 / 10 / 10<10 by omega)];rw [jg (show ¬ n / 10 / 10 / 10 / 10 / 10 / 10<10 by omega)];rw [jg (show ¬ n / 10 / 10 / 10 / 10 / 10 / 10 / 10<10 by omega)];rw [YM (show n / 10 / 10 / 10 / 10 / 10 / 10 / 10 / 10<10 by omega)];rw [show 48+n / 100000000=48+n / 10 / 10 / 10 / 10 / 10 / 10 / 10 / 10 by omega];rw [show 48+(n % 100000000 / 10000) / 100 / 10=48+n / 10 / 10 / 10 / 10 / 10 / 10 / 10 % 10 by omega];rw [show 48+(n % 100000000 / 10000) / 100 % 10=48+n / 10 / 10 / 10 / 10 / 10 / 10 % 10 by omega];rw [show 48+(n % 100000000 / 10000) % 100 / 10=48+n / 10 / 10 / 10 / 10 / 10 % 10 by omega];rw [show 48+(n % 100000000 / 10000) % 100 % 10=48+n / 10 / 10 / 10 / 10 % 10 by omega];rw [show 48+(n % 100000000 % 10000) / 100 / 10=48+n / 10 / 10 / 10 % 10 by omega];rw [show 48+(n % 100000000 % 10000) / 100 % 10=48+n / 10 / 10 % 10 by omega];rw [show 48+(n % 100000000 % 10000) % 100 / 10=48+n / 10 % 10 by omega];rw [show 48+(n % 100000000 % 10000) % 100 % 10=48+n % 10 by omega];rfl
theorem qge {n:Nat} (h:100000000≤n∧n<1000000000):Lib.nDigits n=9:=by
 rw [Lib.nDigits,dif_neg (by omega),Lib.nDigits,dif_neg (by omega),Lib.nDigits,dif_neg (by omega),Lib.nDigits,dif_neg (by omega),Lib.nDigits,dif_neg (by omega),Lib.nDigits,dif_neg (by omega),Lib.nDigits,dif_neg (by omega),Lib.nDigits,dif_neg (by omega),Lib.nDigits,dif_pos (by omega)]
theorem qcO {h0:AH} (w:WfH h0) (hf:Flag.b=true) (n:Nat) (hn:n<1000000000):Fn Tryz.prog Xh 177 [.int .i64 n,.int .i64 10] h0 (fun v h'=>v=str (QE n)∧Hs h0 h' []):=by
 have S:=Hs.start w;refine qF (by first|rfl) Tryz.func177 rfl rfl ?_;all_goals (repeat' (first|refine qg ?_|refine qh rfl ?_|refine qj ?_|(refine qc 0 ?_;refine mv ?_;refine qf ?_)|(refine qc 1 ?_;refine mv ?_;(refine cT ?_)<;>(refine qf ?_))|(refine qc 2 ?_;refine mv ?_;(refine cT ?_)<;>(refine mv ?_;refine mv ?_;(first|(first|(refine cS ?_ ?_<;>intro hc)))<;>(refine vl ?_;refine qf ?_)))|(refine qc 4 ?_;(refine al S ?_;clear S;intro b h S);refine qf ?_)|(refine qc 5 ?_;refine mv ?_;refine cW ?_;refine mv ?_;refine qf ?_)|(refine qc 6 ?_;refine mv ?_;(refine cF ?_)<;>(refine qf ?_))))
 ·all_goals (repeat' (first|(refine qc 3 ?_;refine mv ?_)))
  (refine qo rfl rfl rfl rfl rfl ((qaX S.wf n (by omega)).mono ?_);rintro _ h ⟨rfl,x⟩)<;>(replace S:=S.join0 x;clear x;refine mv ?_;refine qf ?_)
  all_goals (repeat' (fail))
  refine qi ⟨_,rfl,?_⟩;exact ⟨rfl,S⟩
 ·skip
  all_goals (repeat' (fail))
  obtain ⟨bb,hnm⟩:∃ x,x=b:=⟨_,rfl⟩;subst hnm;all_goals (repeat' (first|(refine qc 8 ?_;refine mv ?_)))
  (refine qo rfl rfl rfl rfl rfl ((qcy hf n (by omega)).mono ?_);rintro _ h2 ⟨rfl,rfl⟩)<;>(refine mv ?_;refine qf ?_)
  rcases (show n<1000∨(1000≤n∧n<10000)∨(10000≤n∧n<100000)∨(100000≤n∧n<1000000)∨(1000000≤n∧n<10000000)∨(10000000≤n∧n<100000000)∨(100000000≤n∧n<1000000000) by omega) with q|q|q|q|q|q|q
  ·rw [qgk (by omega)];(repeat (refine qg ?_));refine qc 9 ?_;refine mv ?_;refine ad ?_;refine pO (l:=1) (r:=4) (m:=24) S.gB ?_;refine mv ?_;(refine qo rfl rfl rfl rfl rfl ((qej S n (by omega)).mono ?_);rintro _ h S2)<;>(replace S:=S2;clear S2;refine qf ?_)
   all_goals (repeat' (first|refine qg ?_|refine qh rfl ?_|refine qj ?_|(refine qc 10 ?_;refine mv ?_;(refine cF ?_)<;>(refine qf ?_))))
   (repeat (refine qg ?_));refine qc 13 ?_;refine mv ?_;refine ad ?_;refine pO (l:=1) (r:=4) (m:=24) S.gB ?_;have r:qY h (.slice (some ⟨bb,1,none⟩) 3 23) 1 eU [48+(n / 100),48+n % 100 / 10,48+n % 100 % 10]:=.inr ⟨bb,1,23,_,_,none,false,rfl,S.gB,rfl⟩;refine bS r ?_;rw [qfG (by omega)];refine mv ?_;refine qf ?_;all_goals (repeat' (fail))
   refine qi ⟨_,rfl,?_⟩;exact ⟨rfl,S.drop⟩
  ·rw [qgj (by omega)];(repeat (refine qg ?_));refine qc 9 ?_;refine mv ?_;refine ad ?_;refine pO (l:=1) (r:=5) (m:=24) S.gB ?_;refine mv ?_;(refine qo rfl rfl rfl rfl rfl ((qei S n (by omega)).mono ?_);rintro _ h S2)<;>(replace S:=S2;clear S2;refine qf ?_)
   all_goals (repeat' (first|refine qg ?_|refine qh rfl ?_|refine qj ?_|(refine qc 10 ?_;refine mv ?_;(refine cF ?_)<;>(refine qf ?_))))
   (repeat (refine qg ?_));refine qc 13 ?_;refine mv ?_;refine ad ?_;refine pO (l:=1) (r:=5) (m:=24) S.gB ?_;have r:qY h (.slice (some ⟨bb,1,none⟩) 4 23) 1 eU [48+(n % 10000) / 100 / 10,48+(n % 10000) / 100 % 10,48+(n % 10000) % 100 / 10,48+(n % 10000) % 100 % 10]:=.inr ⟨bb,1,23,_,_,none,false,rfl,S.gB,rfl⟩;refine bS r ?_;rw [qfF (by omega)];refine mv ?_;refine qf ?_;all_goals (repeat' (fail))
   refine qi ⟨_,rfl,?_⟩;exact ⟨rfl,S.drop⟩
  ·rw [qgi (by omega)];(repeat (refine qg ?_));refine qc 9 ?_;refine mv ?_;refine ad ?_;refine pO (l:=1) (r:=6) (m:=24) S.gB ?_;refine mv ?_;(refine qo rfl rfl rfl rfl rfl ((qeh S n (by omega)).mono ?_);rintro _ h S2)<;>(replace S:=S2;clear S2;refine qf ?_)
   all_goals (repeat' (first|refine qg ?_|refine qh rfl ?_|refine qj ?_|(refine qc 10 ?_;refine mv ?_;(refine cF ?_)<;>(refine qf ?_))))
   (repeat (refine qg ?_));refine qc 13 ?_;refine mv ?_;refine ad ?_;refine pO (l:=1) (r:=6) (m:=24) S.gB ?_;have r:qY h (.slice (some ⟨bb,1,none⟩) 5 23) 1 eU [48+(n / 10000),48+(n % 10000) / 100 / 10,48+(n % 10000) / 100 % 10,48+(n % 10000) % 100 / 10,48+(n % 10000) % 100 % 10]:=.inr ⟨bb,1,23,_,_,none,false,rfl,S.gB,rfl⟩;refine bS r ?_;rw [qfE (by omega)];refine mv ?_;refine qf ?_;all_goals (repeat' (fail))
   refine qi ⟨_,rfl,?_⟩;exact ⟨rfl,S.drop⟩
  ·rw [qgh (by omega)];(repeat (refine qg ?_));refine qc 9 ?_;refine mv ?_;refine ad ?_;refine pO (l:=1) (r:=7) (m:=24) S.gB ?_;refine mv ?_;(refine qo rfl rfl rfl rfl rfl ((qeg S n (by omega)).mono ?_);rintro _ h S2)<;>(replace S:=S2;clear S2;refine qf ?_)
   all_goals (repeat' (first|refine qg ?_|refine qh rfl ?_|refine qj ?_|(refine qc 10 ?_;refine mv ?_;(refine cF ?_)<;>(refine qf ?_))))
   (repeat (refine qg ?_));refine qc 13 ?_;refine mv ?_;refine ad ?_;refine pO (l:=1) (r:=7) (m:=24) S.gB ?_;have r:qY h (.slice (some ⟨bb,1,none⟩) 6 23) 1 eU [48+(n / 10000) % 100 / 10,48+(n / 10000) % 100 % 10,48+(n % 10000) / 100 / 10,48+(n % 10000) / 100 % 10,48+(n % 10000) % 100 / 10,48+(n % 10000) % 100 % 10]:=.inr ⟨bb,1,23,_,_,none,false,rfl,S.gB,rfl⟩;refine bS r ?_;rw [qfD (by omega)];refine mv ?_;refine qf ?_;all_goals (repeat' (fail))
   refine qi ⟨_,rfl,?_⟩;exact ⟨rfl,S.drop⟩
  ·rw [qgg (by omega)];(repeat (refine qg ?_));refine qc 9 ?_;refine mv ?_;refine ad ?_;refine pO (l:=1) (r:=8) (m:=24) S.gB ?_;refine mv ?_;(refine qo rfl rfl rfl rfl rfl ((qef S n (by omega)).mono ?_);rintro _ h S2)<;>(replace S:=S2;clear S2;refine qf ?_)
   all_goals (repeat' (first|refine qg ?_|refine qh rfl ?_|refine qj ?_|(refine qc 10 ?_;refine mv ?_;(refine cF ?_)<;>(refine qf ?_))))
   (repeat (refine qg ?_));refine qc 13 ?_;refine mv ?_;refine ad ?_;refine pO (l:=1) (r:=8) (m:=24) S.gB ?_;have r:qY h (.slice (some ⟨bb,1,none⟩) 7 23) 1 eU [48+((n / 10000) / 100),48+(n / 10000) % 100 / 10,48+(n / 10000) % 100 % 10,48+(n % 10000) / 100 / 10,48+(n % 10000) / 100 % 10,48+(n % 10000) % 100 / 10,48+(n % 10000) % 100 % 10]:=.inr ⟨bb,1,23,_,_,none,false,rfl,S.gB,rfl⟩;refine bS r ?_;rw [qfC (by omega)];refine mv ?_;refine qf ?_;all_goals (repeat' (fail))
   refine qi ⟨_,rfl,?_⟩;exact ⟨rfl,S.drop⟩
  ·rw [qgf (by omega)];(repeat (refine qg ?_));refine qc 9 ?_;refine mv ?_;refine ad ?_;refine pO (l:=1) (r:=9) (m:=24) S.gB ?_;refine mv ?_;(refine qo rfl rfl rfl rfl rfl ((qee S n (by omega)).mono ?_);rintro _ h S2)<;>(replace S:=S2;clear S2;refine qf ?_)
   all_goals (repeat' (first|refine qg ?_|refine qh rfl ?_|refine qj ?_|(refine qc 10 ?_;refine mv ?_;(refine cF ?_)<;>(refine qf ?_))))
   (repeat (refine qg ?_));refine qc 13 ?_;refine mv ?_;refine ad ?_;refine pO (l:=1) (r:=9) (m:=24) S.gB ?_;have r:qY h (.slice (some ⟨bb,1,none⟩) 8 23) 1 eU [48+(n % 100000000 / 10000) / 100 / 10,48+(n % 100000000 / 10000) / 100 % 10,48+(n % 100000000 / 10000) % 100 / 10,48+(n % 100000000 / 10000) % 100 % 10,48+(n % 100000000 % 10000) / 100 / 10,48+(n % 100000000 % 10000) / 100 % 10,48+(n % 100000000 % 10000) % 100 / 10,48+(n % 100000000 % 10000) % 100 % 10]:=.inr ⟨bb,1,23,_,_,none,false,rfl,S.gB,rfl⟩;refine bS r ?_;rw [qfB (by omega)];refine mv ?_;refine qf ?_;all_goals (repeat' (fail))
   refine qi ⟨_,rfl,?_⟩;exact ⟨rfl,S.drop⟩
  ·rw [qge (by omega)];(repeat (refine qg ?_));refine qc 9 ?_;refine mv ?_;refine ad ?_;refine pO (l:=1) (r:=10) (m:=24) S.gB ?_;refine mv ?_;(refine qo rfl rfl rfl rfl rfl ((qed S n (by omega)).mono ?_);rintro _ h S2)<;>(replace S:=S2;clear S2;refine qf ?_)
   all_goals (repeat' (first|refine qg ?_|refine qh rfl ?_|refine qj ?_|(refine qc 10 ?_;refine mv ?_;(refine cF ?_)<;>(refine qf ?_))))
   (repeat (refine qg ?_));refine qc 13 ?_;refine mv ?_;refine ad ?_;refine pO (l:=1) (r:=10) (m:=24) S.gB ?_;have r:qY h (.slice (some ⟨bb,1,none⟩) 9 23) 1 eU [48+n / 100000000,48+(n % 100000000 / 10000) / 100 / 10,48+(n % 100000000 / 10000) / 100 % 10,48+(n % 100000000 / 10000) % 100 / 10,48+(n % 100000000 / 10000) % 100 % 10,48+(n % 100000000 % 10000) / 100 / 10,48+(n % 100000000 % 10000) / 100 % 10,48+(n % 100000000 % 10000) % 100 / 10,48+(n % 100000000 % 10000) % 100 % 10]:=.inr ⟨bb,1,23,_,_,none,false,rfl,S.gB,rfl⟩;refine bS r ?_;rw [qfA (by omega)];refine mv ?_;refine qf ?_;all_goals (repeat' (fail))
   refine qi ⟨_,rfl,?_⟩;exact ⟨rfl,S.drop⟩
theorem qcG {h0:AH} (w:WfH h0) (hf:Flag.b=true) (n:Nat) (hn:n<1000000000):Fn Tryz.prog Xh 60 [.int .i64 n] h0 (fun v h'=>v=str (QE n)∧Hs h0 h' []):=by
 have S:=Hs.start w;have two:∀ {h1:AH} (w:WfH h1),Fn Tryz.prog Xh 118 [.int .i64 n] h1 (fun v h'=>v=str (QE n)∧Hs h1 h' []):=fun {h1} w=>by
  have S:=Hs.start w;refine qF (by first|rfl) Tryz.func118 rfl rfl ?_;all_goals (repeat' (first|refine qg ?_|(refine qc 0 ?_;refine mv ?_;refine qf ?_)|(refine qc 1 ?_;refine mv ?_)))
  (refine qo rfl rfl rfl rfl rfl ((qcO S.wf hf n hn).mono ?_);rintro _ h ⟨rfl,x⟩)<;>(replace S:=S.join0 x;clear x;refine mv ?_;refine qf ?_)
  all_goals (repeat' (fail))
  refine qi ⟨_,rfl,?_⟩;exact ⟨rfl,S⟩
 refine qF (by first|rfl) Tryz.func60 rfl rfl ?_;all_goals (repeat' (first|refine qg ?_|(refine qc 0 ?_;refine mv ?_;refine qf ?_)|(refine qc 1 ?_;refine mv ?_)))
 (refine qo rfl rfl rfl rfl rfl ((two S.wf).mono ?_);rintro _ h ⟨rfl,x⟩)<;>(replace S:=S.join0 x;clear x;refine mv ?_;refine qf ?_)
 all_goals (repeat' (fail))
 refine qi ⟨_,rfl,?_⟩;exact ⟨rfl,S⟩
end Go.Proofs.Xx
namespace Go.Proofs.Xx
open Go Go.Proofs
abbrev jY (xs:List Tr_):List Trp:=xs.map fun x=>x.trp
theorem kZ {ws:List (List UInt8)} (h:ws≠[]) (w:List UInt8):Vs (ws ++ [w])=Vs ws ++ [32] ++ w:=by
 match ws,h with
 | a :: r,_=>rw [zC6,GG,GG,qaL];simp
def yf (l:List Tab) (x:Trp) (j:Nat):List UInt8:=Vs (ZE :: QE x.pl.toNat :: QE x.st.toNat :: (x.ta.take j).map (jQ l))
theorem qfu {l:List Tab} {x:Trp}:yf l x 0=ZE ++ [32] ++ QE x.pl.toNat ++ [32] ++ QE x.st.toNat:=by
 unfold yf;rw [List.take_zero,List.map_nil];simp [Vs]
theorem qft {l:List Tab} {x:Trp} {j:Nat} (hj:j<x.ta.length):yf l x (j+1)=yf l x j ++ ([32] ++ jQ l (x.ta.getD j default)):=by
 unfold yf;rw [qK hj,zC9,List.map_cons,List.map_nil];have:=kZ (ws:=ZE :: QE x.pl.toNat :: QE x.st.toNat :: (x.ta.take j).map (jQ l)) (by simp) (jQ l (x.ta.getD j default));rw [zC6,zC6,zC6] at this;rw [this,zF1]
theorem qcC {l:List Tab} {x:Trp}:yf l x x.ta.length=Vs (wsT l x):=by unfold yf wsT;rw [zF7 (zA3 _)]
def OkJ (l:List Tab) (x:Trp) (j:Nat):Prop:=x.ta≠[]∧(0≤x.pl∧x.pl≤999999999)∧(0≤x.st∧x.st≤999999999)∧∀ t∈x.ta.take j,0≤t∧t<l.length
theorem Gy {l:List Tab} (hv:ValidL l) {x:Trp} {j:Nat} (h:OkJ l x j) (hj:j≤12):(yf l x j).length≤195:=by
 obtain ⟨h1,h2,h3,h4⟩:=h;have hw:∀ w∈(ZE :: QE x.pl.toNat :: QE x.st.toNat :: (x.ta.take j).map (jQ l)),w.length≤12:=fun w hw=>by
  rcases zE7.1 hw with rfl|hw
  ·decide
  rcases zE7.1 hw with rfl|hw
  ·have:=XH 8 x.pl.toNat (by omega);omega
  rcases zE7.1 hw with rfl|hw
  ·have:=XH 8 x.st.toNat (by omega);omega
  ·obtain ⟨t,ht,rfl⟩:=zF0.1 hw;have:=h4 t ht;have hn:=hv.nm (i:=t.toNat) (by omega);exact hn.2.1
 have:=qbB hw;unfold yf;have hl:((x.ta.take j).map (jQ l)).length≤12:=by rw [zC5,zA9];omega
 simp only [zC4] at this;omega
def Zi (l:List Tab) (xs:List Trp) (i:Nat):List UInt8:=txt ((xs.take i).map fun x=>Vs (wsT l x))
theorem vG {l:List Tab} {xs:List Trp} {i:Nat} (hi:i<xs.length):Zi l xs (i+1)=Zi l xs i ++ yf l (xs.getD i default) (xs.getD i default).ta.length ++ [10]:=by
 unfold Zi;rw [qK hi,zC9,qck,qcC];simp [txt]
theorem Ph {l:List Tab} (hv:ValidL l) {xs:List Trp} (hx:∀ i,i<xs.length→(xs.getD i default).ta.length≤12) {i:Nat} (hi:i≤xs.length) (hok:∀ j,j<i→KA l (xs.getD j default)):(Zi l xs i).length≤196*i:=by
 induction i with
 | zero=>simp [Zi,txt]
 | succ i ih =>
  have h1:=ih (by omega) fun j hj=>hok j (by omega);have h2:=Gy hv (x:=xs.getD i default) (j:=(xs.getD i default).ta.length) ⟨(hok i (by omega)).1,(hok i (by omega)).2.1,(hok i (by omega)).2.2.1,fun t ht=>(hok i (by omega)).2.2.2 t (List.mem_of_mem_take ht)⟩ (hx i (by omega));rw [vG (by omega)];simp only [zB2,zD5];omega
theorem qbM {l:List Tab} {xs:List Trp} {i:Nat} (hi:i<xs.length) (h:¬ KA l (xs.getD i default)):Jq l xs=[]:=by
 unfold Jq;rw [if_neg (fun q=>h (q _ (qL hi)))]
theorem Pn {l:List Tab} {xs:List Trp} (h:∀ j,j<xs.length→KA l (xs.getD j default)):Jq l xs=Zi l xs xs.length:=by
 unfold Jq Zi;rw [if_pos (fun x hx=>by
  obtain ⟨j,hj,rfl⟩:=qR.1 hx;exact h j hj),zF7 (zA3 _)]
variable [Flag]
theorem qb3 {h0 h:AH} {rs:List Rs} {bb:Nat} {q:Value} (S:Hs h0 h (bst bb q (.slice none 0 0) :: rs)):Fn Tryz.prog Xh 61 [.pointer (some ⟨bb,0,none⟩)] h (fun r h'=>r=str []∧Hs h0 h' (bst bb q (.slice none 0 0) :: rs)):=by
 refine qF (by first|rfl) Tryz.func61 rfl rfl ?_;all_goals (repeat' (first|refine qg ?_|(refine qc 0 ?_;refine mv ?_;refine qf ?_)))
 refine qQ 1 ?_;refine mv ?_;refine vl ?_;refine vl ?_;refine lB S rfl rfl ?_;refine vl ?_;refine mv ?_;refine vl ?_;refine vl ?_;refine lB S rfl rfl ?_;refine vl ?_;refine vl ?_;refine mv ?_;refine qf ?_;all_goals (repeat' (fail))
 refine qi ⟨_,rfl,?_⟩;exact ⟨rfl,S⟩
theorem VJ {h:AH} (n:Int):Fn Tryz.prog Xh 58 [.int .i64 n] h (fun v h'=>qI v (0≤n∧n≤999999999)∧h'=h):=by
 refine qF (by first|rfl) Tryz.func58 rfl rfl ?_;all_goals (repeat' (first|refine qg ?_|(refine qc 0 ?_;refine mv ?_;refine qf ?_)|(refine qc 1 ?_;refine mv ?_;(first|(refine cS ?_ ?_<;>intro hc))<;>(refine mv ?_;(first|refine off ?_|refine mv ?_);(first|refine off ?_|(first|(refine cS ?_ ?_<;>intro hc)))<;>(refine vl ?_;refine mv ?_;refine qf ?_)))))
 all_goals (refine qi ⟨_,rfl,?_⟩)
 all_goals (refine ⟨?_,rfl⟩;unfold qI)
 all_goals first|exact .inl ⟨rfl,by omega⟩|exact .inr ⟨rfl,by omega⟩
theorem gm {h0:AH} (w:WfH h0) (hf:Flag.b=true) (z:Int) (hz:0≤z∧z≤999999999):Fn Tryz.prog Xh 60 [.int .i64 z] h0 (fun v h'=>v=str (QE z.toNat)∧Hs h0 h' []):=by
 obtain ⟨n,rfl⟩:=zH2 hz.1;exact qcG w hf n (by omega)
theorem Gg {h0:AH} (w:WfH h0) (hf:Flag.b=true) (pv:PbV) (p:Pb) (H:PbOk h0 pv p) (vx:Value) (xs:List Tr_) (rx:qY h0 vx 3 jo xs) (rr:∀ i,i<xs.length→qY h0 (xs.getD i default).tv.val 1 eI (xs.getD i default).ta) (hx:xs.length≤12) (ht:∀ i,i<xs.length→(xs.getD i default).ta.length≤12) :
 Fn Tryz.prog Xh 16 [pv.val,vx] h0 (fun u h'=>∃ t,u=str t∧(PO p→t=Jq p.tabs (jY xs))∧(¬ PO p→t=[])∧Hs h0 h' []):=by
 have S:=Hs.start w;have hr:=H.tab.rd;have hl:=H.tab.len;unfold PbV.val;refine qF (by first|rfl) Tryz.func16 rfl rfl ?_;all_goals (repeat' (first|refine qg ?_|(refine qc 0 ?_;(refine bx S ?_;clear S;intro b h S);refine mv ?_;refine qf ?_)|(refine qc 1 ?_;refine lB S rfl rfl ?_)))
 obtain ⟨b2,hnm⟩:∃ x,x=b:=⟨_,rfl⟩;subst hnm;(refine qo rfl rfl rfl rfl rfl ((V3 S.wf pv p (H.ext w S.ext)).mono ?_);rintro _ h ⟨i,e,rfl,hk,x⟩)<;>(replace S:=S.join0 x;clear x;refine mv ?_;refine vl ?_;refine vl ?_;refine mv ?_;refine mv ?_;refine qf ?_)
 have hpo:=hk.po;all_goals (repeat' (first|refine qg ?_|refine qh rfl ?_|refine qj ?_|(refine qc 2 ?_;refine mv ?_;(first|(refine cS ?_ ?_<;>intro hc))<;>(refine qf ?_))|(refine qc 3 ?_;refine mv ?_;refine qf ?_)))
 ·refine qi ⟨_,rfl,?_⟩;exact ⟨[],rfl,fun q=>absurd (hpo.2 q) (by assumption),fun _=>rfl,S.drop⟩
 have hP:PO p:=hpo.1 (by omega);have hv:=hP.tabs;have hmg:∀ i,i<xs.length→(jY xs).getD i default=(xs.getD i default).trp:=fun i hi=>zn (f:=fun x:Tr_=>x.trp) hi;have hml:(jY xs).length=xs.length:=by simp
 have hmt:∀ i,i<(jY xs).length→((jY xs).getD i default).ta.length≤12:=fun i hi=>by rw [hmg i (by omega)];exact ht i (by omega)
 all_goals (repeat' (first|refine qg ?_|(refine qc 4 ?_;(refine al S ?_;clear S;intro b h S);refine qf ?_)))
 obtain ⟨b7,hnm⟩:∃ x,x=b:=⟨_,rfl⟩;subst hnm;replace S:Hs h0 h [bst b7 (.pointer none) (.slice none 0 0),.blk b2 pv.cs 28]:=S;have S:Hs h0 h [bsl (.slice none 0 0) [],bst b7 (.pointer none) (.slice none 0 0),.blk b2 pv.cs 28]:=S.nilS;have S:=(show Hs h0 h [bst b7 (.pointer none) (.slice none 0 0),bsl (.slice none 0 0) [],.blk b2 pv.cs 28] from S.pick)
 all_goals (repeat' (first|refine ql ?_|(refine qc 5 ?_;refine mv ?_;refine zT S ?_;refine mv ?_;refine qf ?_)))
 refine qG (σ:=Nat×Value×Value) (fun (i,q,v) h'=>Hs h0 h' [bst b7 q v,bsl v (Zi p.tabs (jY xs) i),.blk b2 pv.cs 28]∧QP b7 q∧i≤xs.length∧(∀ j,j<i→KA p.tabs ((jY xs).getD j default))∧(i=0→v = .slice none 0 0)) (fun (i,q,v)=>xs.length - i) (fun (i,q,v)=>[(2,.pointer (some ⟨b2,0,none⟩)),(7,.pointer (some ⟨b7,0,none⟩)),(19,vx),(20,.int .i64 xs.length),(21,.int .i64 i)]) (0,.pointer none,.slice none 0 0) qw ?_ ?_
 ·exact ⟨S,.inl rfl,zB0 _,fun j hj=>absurd hj (zB7 _),fun _=>rfl⟩
 clear S;rintro ⟨i,q,v⟩ h ⟨S,g1,g2,g3,g4⟩;have hL:=Ph hv hmt (i:=i) (by omega) g3;all_goals (repeat' (first|refine qg ?_|refine qh rfl ?_|refine qj ?_|refine qx ?_|refine ql ?_|(refine qc 6 ?_;(first|(refine cS ?_ ?_<;>intro hc))<;>(refine qf ?_))))
 ·have hi:i<xs.length:=by omega
  have hx0:xs.getD (i:Int).toNat default=xs.getD i default:=rfl;have ex:=hmg i hi;have rxi:=rr i hi;have hti:=ht i hi;have hls:=vG (l:=p.tabs) (xs:=jY xs) (i:=i) (by omega);rw [ex] at hls;all_goals (repeat' (first|refine qg ?_|(refine qc 7 ?_;refine jB S ?_;refine jA S ?_;(refine al S ?_;clear S;intro b h S);(first|(refine sB S rfl rfl ?_;clear S;intro h S));refine qf ?_)))
  obtain ⟨b9,hnm⟩:∃ x,x=b:=⟨_,rfl⟩;subst hnm;generalize hxx:xs.getD i default=x0 at *
  replace S:Hs h0 h [.blk b9 (jo x0) 71,bst b7 q v,bsl v (Zi p.tabs (jY xs) i),.blk b2 pv.cs 28]:=by rw [← hxx];exact S
  have S:=(show Hs h0 h [bst b7 q v,bsl v (Zi p.tabs (jY xs) i),.blk b9 (jo x0) 71,.blk b2 pv.cs 28] from S.pick)
  have hbad:¬ KA p.tabs x0.trp→∃ t,str []=str t∧(PO p→t=Jq p.tabs (jY xs))∧(¬ PO p→t=[]):=fun hn=>⟨[],rfl,fun _=>(qbM (l:=p.tabs) (xs:=jY xs) (i:=i) (by omega) (by rw [ex];exact hn)).symm,fun _=>rfl⟩
  have hbd:¬ KA p.tabs x0.trp→∀ {h':AH},Hs h0 h' []→∃ t,str []=str t∧(PO p→t=Jq p.tabs (jY xs))∧(¬ PO p→t=[])∧Hs h0 h' []:=fun hn _ x=>by obtain ⟨t,e1,e2,e3⟩:=hbad hn;exact ⟨t,e1,e2,e3,x⟩
  all_goals (repeat' (first|refine qg ?_|refine qh rfl ?_|(refine qc 8 ?_;refine vl ?_;refine lB S rfl rfl ?_;refine zT S ?_;(first|(refine cS ?_ ?_<;>intro hc))<;>(refine mv ?_;(first|refine off ?_|(refine vl ?_));(first|refine off ?_|(refine lB S rfl rfl ?_));(first|(refine off ?_;refine off ?_;refine vl ?_;refine mv ?_;refine off ?_;refine off ?_;(first|(refine off ?_;refine off ?_;refine vl ?_;refine qf ?_)))|skip)))))
  all_goals (try ((refine qo rfl rfl rfl rfl rfl ((VJ x0.pl).mono ?_);rintro _ _ ⟨⟨rfl,z1⟩|⟨rfl,z1⟩,rfl⟩)<;>((refine vl ?_);refine vl ?_;refine mv ?_;(first|refine off ?_|(refine vl ?_));(first|refine off ?_|(refine lB S rfl rfl ?_));(first|(refine off ?_;refine off ?_;refine vl ?_;refine qf ?_)|skip))))
  all_goals (try ((refine qo rfl rfl rfl rfl rfl ((VJ x0.st).mono ?_);rintro _ _ ⟨⟨rfl,z2⟩|⟨rfl,z2⟩,rfl⟩)<;>((refine vl ?_);refine vl ?_;refine qf ?_)))
  all_goals (all_goals (repeat' (first|refine qg ?_|refine qh rfl ?_|refine qj ?_|(refine qc 9 ?_;refine mv ?_;refine qf ?_))))
  all_goals first
   | (refine qi ⟨_,rfl,?_⟩;exact hbd (fun q=>z1 q.2.1) S.drop)
   | (refine qi ⟨_,rfl,?_⟩;exact hbd (fun q=>z2 q.2.2.1) S.drop)
   | (refine qi ⟨_,rfl,?_⟩;exact hbd (fun q=>q.1 (List.eq_nil_of_length_eq_zero (show x0.ta.length=0 by omega))) S.drop)
   | skip
  have hne:x0.ta≠[]:=fun q=>by
   have:x0.ta.length=0:=by rw [q];rfl
   omega
  have hd1:=XH 8 x0.pl.toNat (by omega);have hd2:=XH 8 x0.st.toNat (by omega);(repeat (refine qg ?_));refine Zy (id:=10) [(6,(0,1))] [some (b9)] ?_;refine qp ?_;(first|(refine vl ?_<;>refine qf ⟨⟨by (first|exact True.intro),rfl⟩,?_⟩));refine qp ?_;(first|(refine lB S rfl rfl ?_<;>refine qf ⟨⟨by (first|exact True.intro),rfl⟩,?_⟩));((refine qp ?_;first|refine qo rfl rfl rfl rfl rfl ((gm S.wf hf x0.pl z1).mono ?_));rintro _ h ⟨rfl,x⟩)<;>((refine qf ⟨⟨True.intro,?_⟩,?_⟩;(focus ((show keepsX _ _ _ _ _;simp only [keepsX];(repeat' (first|exact True.intro|refine And.intro ?_ ?_));all_goals (intro hw;first|exact x.ext.old _ S.bB)))));replace S:=S.join0 x;clear x;refine qp ?_;(first|(refine tcL ?_<;>refine qf ⟨⟨by (first|exact True.intro),rfl⟩,?_⟩));refine qp ?_;(first|(refine tcL ?_<;>refine qf ⟨⟨by (first|exact True.intro),rfl⟩,?_⟩));refine qp ?_;(first|(refine vl ?_<;>refine qf ⟨⟨by (first|exact True.intro),rfl⟩,?_⟩));refine qp ?_;(first|(refine lB S rfl rfl ?_<;>refine qf ⟨⟨by (first|exact Or.inr rfl),rfl⟩,?_⟩)))
  ((refine qp ?_;first|refine qo rfl rfl rfl rfl rfl ((gm S.wf hf x0.st z2).mono ?_));rintro _ h ⟨rfl,x⟩)<;>((refine qf ⟨⟨True.intro,?_⟩,?_⟩;(focus ((show keepsX _ _ _ _ _;simp only [keepsX];(repeat' (first|exact True.intro|refine And.intro ?_ ?_));all_goals (intro hw;first|exact absurd hw (by decide +kernel))))));replace S:=S.join0 x;clear x;refine qp ?_;(first|(refine tcL ?_<;>refine qf ⟨⟨by (first|exact True.intro),rfl⟩,?_⟩)))
  have hbw:(Zi p.tabs (jY xs) i).length+([116,114,105,112,32] ++ QE x0.pl.toNat ++ [32] ++ QE x0.st.toNat).length≤1000000:=by
   simp only [zB2,zC4,List.length_nil];omega
  ((refine qp ?_;first|refine qo rfl rfl rfl rfl rfl ((YQ ([116,114,105,112,32] ++ QE x0.pl.toNat ++ [32] ++ QE x0.st.toNat) S g1 hbw).mono ?_));rintro _ h ⟨v',x⟩)<;>((refine qf ⟨⟨True.intro,?_⟩,?_⟩;(focus ((show keepsX _ _ _ _ _;simp only [keepsX];(repeat' (first|exact True.intro|refine And.intro ?_ ?_));all_goals (intro hw;first|exact absurd hw (by decide +kernel))))));replace S:=x;clear x;refine Ji ?_)
  have e0:[116,114,105,112,32] ++ QE x0.pl.toNat ++ [32] ++ QE x0.st.toNat=yf p.tabs x0.trp 0:=by rw [qfu];rfl
  rw [e0] at S;replace S:Hs h0 h [bst b7 (.pointer (some ⟨b7,0,none⟩)) v',bsl v' (Zi p.tabs (jY xs) i ++ yf p.tabs x0.trp 0),.blk b9 (jo x0) 71,.blk b2 pv.cs 28]:=S;all_goals (repeat' (first|refine qg ?_|refine ql ?_|(refine qc 11 ?_;refine vl ?_;refine lB S rfl rfl ?_;refine zT S ?_;refine mv ?_;refine qf ?_)))
  refine qG (σ:=Nat×Value) (fun (j,v) h'=>Hs h0 h' [bst b7 (.pointer (some ⟨b7,0,none⟩)) v,bsl v (Zi p.tabs (jY xs) i ++ yf p.tabs x0.trp j),.blk b9 (jo x0) 71,.blk b2 pv.cs 28]∧j≤x0.ta.length∧OkJ p.tabs x0.trp j) (fun (j,v)=>x0.ta.length - j) (fun (j,v)=>[(2,.pointer (some ⟨b2,0,none⟩)),(7,.pointer (some ⟨b7,0,none⟩)),(9,.pointer (some ⟨b9,0,none⟩)),(19,vx),(20,.int .i64 xs.length),(21,.int .i64 i),(52,x0.tv.val),(53,.int .i64 x0.ta.length),(54,.int .i64 j)]) (0,v') qw ?_ ?_
  ·exact ⟨S,zB0 _,hne,z1,z2,fun t ht=>by simp at ht⟩
  clear S;rintro ⟨j,v⟩ h ⟨S,f1,f2⟩;have hll:=Gy hv f2 (by omega);all_goals (repeat' (first|refine qg ?_|refine qh rfl ?_|refine qj ?_|refine qx ?_|refine ql ?_|(refine qc 12 ?_;(first|(refine cS ?_ ?_<;>intro hc))<;>(refine qf ?_))))
  ·have hj:j<x0.ta.length:=by omega
   have hx1:x0.ta.getD (j:Int).toNat default=x0.ta.getD j default:=rfl;have hlp:=qft (l:=p.tabs) (x:=x0.trp) hj;all_goals (repeat' (first|refine qg ?_|(refine qc 13 ?_;refine jB S ?_;refine jA S ?_;refine mv ?_;refine qf ?_)))
   rw [hx1];generalize htt:x0.ta.getD j default=t0 at *
   have hbt:¬ (0≤t0∧t0<p.tabs.length)→∃ t,str []=str t∧(PO p→t=Jq p.tabs (jY xs))∧(¬ PO p→t=[]):=fun hn=>hbad fun q=>hn (q.2.2.2 t0 (by rw [← htt];exact qL hj));all_goals (repeat' (first|refine qg ?_|refine qh rfl ?_|refine qj ?_|(refine qc 14 ?_;refine mv ?_;(first|(refine cS ?_ ?_<;>intro hc))<;>(refine mv ?_;(first|refine off ?_|refine mv ?_);(first|refine off ?_|(refine vl ?_));(first|refine off ?_|(refine lB S rfl rfl ?_));(first|refine off ?_|(refine zT S ?_));(first|refine off ?_|(first|(refine cS ?_ ?_<;>intro hc)))<;>(refine vl ?_;refine qf ?_)))|(refine qc 15 ?_;refine mv ?_;refine qf ?_)))
   ·refine qi ⟨_,rfl,?_⟩;obtain ⟨t,e1,e2,e3⟩:=hbt (by omega);exact ⟨t,e1,e2,e3,S.drop⟩
   ·refine qi ⟨_,rfl,?_⟩;obtain ⟨t,e1,e2,e3⟩:=hbt (by omega);exact ⟨t,e1,e2,e3,S.drop⟩
   have htb:0≤t0∧t0<p.tabs.length:=by omega
   have hn12:(p.tabs.getD t0.toNat default).name.length≤12:=(hv.nm (i:=t0.toNat) (by omega)).2.1;all_goals (repeat' (first|(refine qc 16 ?_;refine vl ?_;refine lB S rfl rfl ?_;refine mv ?_;refine jB S ?_;refine fB S ?_;refine jA S ?_;refine tcL ?_)))
   have hbw:(Zi p.tabs (jY xs) i ++ yf p.tabs x0.trp j).length+([32] ++ jQ p.tabs t0).length≤1000000:=by
    have:(jQ p.tabs t0).length≤12:=hn12;simp only [zB2,zC4,List.length_nil];omega
   (refine qo rfl rfl rfl rfl rfl ((YQ ([32] ++ jQ p.tabs t0) S (.inr rfl) hbw).mono ?_);rintro _ h ⟨v2,S2⟩)<;>(replace S:=S2;clear S2;refine qf ?_)
   rw [zF1] at S;have hlp2:yf p.tabs x0.trp j ++ ([32] ++ jQ p.tabs t0)=yf p.tabs x0.trp (j+1):=by rw [hlp,← htt]
   rw [hlp2] at S;all_goals (repeat' (first|(refine qc 17 ?_;refine ad ?_;refine mv ?_;refine qf ?_)))
   refine ⟨(j+1,v2),?_,?_,qw⟩
   ·show x0.ta.length - (j+1)<x0.ta.length - j;omega
   ·refine ⟨S,by (try dsimp only);omega,hne,z1,z2,fun t ht=>?_⟩;have e:x0.trp.ta.take (j+1)=x0.ta.take j ++ [t0]:=by rw [← htt];exact qK hj
    rw [e] at ht;rcases zB8.1 ht with r|r
    ·exact f2.2.2.2 t r
    ·rw [zB5.1 r];exact htb
  ·obtain rfl:j=x0.ta.length:=by omega
   all_goals (repeat' (first|(refine qc 18 ?_;skip)))
   have hbw:(Zi p.tabs (jY xs) i ++ yf p.tabs x0.trp x0.ta.length).length+([10]:List UInt8).length≤1000000:=by
    simp only [zB2,zC4,List.length_nil];omega
   (refine qo rfl rfl rfl rfl rfl ((YQ [10] S (.inr rfl) hbw).mono ?_);rintro _ h ⟨v2,S2⟩)<;>(replace S:=S2;clear S2;refine qf ?_)
   rw [← hls] at S;have S:=(show Hs h0 h [bst b7 (.pointer (some ⟨b7,0,none⟩)) v2,bsl v2 (Zi p.tabs (jY xs) (i+1)),.blk b2 pv.cs 28] from S.pick)
   all_goals (repeat' (first|(refine qc 19 ?_;refine ad ?_;refine mv ?_;refine qf ?_)))
   refine ⟨(i+1,.pointer (some ⟨b7,0,none⟩),v2),?_,?_,qw⟩
   ·show xs.length - (i+1)<xs.length - i;omega
   ·refine ⟨S,.inr rfl,by (try dsimp only);omega,jr g3 ?_,fun q=>by omega⟩;rw [ex];refine ⟨f2.1,f2.2.1,f2.2.2.1,fun t ht=>f2.2.2.2 t ?_⟩;show t∈x0.ta.take x0.ta.length
    rw [zF7 (zA3 _)];exact ht
 ·obtain rfl:i=xs.length:=by omega
  have hall:=Pn (l:=p.tabs) (xs:=jY xs) fun j hj=>g3 j (by omega);rw [hml] at hall;all_goals (repeat' (first|(refine qc 20 ?_;skip)))
  rcases zF3 xs.length with hz|hz
  ·have hv0:=g4 hz;subst hv0;have S:=(show Hs h0 h [bst b7 q (.slice none 0 0),.blk b2 pv.cs 28] from S.pick)
   (refine qo rfl rfl rfl rfl rfl ((qb3 S).mono ?_);rintro _ h ⟨rfl,S2⟩)<;>(replace S:=S2;clear S2;refine mv ?_;refine qf ?_)
   all_goals (repeat' (fail))
   refine qi ⟨_,rfl,?_⟩;refine ⟨[],rfl,fun _=>?_,fun q=>absurd hP q,S.drop⟩;rw [hall,hz];simp [Zi,txt]
  ·have hp:0<(Zi p.tabs (jY xs) xs.length).length:=by
    obtain ⟨k,hk⟩:∃ k,xs.length=k+1:=⟨xs.length - 1,by omega⟩
    rw [hk,vG (by omega)];simp only [zB2,zD5];omega
   (refine qo rfl rfl rfl rfl rfl ((qdc S ⟨hp,by omega⟩).mono ?_);rintro _ h ⟨rfl,S2⟩)<;>(replace S:=S2;clear S2;refine mv ?_;refine qf ?_)
   all_goals (repeat' (fail))
   refine qi ⟨_,rfl,?_⟩;exact ⟨_,rfl,fun _=>hall.symm,fun q=>absurd hP q,S.drop⟩
end Go.Proofs.Xx
namespace Go.Proofs.Xx
open Go Go.Proofs
variable [Flag]
theorem qbb {h0:AH} (w:WfH h0) (v:Value) (ws:List (List UInt8)) (rv:qY h0 v 1 eS ws) (hl:ws.length≤100) (hw:∀ u∈ws,u.length≤100):Fn Tryz.prog Xh 79 [v] h0 (fun r h'=>r=str (Vs ws ++ [10])∧Hs h0 h' []):=by
 have S:=Hs.start w;have hjl:∀ i,(Vs (ws.take i)).length≤10100:=fun i=>by
  have:=qbB (n:=100) (ws:=ws.take i) fun u hu=>hw u (List.mem_of_mem_take hu);have h2:(ws.take i).length≤100:=by rw [zA9];omega
  omega
 refine qF (by first|rfl) Tryz.func79 rfl rfl ?_;all_goals (repeat' (first|refine qg ?_|refine ql ?_|(refine qc 0 ?_;refine mv ?_;refine qf ?_)|(refine qc 1 ?_;refine mv ?_;refine qf ?_)|(refine qc 2 ?_;refine mv ?_;refine qf ?_)))
 refine qG (σ:=Nat) (fun i h'=>Hs h0 h' []∧i≤ws.length) (fun i=>ws.length - i) (fun i=>[(0,v),(3,str (Vs (ws.take i))),(4,.int .i64 i)]) 0 qw ?_ ?_
 ·exact ⟨S,zB0 _⟩
 clear S;rintro i h ⟨S,h1⟩;have hj:=hjl i;have hj1:=hjl (i+1);all_goals (repeat' (first|refine qg ?_|refine qh rfl ?_|refine qj ?_|refine qx ?_|refine ql ?_|(refine qc 3 ?_;refine mv ?_;refine mv ?_;refine zT S ?_;(first|(refine cS ?_ ?_<;>intro hc))<;>(refine qf ?_))|(refine qc 5 ?_;refine mv ?_;(first|(refine cS ?_ ?_<;>intro hc))<;>(refine qf ?_))))
 ·have hi:i<ws.length:=by omega
  have hx0:ws.getD (i:Int).toNat default=ws.getD i default:=rfl;have hwi:=hw _ (qL hi);have e:Vs (ws.take i) ++ [32] ++ ws.getD i default=Vs (ws.take (i+1)):=by
   rw [qK hi,kZ fun q=>by have:=congrArg List.length q;rw [zA9,List.length_nil] at this;omega]
  all_goals (repeat' (first|(refine qc 4 ?_;refine mv ?_;refine ad ?_;refine mv ?_;refine qf ?_)|(refine qc 6 ?_;refine mv ?_;refine tc ?_;refine mv ?_;refine qf ?_)|(refine qc 7 ?_;(iterate 3 refine mv ?_);refine jB S ?_;refine jA S ?_;refine tc ?_;refine mv ?_;refine qf ?_)))
  rw [hx0,e];refine ⟨i+1,?_,?_,qw⟩
  ·show ws.length - (i+1)<ws.length - i;omega
  ·exact ⟨S,by (try dsimp only);omega⟩
 ·have hi:i<ws.length:=by omega
  have hx0:ws.getD (i:Int).toNat default=ws.getD i default:=rfl;have hwi:=hw _ (qL hi);obtain rfl:i=0:=by omega
  have e:Vs (ws.take 0) ++ ws.getD 0 default=Vs (ws.take (0+1)):=by
   rw [qK hi];simp [Vs]
  all_goals (repeat' (first|(refine qc 4 ?_;refine mv ?_;refine ad ?_;refine mv ?_;refine qf ?_)|(refine qc 7 ?_;(iterate 3 refine mv ?_);refine jB S ?_;refine jA S ?_;refine tc ?_;refine mv ?_;refine qf ?_)))
  rw [hx0,e];refine ⟨1,?_,?_,qw⟩
  ·show ws.length - 1<ws.length - 0;omega
  ·exact ⟨S,by (try dsimp only);omega⟩
 ·obtain rfl:i=ws.length:=by omega
  rw [zF7 (zA3 _)] at hj ⊢;all_goals (repeat' (first|(refine qc 8 ?_;refine mv ?_;refine tc ?_;refine mv ?_;refine qf ?_)))
  refine qi ⟨_,rfl,?_⟩;exact ⟨rfl,S⟩
theorem Gn {h0:AH} (w:WfH h0) (pv:PbV) (p:Pb) (H:PbOk h0 pv p) (hv:ValidL p.tabs) (vx:Value) (xs:List Tr_) (rx:qY h0 vx 3 jo xs) (rr:∀ i,i<xs.length→qY h0 (xs.getD i default).tv.val 1 eI (xs.getD i default).ta) (hx:xs.length≤12) (ht:∀ i,i<xs.length→(xs.getD i default).ta.length≤12) :
 Fn Tryz.prog Xh 46 [pv.val,vx] h0 (fun u h'=>u=str (Jq p.tabs (jY xs))∧Hs h0 h' []):=by
 have S:=Hs.start w;have hr:=H.tab.rd;have hl:=H.tab.len;have hmg:∀ i,i<xs.length→(jY xs).getD i default=(xs.getD i default).trp:=fun i hi=>zn (f:=fun x:Tr_=>x.trp) hi;have hml:(jY xs).length=xs.length:=by simp
 have hmt:∀ i,i<(jY xs).length→((jY xs).getD i default).ta.length≤12:=fun i hi=>by rw [hmg i (by omega)];exact ht i (by omega)
 unfold PbV.val;refine qF (by first|rfl) Tryz.func46 rfl rfl ?_;all_goals (repeat' (first|refine qg ?_|(refine qc 0 ?_;(refine bx S ?_;clear S;intro b h S);refine mv ?_;refine qf ?_)|(refine qc 1 ?_;refine mv ?_;refine qf ?_)))
 obtain ⟨b2,hnm⟩:∃ x,x=b:=⟨_,rfl⟩;subst hnm;all_goals (repeat' (first|refine ql ?_|(refine qc 2 ?_;refine mv ?_;refine qf ?_)))
 refine qG (σ:=Nat) (fun i h'=>Hs h0 h' [.blk b2 pv.cs 28]∧i≤xs.length∧(∀ j,j<i→KA p.tabs ((jY xs).getD j default))) (fun i=>xs.length - i) (fun i=>[(1,vx),(2,.pointer (some ⟨b2,0,none⟩)),(5,str (Zi p.tabs (jY xs) i)),(6,.int .i64 i)]) 0 qw ?_ ?_
 ·exact ⟨S,zB0 _,fun j hj=>absurd hj (zB7 _)⟩
 clear S;rintro i h ⟨S,g2,g3⟩;have hL:=Ph hv hmt (i:=i) (by omega) g3;all_goals (repeat' (first|refine qg ?_|refine qh rfl ?_|refine qj ?_|refine qx ?_|refine ql ?_|(refine qc 3 ?_;refine mv ?_;refine mv ?_;refine zT S ?_;(first|(refine cS ?_ ?_<;>intro hc))<;>(refine qf ?_))))
 ·have hi:i<xs.length:=by omega
  have hx0:xs.getD (i:Int).toNat default=xs.getD i default:=rfl;have ex:=hmg i hi;have rxi:=rr i hi;have hti:=ht i hi;have hls:=vG (l:=p.tabs) (xs:=jY xs) (i:=i) (by omega);rw [ex] at hls;all_goals (repeat' (first|refine qg ?_|(refine qc 5 ?_;refine mv ?_;refine mv ?_;refine jB S ?_;refine jA S ?_;(refine al S ?_;clear S;intro b h S);(first|(refine sB S rfl rfl ?_;clear S;intro h S));refine qf ?_)))
  obtain ⟨b7,hnm⟩:∃ x,x=b:=⟨_,rfl⟩;subst hnm;generalize hxx:xs.getD i default=x0 at *
  replace S:Hs h0 h [.blk b7 (jo x0) 71,.blk b2 pv.cs 28]:=by rw [← hxx];exact S
  have hbd:¬ KA p.tabs x0.trp→∀ {h':AH},Hs h0 h' []→str []=str (Jq p.tabs (jY xs))∧Hs h0 h' []:=fun hn _ x=>⟨by rw [qbM (l:=p.tabs) (xs:=jY xs) (i:=i) (by omega) (by rw [ex];exact hn)],x⟩
  all_goals (repeat' (first|refine qg ?_|refine qh rfl ?_|refine qj ?_|(refine qc 6 ?_;refine vl ?_;refine lB S rfl rfl ?_;refine zT S ?_;(first|(refine cS ?_ ?_<;>intro hc))<;>(refine mv ?_;(first|refine off ?_|(refine vl ?_));(first|refine off ?_|(refine lB S rfl rfl ?_));(first|refine off ?_|(first|(refine cS ?_ ?_<;>intro hc)))<;>(refine vl ?_;refine mv ?_;(first|refine off ?_|(refine vl ?_));(first|refine off ?_|(refine lB S rfl rfl ?_));(first|refine off ?_|(first|(refine cS ?_ ?_<;>intro hc)))<;>(refine vl ?_;refine mv ?_;(first|refine off ?_|(refine vl ?_));(first|refine off ?_|(refine lB S rfl rfl ?_));(first|refine off ?_|(first|(refine cS ?_ ?_<;>intro hc)))<;>(refine vl ?_;refine mv ?_;(first|refine off ?_|(refine vl ?_));(first|refine off ?_|(refine lB S rfl rfl ?_));(first|refine off ?_|(first|(refine cS ?_ ?_<;>intro hc)))<;>(refine vl ?_;refine qf ?_))))))|(refine qc 7 ?_;refine mv ?_;refine qf ?_)))
  all_goals first
   | (refine qi ⟨_,rfl,?_⟩;exact hbd (fun q=>q.1 (List.eq_nil_of_length_eq_zero (show x0.ta.length=0 by omega))) S.drop)
   | (refine qi ⟨_,rfl,?_⟩;exact hbd (fun q=>by have:=q.2.1;have:=q.2.2.1;dsimp only at *;omega) S.drop)
   | skip
  have hne:x0.ta≠[]:=fun q=>by
   have:x0.ta.length=0:=by rw [q];rfl
   omega
  have z1:0≤x0.pl∧x0.pl≤999999999:=by omega
  have z2:0≤x0.st∧x0.st≤999999999:=by omega
  have hd1:=XH 8 x0.pl.toNat (by omega);have hd2:=XH 8 x0.st.toNat (by omega);(repeat (refine qg ?_));refine Zy (id:=8) [(4,(0,1))] [some (b7)] ?_;refine qp ?_;(first|(refine vl ?_<;>refine qf ⟨⟨by (first|exact True.intro),rfl⟩,?_⟩));refine qp ?_;(first|(refine lB S rfl rfl ?_<;>refine qf ⟨⟨by (first|exact True.intro),rfl⟩,?_⟩));((refine qp ?_;first|refine qo rfl rfl rfl rfl rfl ((WM S.wf (z:=x0.pl) x0.pl.toNat (by omega) (by omega)).mono ?_));rintro _ h ⟨rfl,x⟩)<;>((refine qf ⟨⟨True.intro,?_⟩,?_⟩;(focus ((show keepsX _ _ _ _ _;simp only [keepsX];(repeat' (first|exact True.intro|refine And.intro ?_ ?_));all_goals (intro hw;first|exact x.ext.old _ S.bB)))));replace S:=S.join0 x;clear x;refine qp ?_;(first|(refine vl ?_<;>refine qf ⟨⟨by (first|exact True.intro),rfl⟩,?_⟩));refine qp ?_;(first|(refine lB S rfl rfl ?_<;>refine qf ⟨⟨by (first|exact Or.inr rfl),rfl⟩,?_⟩)))
  ((refine qp ?_;first|refine qo rfl rfl rfl rfl rfl ((WM S.wf (z:=x0.st) x0.st.toNat (by omega) (by omega)).mono ?_));rintro _ h ⟨rfl,x⟩)<;>((refine qf ⟨⟨True.intro,?_⟩,?_⟩;(focus ((show keepsX _ _ _ _ _;simp only [keepsX];(repeat' (first|exact True.intro|refine And.intro ?_ ?_));all_goals (intro hw;first|exact absurd hw (by decide +kernel))))));replace S:=S.join0 x;clear x)
  refine qp ?_;refine bsn (α:=List UInt8) (z:=1) eS [ZE,QE x0.pl.toNat,QE x0.st.toNat] S ?_;have S0:=S;clear S;intro u h S;refine qf ⟨⟨True.intro,?_⟩,?_⟩;(focus ((show keepsX _ _ _ _ _;simp only [keepsX];(repeat' (first|exact True.intro|refine And.intro ?_ ?_));all_goals (intro hw;first|exact absurd hw (by decide +kernel)))));clear S0;(refine qp ?_;(first|(refine mv ?_<;>refine qf ⟨⟨by (first|exact True.intro),rfl⟩,?_⟩));refine Ji ?_);all_goals (repeat' (first|refine qg ?_|refine ql ?_|(refine qc 9 ?_;refine mv ?_;refine qf ?_)))
  refine qG (σ:=Nat×Value) (fun (j,v) h'=>Hs h0 h' [.sl v 9 1 eS (ZE :: QE x0.pl.toNat :: QE x0.st.toNat :: (x0.ta.take j).map (jQ p.tabs)),.blk b7 (jo x0) 71,.blk b2 pv.cs 28]∧j≤x0.ta.length∧OkJ p.tabs x0.trp j) (fun (j,v)=>x0.ta.length - j) (fun (j,v)=>[(1,vx),(2,.pointer (some ⟨b2,0,none⟩)),(5,str (Zi p.tabs (jY xs) i)),(6,.int .i64 i),(7,.pointer (some ⟨b7,0,none⟩)),(8,v),(9,.int .i64 j)]) (0,u) qw ?_ ?_
  ·exact ⟨S,zB0 _,hne,z1,z2,fun t ht=>by simp at ht⟩
  clear S;rintro ⟨j,v⟩ h ⟨S,f1,f2⟩;all_goals (repeat' (first|refine qg ?_|refine qh rfl ?_|refine qj ?_|refine qx ?_|refine ql ?_|(refine qc 10 ?_;refine mv ?_;refine vl ?_;refine lB S rfl rfl ?_;refine zT S ?_;(first|(refine cS ?_ ?_<;>intro hc))<;>(refine qf ?_))))
  ·have hj:j<x0.ta.length:=by omega
   have hx1:x0.ta.getD (j:Int).toNat default=x0.ta.getD j default:=rfl;all_goals (repeat' (first|refine qg ?_|refine qh rfl ?_|refine qj ?_|(refine qQ 12 ?_;refine vl ?_;refine lB S rfl rfl ?_;refine mv ?_;refine jB S ?_;refine jA S ?_;(first|(refine cS ?_ ?_<;>intro hc))<;>(refine mv ?_;(first|refine off ?_|(refine vl ?_));(first|refine off ?_|(refine lB S rfl rfl ?_));(first|refine off ?_|refine mv ?_);(first|refine off ?_|(refine jB S ?_));(first|refine off ?_|(refine jA S ?_));(first|refine off ?_|(refine vl ?_));(first|refine off ?_|(refine lB S rfl rfl ?_));(first|refine off ?_|(refine zT S ?_));(first|refine off ?_|(first|(refine cS ?_ ?_<;>intro hc)))<;>(refine vl ?_;refine qf ?_)))))
   all_goals (try rw [hx1])
   all_goals generalize htt:x0.ta.getD j default=t0 at *
   all_goals (have hbt:¬ (0≤t0∧t0<p.tabs.length)→∀ {h':AH},Hs h0 h' []→str []=str (Jq p.tabs (jY xs))∧Hs h0 h' []:=fun hn _ x=>hbd (fun q=>hn (q.2.2.2 t0 (by rw [← htt];exact qL hj))) x)
   all_goals (all_goals (repeat' (first|(refine qc 13 ?_;refine mv ?_;refine qf ?_))))
   ·refine qi ⟨_,rfl,?_⟩;exact hbt (by omega) S.drop
   ·refine qi ⟨_,rfl,?_⟩;exact hbt (by omega) S.drop
   have htb:0≤t0∧t0<p.tabs.length:=by omega
   have hn12:(p.tabs.getD t0.toNat default).name.length≤12:=(hv.nm (i:=t0.toNat) (by omega)).2.1;have hll:(ZE :: QE x0.pl.toNat :: QE x0.st.toNat :: (x0.ta.take j).map (jQ p.tabs)).length≤100:=by
    simp only [zC4,zC5,zA9];omega
   all_goals (repeat' (first|(refine qQ 14 ?_;refine mv ?_;refine vl ?_;refine lB S rfl rfl ?_;refine vl ?_;refine lB S rfl rfl ?_;refine mv ?_;refine jB S ?_;refine jA S ?_;refine jB S ?_;refine fB S ?_;refine jA S ?_;(refine one 1 S ?_;clear S;intro u h S))))
   have et:(p.tabs.getD (x0.ta.getD (j:Int).toNat default).toNat default).name=jQ p.tabs t0:=by rw [hx1];rfl
   refine app (y0:=(p.tabs.getD (x0.ta.getD (j:Int).toNat default).toNat default).name) S rfl rfl ?_;clear S;intro v h S;refine mv ?_;refine qf ?_;rw [et] at S;all_goals (repeat' (first|(refine qc 11 ?_;refine mv ?_;refine ad ?_;refine mv ?_;refine qf ?_)))
   refine ⟨(j+1,v),?_,?_,qw⟩
   ·show x0.ta.length - (j+1)<x0.ta.length - j;omega
   ·have e:x0.trp.ta.take (j+1)=x0.ta.take j ++ [t0]:=by rw [← htt];exact qK hj
    have e2:x0.ta.take (j+1)=x0.ta.take j ++ [t0]:=e;refine ⟨by rw [e2,zC9];exact S,by (try dsimp only);omega,hne,z1,z2,fun t ht=>?_⟩;rw [e] at ht;rcases zB8.1 ht with r|r
    ·exact f2.2.2.2 t r
    ·rw [zB5.1 r];exact htb
  ·obtain rfl:j=x0.ta.length:=by omega
   have hok:KA p.tabs x0.trp:=⟨f2.1,f2.2.1,f2.2.2.1,fun t ht=>f2.2.2.2 t (by
    show t∈x0.ta.take x0.ta.length
    rw [zF7 (zA3 _)];exact ht)⟩
   have hll:=Gy hv f2 (by omega);have hww:∀ u∈(ZE :: QE x0.pl.toNat :: QE x0.st.toNat :: (x0.ta.take x0.ta.length).map (jQ p.tabs)),u.length≤100:=fun w hw=>by
    rcases zE7.1 hw with rfl|hw
    ·decide
    rcases zE7.1 hw with rfl|hw
    ·omega
    rcases zE7.1 hw with rfl|hw
    ·omega
    ·obtain ⟨t,ht,rfl⟩:=zF0.1 hw;have:=f2.2.2.2 t ht;have hn:=(hv.nm (i:=t.toNat) (by omega)).2.1;have e:jQ p.tabs t=(tb p.tabs t.toNat).name:=rfl;rw [e];omega
   have hlw:(ZE :: QE x0.pl.toNat :: QE x0.st.toNat :: (x0.ta.take x0.ta.length).map (jQ p.tabs)).length≤100:=by
    simp only [zC4,zC5,zA9];omega
   have hLL:(Vs (ZE :: QE x0.pl.toNat :: QE x0.st.toNat :: (x0.ta.take x0.ta.length).map (jQ p.tabs)) ++ [10]).length≤196:=by
    show (yf p.tabs x0.trp x0.ta.length ++ [10]).length≤196
    simp only [zB2,zD5];omega
   all_goals (repeat' (first|(refine qc 15 ?_;refine mv ?_;refine mv ?_)))
   (refine qo rfl rfl rfl rfl rfl ((qbb S.wf v _ (Rd.of_sl S .here) hlw hww).mono ?_);rintro _ h ⟨rfl,x⟩)<;>(replace S:=S.join0 x;clear x;refine tc ?_;refine mv ?_;refine qf ?_)
   have eL:Vs (ZE :: QE x0.pl.toNat :: QE x0.st.toNat :: (x0.ta.take x0.ta.length).map (jQ p.tabs)) ++ [10]=yf p.tabs x0.trp x0.ta.length ++ [10]:=rfl;rw [eL];all_goals (repeat' (first|(refine qc 4 ?_;refine mv ?_;refine ad ?_;refine mv ?_;refine qf ?_)))
   have e:Zi p.tabs (jY xs) i ++ (yf p.tabs x0.trp x0.ta.length ++ [10])=Zi p.tabs (jY xs) (i+1):=by rw [hls,zF1]
   rw [e];refine ⟨i+1,?_,?_,qw⟩
   ·show xs.length - (i+1)<xs.length - i;omega
   ·exact ⟨S.pick,by (try dsimp only);omega,jr g3 (by rw [ex];exact hok)⟩
 ·obtain rfl:i=xs.length:=by omega
  have hall:=Pn (l:=p.tabs) (xs:=jY xs) fun j hj=>g3 j (by omega);rw [hml] at hall;all_goals (repeat' (first|(refine qc 16 ?_;refine mv ?_;refine mv ?_;refine qf ?_)))
  refine qi ⟨_,rfl,?_⟩;exact ⟨by rw [hall];rfl,S.drop⟩
end Go.Proofs.Xx
