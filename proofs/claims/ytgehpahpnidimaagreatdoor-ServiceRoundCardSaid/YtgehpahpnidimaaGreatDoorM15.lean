/-
  Itoa,for numbers below 10^9.
-/
import Derived.Test.YtgehpahpnidimaaGreatDoorM13
import Derived.Test.YtgehpahpnidimaaGreatDoorM14
import Derived.Test.YtgehpahpnidimaaGreatDoorM9
import Derived.Test.YtgehpahpnidimaaGreatDoorM11
import Derived.Test.YtgehpahpnidimaaGreatDoorM10
import Derived.Test.YtgehpahpnidimaaGreatDoorM8
set_option linter.unusedSimpArgs false
set_option linter.unusedVariables false
set_option linter.unusedSectionVars false
set_option maxRecDepth 100000
set_option maxHeartbeats 4000000
namespace Go.Proofs.Xx
open Go Go.Proofs
section
variable {P:Program} {X:Extern} {sz:Nat} {L L':Ks} {h:AH} {ops:Array Oper} {os:List Oper} {o:Oper} {R:Ks→AH→Prop}
theorem wrap_u32 {n:Int} (h:0≤n∧n≤4294967295):IntKind.u32.wrap n=n:=kz (by simpa [IntKind.min,IntKind.max,IntKind.signed,IntKind.bits] using h)
theorem JU {x y:Operand} {ty ty2:TypeId} {a b:Int} (w:KO P X sz ops os L' h R) (ho:o.op = .binOp .rem ty x y ty2:=by exact rfl) (hg:qo ops L.tree o.guard=some true:=by exact rfl) (hx:kA L x=some (.int .u32 a):=by exact rfl) (hy:kA L y=some (.int .u32 b):=by exact rfl)
 (hb:0≤a∧0<b:=by omega) (hp:qE sz L o.dst (.int .u32 (a % b))=some L':=by exact rfl):KO P X sz ops (o :: os) L h R :=
 zN ho hg hx hy (by
  have h1:¬ b=0:=by omega
  have h2:a.tmod b=a % b:=Int.tmod_eq_emod_of_nonneg hb.1;simp only [Qe,decide_true,decide_eq_false h1,h2]) hp w
theorem JW {x y:Operand} {ty ty2:TypeId} {a b:Int} (w:KO P X sz ops os L' h R) (ho:o.op = .binOp .quo ty x y ty2:=by exact rfl) (hg:qo ops L.tree o.guard=some true:=by exact rfl) (hx:kA L x=some (.int .u32 a):=by exact rfl) (hy:kA L y=some (.int .u32 b):=by exact rfl)
 (hb:0≤a∧a≤4294967295∧0<b:=by omega) (hp:qE sz L o.dst (.int .u32 (a / b))=some L':=by exact rfl):KO P X sz ops (o :: os) L h R :=
 zN ho hg hx hy (by
  have h1:¬ b=0:=by omega
  have h2:a.tdiv b=a / b:=Int.tdiv_eq_ediv_of_nonneg hb.1;have h3:0≤a / b:=Int.ediv_nonneg hb.1 (by omega);have h4:a / b≤a:=Int.ediv_le_self _ hb.1;simp only [Qe,decide_true,decide_eq_false h1,h2,wrap_u32 ⟨h3,(by omega:a / b≤4294967295)⟩]) hp w
theorem Jj {x y:Operand} {ty ty2:TypeId} {a b:Int} (w:KO P X sz ops os L' h R) (ho:o.op = .binOp .mul ty x y ty2:=by exact rfl) (hg:qo ops L.tree o.guard=some true:=by exact rfl) (hx:kA L x=some (.int .u32 a):=by exact rfl) (hy:kA L y=some (.int .u32 b):=by exact rfl)
 (hb:0≤a*b∧a*b≤4294967295:=by omega) (hp:qE sz L o.dst (.int .u32 (a*b))=some L':=by exact rfl):KO P X sz ops (o :: os) L h R :=
 zN ho hg hx hy (by simp only [Qe,decide_true,wrap_u32 hb]) hp w
theorem Zm {x y:Operand} {ty ty2:TypeId} {a b:Int} (w:KO P X sz ops os L' h R) (ho:o.op = .binOp .add ty x y ty2:=by exact rfl) (hg:qo ops L.tree o.guard=some true:=by exact rfl) (hx:kA L x=some (.int .u32 a):=by exact rfl) (hy:kA L y=some (.int .u32 b):=by exact rfl)
 (hb:0≤a+b∧a+b≤4294967295:=by omega) (hp:qE sz L o.dst (.int .u32 (a+b))=some L':=by exact rfl):KO P X sz ops (o :: os) L h R :=
 zN ho hg hx hy (by simp only [Qe,decide_true,wrap_u32 hb]) hp w
theorem kw {x:Operand} {s d:TypeId} {k1 k2:IntKind} {a:Int} (w:KO P X sz ops os L' h R) (ho:o.op = .convert s d x:=by exact rfl) (hg:qo ops L.tree o.guard=some true:=by exact rfl) (hx:kA L x=some (.int k1 a):=by exact rfl) (hs:P.underlying s=some (.int k2):=by exact rfl) (hd:P.underlying d=some (.int .u32):=by exact rfl)
 (hb:0≤a∧a≤4294967295:=by omega) (hp:qE sz L o.dst (.int .u32 a)=some L':=by exact rfl):KO P X sz ops (o :: os) L h R :=
 qW (v:=.int .u32 a) hg (by rw [ho];simp only [zD,qB hx,zF,hs,hd,wrap_u32 hb]) hp w
theorem qfH {x y:Operand} {ty ty2:TypeId} {a b:Int} (w:KO P X sz ops os L' h R) (ho:o.op = .binOp .rem ty x y ty2:=by exact rfl) (hg:qo ops L.tree o.guard=some true:=by exact rfl) (hx:kA L x=some (.int .u64 a):=by exact rfl) (hy:kA L y=some (.int .u64 b):=by exact rfl)
 (hb:0≤a∧0<b:=by omega) (hp:qE sz L o.dst (.int .u64 (a % b))=some L':=by exact rfl):KO P X sz ops (o :: os) L h R :=
 zN ho hg hx hy (by
  have h1:¬ b=0:=by omega
  have h2:a.tmod b=a % b:=Int.tmod_eq_emod_of_nonneg hb.1;simp only [Qe,decide_true,decide_eq_false h1,h2]) hp w
theorem qfJ {x y:Operand} {ty ty2:TypeId} {a b:Int} (w:KO P X sz ops os L' h R) (ho:o.op = .binOp .quo ty x y ty2:=by exact rfl) (hg:qo ops L.tree o.guard=some true:=by exact rfl) (hx:kA L x=some (.int .u64 a):=by exact rfl) (hy:kA L y=some (.int .u64 b):=by exact rfl)
 (hb:0≤a∧a≤18446744073709551615∧0<b:=by omega) (hp:qE sz L o.dst (.int .u64 (a / b))=some L':=by exact rfl):KO P X sz ops (o :: os) L h R :=
 zN ho hg hx hy (by
  have h1:¬ b=0:=by omega
  have h2:a.tdiv b=a / b:=Int.tdiv_eq_ediv_of_nonneg hb.1;have h3:0≤a / b:=Int.ediv_nonneg hb.1 (by omega);have h4:a / b≤a:=Int.ediv_le_self _ hb.1;simp only [Qe,decide_true,decide_eq_false h1,h2,wrap_u64 ⟨h3,(by omega:a / b≤18446744073709551615)⟩]) hp w
theorem P6 {x lo hi:Operand} {vl vr:Value} {ty e' e:TypeId} {b m l r z:Nat} {c:List Value} (hb:h.get b=some (.cells c e none false))
 (w:KO P X sz ops os L' h R) (ho:o.op = .slice ty x (some lo) (some hi) none:=by exact rfl) (hg:qo ops L.tree o.guard=some true:=by exact rfl) (hx:kA L x=some (.pointer (some ⟨b,0,none⟩)):=by exact rfl)
 (h1:kA L lo=some vl:=by exact rfl) (h2:kA L hi=some vr:=by exact rfl) (b1:qR (some vl) 0=some l:=by exact rfl) (hu:P.underlying ty=some (.array m e'):=by exact rfl) (b2:qR (some vr) m=some r:=by exact rfl)
 (hc:l≤r∧r≤m∧l<m:=by omega) (hz:zq P e'=some z:=by exact rfl) (hp:qE sz L o.dst (.slice (some ⟨b,0+l*z,none⟩) (r - l) (m - l))=some L':=by exact rfl):KO P X sz ops (o :: os) L h R:=by
 refine qW (v:=.slice (some ⟨b,0+l*z,none⟩) (r - l) (m - l)) (h':=h) hg ?_ hp w;have hne:Nat.beq l m=false:=by rw [Bool.eq_false_iff];intro q;have:=zA6 q;omega
 rw [ho];simp only [zD,qB hx,zH,qB h1,qB h2,YF,zh,hu,hb,hz,b1,b2,zB3 hc.1,zB3 hc.2.1,zF9,hne,qH]
end
variable [Flag]
theorem qdw {h0:AH} (hf:Flag.b=true) (n:Nat) (hn:1≤n∧n<18446744073709551616):Fn Tryz.prog Xh 235 [.int .u64 n] h0 (fun v h'=>v = .int .i64 (Lib.nDigits n)∧h'=h0):=by
 refine Zn (v:=.int .i64 (Lib.nDigits n)) (h':=h0) ?_ ⟨rfl,rfl⟩;show (if @Flag.b flagOn=true∧1≤(n:Int)∧(n:Int)<18446744073709551616 then some (Value.int .i64 (Lib.nDigits (n:Int).toNat),h0) else none)=_
 rw [if_pos ⟨rfl,by omega,by omega⟩,zA0]
def qhf (l:List Value):List Value:=l ++ List.replicate (24 - l.length) (.int .u8 0)
theorem qal:∀ k,k<100→d100.getD (k*2) 0=UInt8.ofNat (48+k / 10)∧d100.getD (k*2+1) 0=UInt8.ofNat (48+k % 10):=by decide +kernel
section
variable {P:Program} {X:Extern} {sz:Nat} {L L':Ks} {h:AH} {ops:Array Oper} {os:List Oper} {o:Oper} {R:Ks→AH→Prop}
theorem vT {x i:Operand} {ty:TypeId} {ik:IntKind} {a:Int} (k:Nat) (w:KO P X sz ops os L' h R) (ho:o.op = .index ty x i:=by exact rfl) (hg:qo ops L.tree o.guard=some true:=by exact rfl) (hx:kA L x=some (str d100):=by exact rfl) (hi:kA L i=some (.int ik a):=by exact rfl) (hu:P.underlying ty=some .string:=by exact rfl)
 (ha:a=(k:Int)*2∧k<100:=by omega) (hp:qE sz L o.dst (.int .u8 ((48+k / 10:Nat):Int))=some L':=by exact rfl):KO P X sz ops (o :: os) L h R:=by
 have e:(((d100.getD a.toNat 0).toNat:Nat):Int)=((48+k / 10:Nat):Int):=by
  rw [show a.toNat=k*2 by omega,(qal k ha.2).1,u8t (by omega)]
 rw [← e] at hp;exact ti w ho hg hx hi hu ⟨by omega,by rw [show d100.length=200 by decide +kernel];omega⟩ hp
theorem vS {x i:Operand} {ty:TypeId} {ik:IntKind} {a:Int} (k:Nat) (w:KO P X sz ops os L' h R) (ho:o.op = .index ty x i:=by exact rfl) (hg:qo ops L.tree o.guard=some true:=by exact rfl) (hx:kA L x=some (str d100):=by exact rfl) (hi:kA L i=some (.int ik a):=by exact rfl) (hu:P.underlying ty=some .string:=by exact rfl)
 (ha:a=(k:Int)*2+1∧k<100:=by omega) (hp:qE sz L o.dst (.int .u8 ((48+k % 10:Nat):Int))=some L':=by exact rfl):KO P X sz ops (o :: os) L h R:=by
 have e:(((d100.getD a.toNat 0).toNat:Nat):Int)=((48+k % 10:Nat):Int):=by
  rw [show a.toNat=k*2+1 by omega,(qal k ha.2).2,u8t (by omega)]
 rw [← e] at hp;exact ti w ho hg hx hi hu ⟨by omega,by rw [show d100.length=200 by decide +kernel];omega⟩ hp
end
abbrev z8 (k:Nat):List Value:=List.replicate k (.int .u8 0)
abbrev jy (k:Nat):Value:=.int .u8 ((k:Nat):Int)
theorem qeT {h0 h:AH} {rs:List Rs} {b:Nat} (S:Hs h0 h (.blk b (z8 24) 254 :: rs)) (n:Nat) (hn:n<10 ^ 3):Fn Tryz.prog Xh 236 [.slice (some ⟨b,1,none⟩) 3 23,.int .u64 n] h
 (fun _ h'=>Hs h0 h' (.blk b (.int .u8 0 :: jy (48+(n / 100)) :: jy (48+n % 100 / 10) :: jy (48+n % 100 % 10) :: z8 20) 254 :: rs)):=by
 have hn:n<1000:=hn;refine qM (by first|rfl) Tryz.func236 rfl rfl ?_;all_goals (repeat' (first|refine qg ?_|refine qp ?_|(refine qc 0 ?_;refine mv ?_;refine vl ?_;refine mv ?_;refine qf ?_)))
 refine qL (σ:=Unit) (fun _ h'=>Hs h0 h' (.blk b (z8 24) 254 :: rs)) (fun _=>0) (fun _=>[(0,.slice (some ⟨b,1,none⟩) 3 23),(1,.int .u64 n),(4,.int .i64 3)]) () qy ?_ ?_
 ·exact S
 clear S;rintro - h S;all_goals (repeat' (first|refine qg ?_|refine qi rfl ?_|refine qj ?_|refine qA ?_|(refine qc 1 ?_;refine mv ?_;(refine cF ?_)<;>(refine qf ?_))|(refine qc 12 ?_;refine mv ?_;refine kw ?_;refine mv ?_;refine qf ?_)|(refine qc 13 ?_;refine mv ?_;(refine cF ?_)<;>(refine qf ?_))|(refine qc 20 ?_;refine mv ?_;(refine cT ?_)<;>(refine qf ?_))|(refine qc 21 ?_;refine mv ?_;refine JU ?_;refine Jj ?_;refine mv ?_;refine qf ?_)|(refine qc 22 ?_;refine mv ?_;refine JW ?_;refine mv ?_;refine qf ?_)))
 (repeat (refine qg ?_))
 refine zi 23 ?_;refine mv ?_;refine mv ?_;refine sb ?_;refine mv ?_;refine mv ?_;refine sb ?_;refine mv ?_;refine Zm ?_;refine vS (n % 100) ?_;refine mv ?_;refine vT (n % 100) ?_;refine vl ?_;(refine sB S rfl rfl ?_;clear S;intro h S);refine vl ?_;(refine sB S rfl rfl ?_;clear S;intro h S);refine qf ?_;all_goals (repeat' (first|refine qg ?_|refine qi rfl ?_|(refine qc 24 ?_;refine mv ?_;refine sb ?_;refine mv ?_;refine qf ?_)|(refine qc 25 ?_;refine mv ?_;(refine cT ?_)<;>(refine qf ?_))|(refine qc 26 ?_;refine mv ?_;refine mv ?_;refine Zm ?_;refine cU ?_;refine vl ?_;(first|(refine sB S rfl rfl ?_;clear S;intro h S));refine qf ?_)))
 refine ⟨_,rfl,?_⟩;exact S
theorem qf7 {n:Nat} (h:100≤n∧n<1000):[48+(n / 100),48+n % 100 / 10,48+n % 100 % 10].map UInt8.ofNat=QV n:=by
 rw [jk (show ¬ n<10 by omega)];rw [jk (show ¬ n / 10<10 by omega)];rw [XR (show n / 10 / 10<10 by omega)];rw [show 48+(n / 100)=48+n / 10 / 10 by omega];rw [show 48+n % 100 / 10=48+n / 10 % 10 by omega];rw [show 48+n % 100 % 10=48+n % 10 by omega];rfl
theorem qgO {n:Nat} (h:100≤n∧n<1000):Lib.nDigits n=3:=by
 rw [Lib.nDigits,dif_neg (by omega),Lib.nDigits,dif_neg (by omega),Lib.nDigits,dif_pos (by omega)]
theorem qeS {h0 h:AH} {rs:List Rs} {b:Nat} (S:Hs h0 h (.blk b (z8 24) 254 :: rs)) (n:Nat) (hn:n<10 ^ 4):Fn Tryz.prog Xh 236 [.slice (some ⟨b,1,none⟩) 4 23,.int .u64 n] h
 (fun _ h'=>Hs h0 h' (.blk b (.int .u8 0 :: jy (48+(n % 10000) / 100 / 10) :: jy (48+(n % 10000) / 100 % 10) :: jy (48+(n % 10000) % 100 / 10) :: jy (48+(n % 10000) % 100 % 10) :: z8 19) 254 :: rs)):=by
 have hn:n<10000:=hn;refine qM (by first|rfl) Tryz.func236 rfl rfl ?_;all_goals (repeat' (first|refine qg ?_|refine qp ?_|(refine qc 0 ?_;refine mv ?_;refine vl ?_;refine mv ?_;refine qf ?_)))
 refine qL (σ:=Unit) (fun _ h'=>Hs h0 h' (.blk b (z8 24) 254 :: rs)) (fun _=>0) (fun _=>[(0,.slice (some ⟨b,1,none⟩) 4 23),(1,.int .u64 n),(4,.int .i64 4)]) () qy ?_ ?_
 ·exact S
 clear S;rintro - h S;all_goals (repeat' (first|refine qg ?_|refine qi rfl ?_|refine qA ?_|(refine qc 1 ?_;refine mv ?_;(refine cF ?_)<;>(refine qf ?_))|(refine qc 12 ?_;refine mv ?_;refine kw ?_;refine mv ?_;refine qf ?_)|(refine qc 13 ?_;refine mv ?_;(refine cT ?_)<;>(refine qf ?_))|(refine qc 14 ?_;refine mv ?_;refine JU ?_;refine mv ?_;refine qf ?_)|(refine qc 15 ?_;refine mv ?_;refine JW ?_;refine mv ?_;refine qf ?_)|(refine qc 16 ?_;refine mv ?_;refine JW ?_;refine Jj ?_;refine mv ?_;refine JU ?_;refine Jj ?_;refine mv ?_;refine mv ?_;refine qf ?_)))
 (repeat (refine qg ?_))
 refine zi 17 ?_;refine mv ?_;refine mv ?_;refine sb ?_;refine mv ?_;refine mv ?_;refine sb ?_;refine mv ?_;refine Zm ?_;refine vS (n % 10000 % 100) ?_;refine mv ?_;refine vT (n % 10000 % 100) ?_;refine vl ?_;(refine sB S rfl rfl ?_;clear S;intro h S);refine vl ?_;(refine sB S rfl rfl ?_;clear S;intro h S);refine qf ?_;(repeat (refine qg ?_));refine zi 18 ?_;refine mv ?_;refine mv ?_;refine sb ?_;refine mv ?_;refine mv ?_;refine sb ?_;refine mv ?_;refine Zm ?_;refine vS (n % 10000 / 100) ?_;refine mv ?_;refine vT (n % 10000 / 100) ?_;refine vl ?_;(refine sB S rfl rfl ?_;clear S;intro h S);refine vl ?_;(refine sB S rfl rfl ?_;clear S;intro h S);refine qf ?_;all_goals (repeat' (first|refine qg ?_|refine qi rfl ?_|refine qj ?_|(refine qc 19 ?_;refine mv ?_;refine sb ?_;refine mv ?_;refine qf ?_)|(refine qc 20 ?_;refine mv ?_;(refine cF ?_)<;>(refine qf ?_))|(refine qc 25 ?_;refine mv ?_;(refine cF ?_)<;>(refine qf ?_))))
 refine ⟨_,rfl,?_⟩;exact S
theorem qf6 {n:Nat} (h:1000≤n∧n<10000):[48+(n % 10000) / 100 / 10,48+(n % 10000) / 100 % 10,48+(n % 10000) % 100 / 10,48+(n % 10000) % 100 % 10].map UInt8.ofNat=QV n:=by
 rw [jk (show ¬ n<10 by omega)];rw [jk (show ¬ n / 10<10 by omega)];rw [jk (show ¬ n / 10 / 10<10 by omega)];rw [XR (show n / 10 / 10 / 10<10 by omega)];rw [show 48+(n % 10000) / 100 / 10=48+n / 10 / 10 / 10 by omega];rw [show 48+(n % 10000) / 100 % 10=48+n / 10 / 10 % 10 by omega];rw [show 48+(n % 10000) % 100 / 10=48+n / 10 % 10 by omega];rw [show 48+(n % 10000) % 100 % 10=48+n % 10 by omega];rfl
theorem qgN {n:Nat} (h:1000≤n∧n<10000):Lib.nDigits n=4:=by
 rw [Lib.nDigits,dif_neg (by omega),Lib.nDigits,dif_neg (by omega),Lib.nDigits,dif_neg (by omega),Lib.nDigits,dif_pos (by omega)]
theorem qeR {h0 h:AH} {rs:List Rs} {b:Nat} (S:Hs h0 h (.blk b (z8 24) 254 :: rs)) (n:Nat) (hn:n<10 ^ 5):Fn Tryz.prog Xh 236 [.slice (some ⟨b,1,none⟩) 5 23,.int .u64 n] h
 (fun _ h'=>Hs h0 h' (.blk b (.int .u8 0 :: jy (48+(n / 10000)) :: jy (48+(n % 10000) / 100 / 10) :: jy (48+(n % 10000) / 100 % 10) :: jy (48+(n % 10000) % 100 / 10) :: jy (48+(n % 10000) % 100 % 10) :: z8 18) 254 :: rs)):=by
 have hn:n<100000:=hn;refine qM (by first|rfl) Tryz.func236 rfl rfl ?_;all_goals (repeat' (first|refine qg ?_|refine qp ?_|(refine qc 0 ?_;refine mv ?_;refine vl ?_;refine mv ?_;refine qf ?_)))
 refine qL (σ:=Unit) (fun _ h'=>Hs h0 h' (.blk b (z8 24) 254 :: rs)) (fun _=>0) (fun _=>[(0,.slice (some ⟨b,1,none⟩) 5 23),(1,.int .u64 n),(4,.int .i64 5)]) () qy ?_ ?_
 ·exact S
 clear S;rintro - h S;all_goals (repeat' (first|refine qg ?_|refine qi rfl ?_|refine qA ?_|(refine qc 1 ?_;refine mv ?_;(refine cF ?_)<;>(refine qf ?_))|(refine qc 12 ?_;refine mv ?_;refine kw ?_;refine mv ?_;refine qf ?_)|(refine qc 13 ?_;refine mv ?_;(refine cT ?_)<;>(refine qf ?_))|(refine qc 14 ?_;refine mv ?_;refine JU ?_;refine mv ?_;refine qf ?_)|(refine qc 15 ?_;refine mv ?_;refine JW ?_;refine mv ?_;refine qf ?_)|(refine qc 16 ?_;refine mv ?_;refine JW ?_;refine Jj ?_;refine mv ?_;refine JU ?_;refine Jj ?_;refine mv ?_;refine mv ?_;refine qf ?_)))
 (repeat (refine qg ?_))
 refine zi 17 ?_;refine mv ?_;refine mv ?_;refine sb ?_;refine mv ?_;refine mv ?_;refine sb ?_;refine mv ?_;refine Zm ?_;refine vS (n % 10000 % 100) ?_;refine mv ?_;refine vT (n % 10000 % 100) ?_;refine vl ?_;(refine sB S rfl rfl ?_;clear S;intro h S);refine vl ?_;(refine sB S rfl rfl ?_;clear S;intro h S);refine qf ?_;(repeat (refine qg ?_));refine zi 18 ?_;refine mv ?_;refine mv ?_;refine sb ?_;refine mv ?_;refine mv ?_;refine sb ?_;refine mv ?_;refine Zm ?_;refine vS (n % 10000 / 100) ?_;refine mv ?_;refine vT (n % 10000 / 100) ?_;refine vl ?_;(refine sB S rfl rfl ?_;clear S;intro h S);refine vl ?_;(refine sB S rfl rfl ?_;clear S;intro h S);refine qf ?_;all_goals (repeat' (first|refine qg ?_|refine qi rfl ?_|refine qj ?_|(refine qc 19 ?_;refine mv ?_;refine sb ?_;refine mv ?_;refine qf ?_)|(refine qc 20 ?_;refine mv ?_;(refine cF ?_)<;>(refine qf ?_))|(refine qc 25 ?_;refine mv ?_;(refine cT ?_)<;>(refine qf ?_))|(refine qc 26 ?_;refine mv ?_;refine mv ?_;refine Zm ?_;refine cU ?_;refine vl ?_;(first|(refine sB S rfl rfl ?_;clear S;intro h S));refine qf ?_)))
 refine ⟨_,rfl,?_⟩;exact S
theorem qf5 {n:Nat} (h:10000≤n∧n<100000):[48+(n / 10000),48+(n % 10000) / 100 / 10,48+(n % 10000) / 100 % 10,48+(n % 10000) % 100 / 10,48+(n % 10000) % 100 % 10].map UInt8.ofNat=QV n:=by
 rw [jk (show ¬ n<10 by omega)];rw [jk (show ¬ n / 10<10 by omega)];rw [jk (show ¬ n / 10 / 10<10 by omega)];rw [jk (show ¬ n / 10 / 10 / 10<10 by omega)];rw [XR (show n / 10 / 10 / 10 / 10<10 by omega)];rw [show 48+(n / 10000)=48+n / 10 / 10 / 10 / 10 by omega];rw [show 48+(n % 10000) / 100 / 10=48+n / 10 / 10 / 10 % 10 by omega];rw [show 48+(n % 10000) / 100 % 10=48+n / 10 / 10 % 10 by omega];rw [show 48+(n % 10000) % 100 / 10=48+n / 10 % 10 by omega];rw [show 48+(n % 10000) % 100 % 10=48+n % 10 by omega];rfl
theorem qgM {n:Nat} (h:10000≤n∧n<100000):Lib.nDigits n=5:=by
 rw [Lib.nDigits,dif_neg (by omega),Lib.nDigits,dif_neg (by omega),Lib.nDigits,dif_neg (by omega),Lib.nDigits,dif_neg (by omega),Lib.nDigits,dif_pos (by omega)]
theorem qeQ {h0 h:AH} {rs:List Rs} {b:Nat} (S:Hs h0 h (.blk b (z8 24) 254 :: rs)) (n:Nat) (hn:n<10 ^ 6):Fn Tryz.prog Xh 236 [.slice (some ⟨b,1,none⟩) 6 23,.int .u64 n] h
 (fun _ h'=>Hs h0 h' (.blk b (.int .u8 0 :: jy (48+(n / 10000) % 100 / 10) :: jy (48+(n / 10000) % 100 % 10) :: jy (48+(n % 10000) / 100 / 10) :: jy (48+(n % 10000) / 100 % 10) :: jy (48+(n % 10000) % 100 / 10) :: jy (48+(n % 10000) % 100 % 10) :: z8 17) 254 :: rs)):=by
 have hn:n<1000000:=hn;refine qM (by first|rfl) Tryz.func236 rfl rfl ?_;all_goals (repeat' (first|refine qg ?_|refine qp ?_|(refine qc 0 ?_;refine mv ?_;refine vl ?_;refine mv ?_;refine qf ?_)))
 refine qL (σ:=Unit) (fun _ h'=>Hs h0 h' (.blk b (z8 24) 254 :: rs)) (fun _=>0) (fun _=>[(0,.slice (some ⟨b,1,none⟩) 6 23),(1,.int .u64 n),(4,.int .i64 6)]) () qy ?_ ?_
 ·exact S
 clear S;rintro - h S;all_goals (repeat' (first|refine qg ?_|refine qi rfl ?_|refine qA ?_|(refine qc 1 ?_;refine mv ?_;(refine cF ?_)<;>(refine qf ?_))|(refine qc 12 ?_;refine mv ?_;refine kw ?_;refine mv ?_;refine qf ?_)|(refine qc 13 ?_;refine mv ?_;(refine cT ?_)<;>(refine qf ?_))|(refine qc 14 ?_;refine mv ?_;refine JU ?_;refine mv ?_;refine qf ?_)|(refine qc 15 ?_;refine mv ?_;refine JW ?_;refine mv ?_;refine qf ?_)|(refine qc 16 ?_;refine mv ?_;refine JW ?_;refine Jj ?_;refine mv ?_;refine JU ?_;refine Jj ?_;refine mv ?_;refine mv ?_;refine qf ?_)))
 (repeat (refine qg ?_))
 refine zi 17 ?_;refine mv ?_;refine mv ?_;refine sb ?_;refine mv ?_;refine mv ?_;refine sb ?_;refine mv ?_;refine Zm ?_;refine vS (n % 10000 % 100) ?_;refine mv ?_;refine vT (n % 10000 % 100) ?_;refine vl ?_;(refine sB S rfl rfl ?_;clear S;intro h S);refine vl ?_;(refine sB S rfl rfl ?_;clear S;intro h S);refine qf ?_;(repeat (refine qg ?_));refine zi 18 ?_;refine mv ?_;refine mv ?_;refine sb ?_;refine mv ?_;refine mv ?_;refine sb ?_;refine mv ?_;refine Zm ?_;refine vS (n % 10000 / 100) ?_;refine mv ?_;refine vT (n % 10000 / 100) ?_;refine vl ?_;(refine sB S rfl rfl ?_;clear S;intro h S);refine vl ?_;(refine sB S rfl rfl ?_;clear S;intro h S);refine qf ?_;all_goals (repeat' (first|refine qg ?_|refine qi rfl ?_|(refine qc 19 ?_;refine mv ?_;refine sb ?_;refine mv ?_;refine qf ?_)|(refine qc 20 ?_;refine mv ?_;(refine cT ?_)<;>(refine qf ?_))|(refine qc 21 ?_;refine mv ?_;refine JU ?_;refine Jj ?_;refine mv ?_;refine qf ?_)|(refine qc 22 ?_;refine mv ?_;refine JW ?_;refine mv ?_;refine qf ?_)))
 (repeat (refine qg ?_))
 refine zi 23 ?_;refine mv ?_;refine mv ?_;refine sb ?_;refine mv ?_;refine mv ?_;refine sb ?_;refine mv ?_;refine Zm ?_;refine vS (n / 10000 % 100) ?_;refine mv ?_;refine vT (n / 10000 % 100) ?_;refine vl ?_;(refine sB S rfl rfl ?_;clear S;intro h S);refine vl ?_;(refine sB S rfl rfl ?_;clear S;intro h S);refine qf ?_;all_goals (repeat' (first|refine qg ?_|refine qi rfl ?_|refine qj ?_|(refine qc 24 ?_;refine mv ?_;refine sb ?_;refine mv ?_;refine qf ?_)|(refine qc 25 ?_;refine mv ?_;(refine cF ?_)<;>(refine qf ?_))))
 refine ⟨_,rfl,?_⟩;exact S
theorem qf4 {n:Nat} (h:100000≤n∧n<1000000):[48+(n / 10000) % 100 / 10,48+(n / 10000) % 100 % 10,48+(n % 10000) / 100 / 10,48+(n % 10000) / 100 % 10,48+(n % 10000) % 100 / 10,48+(n % 10000) % 100 % 10].map UInt8.ofNat=QV n:=by
 rw [jk (show ¬ n<10 by omega)];rw [jk (show ¬ n / 10<10 by omega)];rw [jk (show ¬ n / 10 / 10<10 by omega)];rw [jk (show ¬ n / 10 / 10 / 10<10 by omega)];rw [jk (show ¬ n / 10 / 10 / 10 / 10<10 by omega)];rw [XR (show n / 10 / 10 / 10 / 10 / 10<10 by omega)];rw [show 48+(n / 10000) % 100 / 10=48+n / 10 / 10 / 10 / 10 / 10 by omega];rw [show 48+(n / 10000) % 100 % 10=48+n / 10 / 10 / 10 / 10 % 10 by omega];rw [show 48+(n % 10000) / 100 / 10=48+n / 10 / 10 / 10 % 10 by omega];rw [show 48+(n % 10000) / 100 % 10=48+n / 10 / 10 % 10 by omega];rw [show 48+(n % 10000) % 100 / 10=48+n / 10 % 10 by omega];rw [show 48+(n % 10000) % 100 % 10=48+n % 10 by omega];rfl
theorem qgL {n:Nat} (h:100000≤n∧n<1000000):Lib.nDigits n=6:=by
 rw [Lib.nDigits,dif_neg (by omega),Lib.nDigits,dif_neg (by omega),Lib.nDigits,dif_neg (by omega),Lib.nDigits,dif_neg (by omega),Lib.nDigits,dif_neg (by omega),Lib.nDigits,dif_pos (by omega)]
theorem qeP {h0 h:AH} {rs:List Rs} {b:Nat} (S:Hs h0 h (.blk b (z8 24) 254 :: rs)) (n:Nat) (hn:n<10 ^ 7):Fn Tryz.prog Xh 236 [.slice (some ⟨b,1,none⟩) 7 23,.int .u64 n] h
 (fun _ h'=>Hs h0 h' (.blk b (.int .u8 0 :: jy (48+((n / 10000) / 100)) :: jy (48+(n / 10000) % 100 / 10) :: jy (48+(n / 10000) % 100 % 10) :: jy (48+(n % 10000) / 100 / 10) :: jy (48+(n % 10000) / 100 % 10) :: jy (48+(n % 10000) % 100 / 10) :: jy (48+(n % 10000) % 100 % 10) :: z8 16) 254 :: rs)):=by
 have hn:n<10000000:=hn;refine qM (by first|rfl) Tryz.func236 rfl rfl ?_;all_goals (repeat' (first|refine qg ?_|refine qp ?_|(refine qc 0 ?_;refine mv ?_;refine vl ?_;refine mv ?_;refine qf ?_)))
 refine qL (σ:=Unit) (fun _ h'=>Hs h0 h' (.blk b (z8 24) 254 :: rs)) (fun _=>0) (fun _=>[(0,.slice (some ⟨b,1,none⟩) 7 23),(1,.int .u64 n),(4,.int .i64 7)]) () qy ?_ ?_
 ·exact S
 clear S;rintro - h S;all_goals (repeat' (first|refine qg ?_|refine qi rfl ?_|refine qA ?_|(refine qc 1 ?_;refine mv ?_;(refine cF ?_)<;>(refine qf ?_))|(refine qc 12 ?_;refine mv ?_;refine kw ?_;refine mv ?_;refine qf ?_)|(refine qc 13 ?_;refine mv ?_;(refine cT ?_)<;>(refine qf ?_))|(refine qc 14 ?_;refine mv ?_;refine JU ?_;refine mv ?_;refine qf ?_)|(refine qc 15 ?_;refine mv ?_;refine JW ?_;refine mv ?_;refine qf ?_)|(refine qc 16 ?_;refine mv ?_;refine JW ?_;refine Jj ?_;refine mv ?_;refine JU ?_;refine Jj ?_;refine mv ?_;refine mv ?_;refine qf ?_)))
 (repeat (refine qg ?_))
 refine zi 17 ?_;refine mv ?_;refine mv ?_;refine sb ?_;refine mv ?_;refine mv ?_;refine sb ?_;refine mv ?_;refine Zm ?_;refine vS (n % 10000 % 100) ?_;refine mv ?_;refine vT (n % 10000 % 100) ?_;refine vl ?_;(refine sB S rfl rfl ?_;clear S;intro h S);refine vl ?_;(refine sB S rfl rfl ?_;clear S;intro h S);refine qf ?_;(repeat (refine qg ?_));refine zi 18 ?_;refine mv ?_;refine mv ?_;refine sb ?_;refine mv ?_;refine mv ?_;refine sb ?_;refine mv ?_;refine Zm ?_;refine vS (n % 10000 / 100) ?_;refine mv ?_;refine vT (n % 10000 / 100) ?_;refine vl ?_;(refine sB S rfl rfl ?_;clear S;intro h S);refine vl ?_;(refine sB S rfl rfl ?_;clear S;intro h S);refine qf ?_;all_goals (repeat' (first|refine qg ?_|refine qi rfl ?_|(refine qc 19 ?_;refine mv ?_;refine sb ?_;refine mv ?_;refine qf ?_)|(refine qc 20 ?_;refine mv ?_;(refine cT ?_)<;>(refine qf ?_))|(refine qc 21 ?_;refine mv ?_;refine JU ?_;refine Jj ?_;refine mv ?_;refine qf ?_)|(refine qc 22 ?_;refine mv ?_;refine JW ?_;refine mv ?_;refine qf ?_)))
 (repeat (refine qg ?_))
 refine zi 23 ?_;refine mv ?_;refine mv ?_;refine sb ?_;refine mv ?_;refine mv ?_;refine sb ?_;refine mv ?_;refine Zm ?_;refine vS (n / 10000 % 100) ?_;refine mv ?_;refine vT (n / 10000 % 100) ?_;refine vl ?_;(refine sB S rfl rfl ?_;clear S;intro h S);refine vl ?_;(refine sB S rfl rfl ?_;clear S;intro h S);refine qf ?_;all_goals (repeat' (first|refine qg ?_|refine qi rfl ?_|(refine qc 24 ?_;refine mv ?_;refine sb ?_;refine mv ?_;refine qf ?_)|(refine qc 25 ?_;refine mv ?_;(refine cT ?_)<;>(refine qf ?_))|(refine qc 26 ?_;refine mv ?_;refine mv ?_;refine Zm ?_;refine cU ?_;refine vl ?_;(first|(refine sB S rfl rfl ?_;clear S;intro h S));refine qf ?_)))
 refine ⟨_,rfl,?_⟩;exact S
theorem qf3 {n:Nat} (h:1000000≤n∧n<10000000):[48+((n / 10000) / 100),48+(n / 10000) % 100 / 10,48+(n / 10000) % 100 % 10,48+(n % 10000) / 100 / 10,48+(n % 10000) / 100 % 10,48+(n % 10000) % 100 / 10,48+(n % 10000) % 100 % 10].map UInt8.ofNat=QV n:=by
 rw [jk (show ¬ n<10 by omega)];rw [jk (show ¬ n / 10<10 by omega)];rw [jk (show ¬ n / 10 / 10<10 by omega)];rw [jk (show ¬ n / 10 / 10 / 10<10 by omega)];rw [jk (show ¬ n / 10 / 10 / 10 / 10<10 by omega)];rw [jk (show ¬ n / 10 / 10 / 10 / 10 / 10<10 by omega)];rw [XR (show n / 10 / 10 / 10 / 10 / 10 / 10<10 by omega)];rw [show 48+((n / 10000) / 100)=48+n / 10 / 10 / 10 / 10 / 10 / 10 by omega];rw [show 48+(n / 10000) % 100 / 10=48+n / 10 / 10 / 10 / 10 / 10 % 10 by omega];rw [show 48+(n / 10000) % 100 % 10=48+n / 10 / 10 / 10 / 10 % 10 by omega];rw [show 48+(n % 10000) / 100 / 10=48+n / 10 / 10 / 10 % 10 by omega];rw [show 48+(n % 10000) / 100 % 10=48+n / 10 / 10 % 10 by omega];rw [show 48+(n % 10000) % 100 / 10=48+n / 10 % 10 by omega];rw [show 48+(n % 10000) % 100 % 10=48+n % 10 by omega];rfl
theorem qgK {n:Nat} (h:1000000≤n∧n<10000000):Lib.nDigits n=7:=by
 rw [Lib.nDigits,dif_neg (by omega),Lib.nDigits,dif_neg (by omega),Lib.nDigits,dif_neg (by omega),Lib.nDigits,dif_neg (by omega),Lib.nDigits,dif_neg (by omega),Lib.nDigits,dif_neg (by omega),Lib.nDigits,dif_pos (by omega)]
theorem qeO {h0 h:AH} {rs:List Rs} {b:Nat} (S:Hs h0 h (.blk b (z8 24) 254 :: rs)) (n:Nat) (hn:n<10 ^ 8):Fn Tryz.prog Xh 236 [.slice (some ⟨b,1,none⟩) 8 23,.int .u64 n] h
 (fun _ h'=>Hs h0 h' (.blk b (.int .u8 0 :: jy (48+(n % 100000000 / 10000) / 100 / 10) :: jy (48+(n % 100000000 / 10000) / 100 % 10) :: jy (48+(n % 100000000 / 10000) % 100 / 10) :: jy (48+(n % 100000000 / 10000) % 100 % 10) :: jy (48+(n % 100000000 % 10000) / 100 / 10) :: jy (48+(n % 100000000 % 10000) / 100 % 10) :: jy (48+(n % 100000000 % 10000) % 100 / 10) :: jy (48+(n % 100000000 % 10000) % 100 % 10) :: z8 15) 254 :: rs)):=by
 have hn:n<100000000:=hn;refine qM (by first|rfl) Tryz.func236 rfl rfl ?_;all_goals (repeat' (first|refine qg ?_|refine qp ?_|(refine qc 0 ?_;refine mv ?_;refine vl ?_;refine mv ?_;refine qf ?_)))
 refine qL (σ:=Bool) (fun c h'=>Hs h0 h' (.blk b (if c then (z8 1 ++ [jy (48+(n % 100000000 / 10000) / 100 / 10),jy (48+(n % 100000000 / 10000) / 100 % 10),jy (48+(n % 100000000 / 10000) % 100 / 10),jy (48+(n % 100000000 / 10000) % 100 % 10),jy (48+(n % 100000000 % 10000) / 100 / 10),jy (48+(n % 100000000 % 10000) / 100 % 10),jy (48+(n % 100000000 % 10000) % 100 / 10),jy (48+(n % 100000000 % 10000) % 100 % 10)] ++ z8 15) else z8 24) 254 :: rs)) (fun c=>if c then 0 else 1) (fun c=>[(0,.slice (some ⟨b,1,none⟩) 8 23),(1,.int .u64 (if c then (n:Int) / 100000000 else n)),(4,.int .i64 (if c then 0 else 8))]) false qy ?_ ?_
 ·exact S
 clear S;rintro c h S;cases c
 ·replace S:Hs h0 h (.blk b (z8 24) 254 :: rs):=S;simp only [if_false,zD9,if_true];all_goals (repeat' (first|refine qg ?_|refine qi rfl ?_|refine qj ?_|refine qp ?_|(refine qc 1 ?_;refine mv ?_;(refine cT ?_)<;>(refine qf ?_))))
  (repeat (refine qg ?_));refine qc 2 ?_;refine mv ?_;refine qfH ?_;refine kw ?_;refine mv ?_;refine qf ?_;(repeat (refine qg ?_));refine qc 3 ?_;refine mv ?_;refine qfJ ?_;refine mv ?_;refine qf ?_;all_goals (repeat' (first|refine qg ?_|(refine qc 4 ?_;refine mv ?_;refine JW ?_;refine mv ?_;refine JU ?_;refine mv ?_;refine mv ?_;refine qf ?_)|(refine qc 5 ?_;refine mv ?_;refine JW ?_;refine Jj ?_;refine mv ?_;refine JU ?_;refine Jj ?_;refine mv ?_;refine mv ?_;refine qf ?_)|(refine qc 6 ?_;refine mv ?_;refine JW ?_;refine Jj ?_;refine mv ?_;refine JU ?_;refine Jj ?_;refine mv ?_;refine mv ?_;refine qf ?_)))
  (repeat (refine qg ?_))
  refine zi 7 ?_;refine mv ?_;refine mv ?_;refine sb ?_;refine mv ?_;refine mv ?_;refine sb ?_;refine mv ?_;refine Zm ?_;refine vS ((n % 100000000 % 10000) % 100) ?_;refine mv ?_;refine vT ((n % 100000000 % 10000) % 100) ?_;refine vl ?_;(refine sB S rfl rfl ?_;clear S;intro h S);refine vl ?_;(refine sB S rfl rfl ?_;clear S;intro h S);refine qf ?_;(repeat (refine qg ?_));refine zi 8 ?_;refine mv ?_;refine mv ?_;refine sb ?_;refine mv ?_;refine mv ?_;refine sb ?_;refine mv ?_;refine Zm ?_;refine vS ((n % 100000000 % 10000) / 100) ?_;refine mv ?_;refine vT ((n % 100000000 % 10000) / 100) ?_;refine vl ?_;(refine sB S rfl rfl ?_;clear S;intro h S);refine vl ?_;(refine sB S rfl rfl ?_;clear S;intro h S);refine qf ?_;(repeat (refine qg ?_));refine zi 9 ?_;refine mv ?_;refine mv ?_;refine sb ?_;refine mv ?_;refine mv ?_;refine sb ?_;refine mv ?_;refine Zm ?_;refine vS ((n % 100000000 / 10000) % 100) ?_;refine mv ?_;refine vT ((n % 100000000 / 10000) % 100) ?_;refine vl ?_;(refine sB S rfl rfl ?_;clear S;intro h S);refine vl ?_;(refine sB S rfl rfl ?_;clear S;intro h S);refine qf ?_;(repeat (refine qg ?_));refine zi 10 ?_;refine mv ?_;refine mv ?_;refine sb ?_;refine mv ?_;refine mv ?_;refine sb ?_;refine mv ?_;refine Zm ?_;refine vS ((n % 100000000 / 10000) / 100) ?_;refine mv ?_;refine vT ((n % 100000000 / 10000) / 100) ?_;refine vl ?_;(refine sB S rfl rfl ?_;clear S;intro h S);refine vl ?_;(refine sB S rfl rfl ?_;clear S;intro h S);refine qf ?_;all_goals (repeat' (first|(refine qc 11 ?_;refine mv ?_;refine sb ?_;refine mv ?_;refine qf ?_)))
  refine ⟨true,?_,?_,qy⟩
  ·exact Nat.zero_lt_one
  ·exact S
 replace S:Hs h0 h (.blk b (z8 1 ++ [jy (48+(n % 100000000 / 10000) / 100 / 10),jy (48+(n % 100000000 / 10000) / 100 % 10),jy (48+(n % 100000000 / 10000) % 100 / 10),jy (48+(n % 100000000 / 10000) % 100 % 10),jy (48+(n % 100000000 % 10000) / 100 / 10),jy (48+(n % 100000000 % 10000) / 100 % 10),jy (48+(n % 100000000 % 10000) % 100 / 10),jy (48+(n % 100000000 % 10000) % 100 % 10)] ++ z8 15) 254 :: rs):=S;simp only [if_true];all_goals (repeat' (first|refine qg ?_|refine qi rfl ?_|refine qj ?_|refine qA ?_|(refine qc 1 ?_;refine mv ?_;(refine cF ?_)<;>(refine qf ?_))|(refine qc 12 ?_;refine mv ?_;refine kw ?_;refine mv ?_;refine qf ?_)|(refine qc 13 ?_;refine mv ?_;(refine cF ?_)<;>(refine qf ?_))|(refine qc 20 ?_;refine mv ?_;(refine cF ?_)<;>(refine qf ?_))|(refine qc 25 ?_;refine mv ?_;(refine cF ?_)<;>(refine qf ?_))))
 refine ⟨_,rfl,?_⟩;exact S
theorem qf2 {n:Nat} (h:10000000≤n∧n<100000000):[48+(n % 100000000 / 10000) / 100 / 10,48+(n % 100000000 / 10000) / 100 % 10,48+(n % 100000000 / 10000) % 100 / 10,48+(n % 100000000 / 10000) % 100 % 10,48+(n % 100000000 % 10000) / 100 / 10,48+(n % 100000000 % 10000) / 100 % 10,48+(n % 100000000 % 10000) % 100 / 10,48+(n % 100000000 % 10000) % 100 % 10].map UInt8.ofNat=QV n:=by
 rw [jk (show ¬ n<10 by omega)];rw [jk (show ¬ n / 10<10 by omega)];rw [jk (show ¬ n / 10 / 10<10 by omega)];rw [jk (show ¬ n / 10 / 10 / 10<10 by omega)];rw [jk (show ¬ n / 10 / 10 / 10 / 10<10 by omega)];rw [jk (show ¬ n / 10 / 10 / 10 / 10 / 10<10 by omega)];rw [jk (show ¬ n / 10 / 10 / 10 / 10 / 10 / 10<10 by omega)];rw [XR (show n / 10 / 10 / 10 / 10 / 10 / 10 / 10<10 by omega)];rw [show 48+(n % 100000000 / 10000) / 100 / 10=48+n / 10 / 10 / 10 / 10 / 10 / 10 / 10 by omega];rw [show 48+(n % 100000000 / 10000) / 100 % 10=48+n / 10 / 10 / 10 / 10 / 10 / 10 % 10 by omega];rw [show 48+(n % 100000000 / 10000) % 100 / 10=48+n / 10 / 10 / 10 / 10 / 10 % 10 by omega];rw [show 48+(n % 100000000 / 10000) % 100 % 10=48+n / 10 / 10 / 10 / 10 % 10 by omega];rw [show 48+(n % 100000000 % 10000) / 100 / 10=48+n / 10 / 10 / 10 % 10 by omega];rw [show 48+(n % 100000000 % 10000) / 100 % 10=48+n / 10 / 10 % 10 by omega];rw [show 48+(n % 100000000 % 10000) % 100 / 10=48+n / 10 % 10 by omega];rw [show 48+(n % 100000000 % 10000) % 100 % 10=48+n % 10 by omega];rfl
theorem qgJ {n:Nat} (h:10000000≤n∧n<100000000):Lib.nDigits n=8:=by
 rw [Lib.nDigits,dif_neg (by omega),Lib.nDigits,dif_neg (by omega),Lib.nDigits,dif_neg (by omega),Lib.nDigits,dif_neg (by omega),Lib.nDigits,dif_neg (by omega),Lib.nDigits,dif_neg (by omega),Lib.nDigits,dif_neg (by omega),Lib.nDigits,dif_pos (by omega)]
theorem qeN {h0 h:AH} {rs:List Rs} {b:Nat} (S:Hs h0 h (.blk b (z8 24) 254 :: rs)) (n:Nat) (hn:n<10 ^ 9):Fn Tryz.prog Xh 236 [.slice (some ⟨b,1,none⟩) 9 23,.int .u64 n] h
 (fun _ h'=>Hs h0 h' (.blk b (.int .u8 0 :: jy (48+n / 100000000) :: jy (48+(n % 100000000 / 10000) / 100 / 10) :: jy (48+(n % 100000000 / 10000) / 100 % 10) :: jy (48+(n % 100000000 / 10000) % 100 / 10) :: jy (48+(n % 100000000 / 10000) % 100 % 10) :: jy (48+(n % 100000000 % 10000) / 100 / 10) :: jy (48+(n % 100000000 % 10000) / 100 % 10) :: jy (48+(n % 100000000 % 10000) % 100 / 10) :: jy (48+(n % 100000000 % 10000) % 100 % 10) :: z8 14) 254 :: rs)):=by
 have hn:n<1000000000:=hn;refine qM (by first|rfl) Tryz.func236 rfl rfl ?_;all_goals (repeat' (first|refine qg ?_|refine qp ?_|(refine qc 0 ?_;refine mv ?_;refine vl ?_;refine mv ?_;refine qf ?_)))
 refine qL (σ:=Bool) (fun c h'=>Hs h0 h' (.blk b (if c then (z8 1 ++ z8 1 ++ [jy (48+(n % 100000000 / 10000) / 100 / 10),jy (48+(n % 100000000 / 10000) / 100 % 10),jy (48+(n % 100000000 / 10000) % 100 / 10),jy (48+(n % 100000000 / 10000) % 100 % 10),jy (48+(n % 100000000 % 10000) / 100 / 10),jy (48+(n % 100000000 % 10000) / 100 % 10),jy (48+(n % 100000000 % 10000) % 100 / 10),jy (48+(n % 100000000 % 10000) % 100 % 10)] ++ z8 14) else z8 24) 254 :: rs)) (fun c=>if c then 0 else 1) (fun c=>[(0,.slice (some ⟨b,1,none⟩) 9 23),(1,.int .u64 (if c then (n:Int) / 100000000 else n)),(4,.int .i64 (if c then 1 else 9))]) false qy ?_ ?_
 ·exact S
 clear S;rintro c h S;cases c
 ·replace S:Hs h0 h (.blk b (z8 24) 254 :: rs):=S;simp only [if_false,zD9,if_true];all_goals (repeat' (first|refine qg ?_|refine qi rfl ?_|refine qj ?_|refine qp ?_|(refine qc 1 ?_;refine mv ?_;(refine cT ?_)<;>(refine qf ?_))))
  (repeat (refine qg ?_));refine qc 2 ?_;refine mv ?_;refine qfH ?_;refine kw ?_;refine mv ?_;refine qf ?_;(repeat (refine qg ?_));refine qc 3 ?_;refine mv ?_;refine qfJ ?_;refine mv ?_;refine qf ?_;all_goals (repeat' (first|refine qg ?_|(refine qc 4 ?_;refine mv ?_;refine JW ?_;refine mv ?_;refine JU ?_;refine mv ?_;refine mv ?_;refine qf ?_)|(refine qc 5 ?_;refine mv ?_;refine JW ?_;refine Jj ?_;refine mv ?_;refine JU ?_;refine Jj ?_;refine mv ?_;refine mv ?_;refine qf ?_)|(refine qc 6 ?_;refine mv ?_;refine JW ?_;refine Jj ?_;refine mv ?_;refine JU ?_;refine Jj ?_;refine mv ?_;refine mv ?_;refine qf ?_)))
  (repeat (refine qg ?_))
  refine zi 7 ?_;refine mv ?_;refine mv ?_;refine sb ?_;refine mv ?_;refine mv ?_;refine sb ?_;refine mv ?_;refine Zm ?_;refine vS ((n % 100000000 % 10000) % 100) ?_;refine mv ?_;refine vT ((n % 100000000 % 10000) % 100) ?_;refine vl ?_;(refine sB S rfl rfl ?_;clear S;intro h S);refine vl ?_;(refine sB S rfl rfl ?_;clear S;intro h S);refine qf ?_;(repeat (refine qg ?_));refine zi 8 ?_;refine mv ?_;refine mv ?_;refine sb ?_;refine mv ?_;refine mv ?_;refine sb ?_;refine mv ?_;refine Zm ?_;refine vS ((n % 100000000 % 10000) / 100) ?_;refine mv ?_;refine vT ((n % 100000000 % 10000) / 100) ?_;refine vl ?_;(refine sB S rfl rfl ?_;clear S;intro h S);refine vl ?_;(refine sB S rfl rfl ?_;clear S;intro h S);refine qf ?_;(repeat (refine qg ?_));refine zi 9 ?_;refine mv ?_;refine mv ?_;refine sb ?_;refine mv ?_;refine mv ?_;refine sb ?_;refine mv ?_;refine Zm ?_;refine vS ((n % 100000000 / 10000) % 100) ?_;refine mv ?_;refine vT ((n % 100000000 / 10000) % 100) ?_;refine vl ?_;(refine sB S rfl rfl ?_;clear S;intro h S);refine vl ?_;(refine sB S rfl rfl ?_;clear S;intro h S);refine qf ?_;(repeat (refine qg ?_));refine zi 10 ?_;refine mv ?_;refine mv ?_;refine sb ?_;refine mv ?_;refine mv ?_;refine sb ?_;refine mv ?_;refine Zm ?_;refine vS ((n % 100000000 / 10000) / 100) ?_;refine mv ?_;refine vT ((n % 100000000 / 10000) / 100) ?_;refine vl ?_;(refine sB S rfl rfl ?_;clear S;intro h S);refine vl ?_;(refine sB S rfl rfl ?_;clear S;intro h S);refine qf ?_;all_goals (repeat' (first|(refine qc 11 ?_;refine mv ?_;refine sb ?_;refine mv ?_;refine qf ?_)))
  refine ⟨true,?_,?_,qy⟩
  ·exact Nat.zero_lt_one
  ·exact S
 replace S:Hs h0 h (.blk b (z8 1 ++ z8 1 ++ [jy (48+(n % 100000000 / 10000) / 100 / 10),jy (48+(n % 100000000 / 10000) / 100 % 10),jy (48+(n % 100000000 / 10000) % 100 / 10),jy (48+(n % 100000000 / 10000) % 100 % 10),jy (48+(n % 100000000 % 10000) / 100 / 10),jy (48+(n % 100000000 % 10000) / 100 % 10),jy (48+(n % 100000000 % 10000) % 100 / 10),jy (48+(n % 100000000 % 10000) % 100 % 10)] ++ z8 14) 254 :: rs):=S;simp only [if_true];all_goals (repeat' (first|refine qg ?_|refine qi rfl ?_|refine qj ?_|refine qA ?_|(refine qc 1 ?_;refine mv ?_;(refine cF ?_)<;>(refine qf ?_))|(refine qc 12 ?_;refine mv ?_;refine kw ?_;refine mv ?_;refine qf ?_)|(refine qc 13 ?_;refine mv ?_;(refine cF ?_)<;>(refine qf ?_))|(refine qc 20 ?_;refine mv ?_;(refine cF ?_)<;>(refine qf ?_))|(refine qc 25 ?_;refine mv ?_;(refine cT ?_)<;>(refine qf ?_))|(refine qc 26 ?_;refine mv ?_;refine mv ?_;refine Zm ?_;refine cU ?_;refine vl ?_;(first|(refine sB S rfl rfl ?_;clear S;intro h S));refine qf ?_)))
 refine ⟨_,rfl,?_⟩;exact S
theorem qf1 {n:Nat} (h:100000000≤n∧n<1000000000):[48+n / 100000000,48+(n % 100000000 / 10000) / 100 / 10,48+(n % 100000000 / 10000) / 100 % 10,48+(n % 100000000 / 10000) % 100 / 10,48+(n % 100000000 / 10000) % 100 % 10,48+(n % 100000000 % 10000) / 100 / 10,48+(n % 100000000 % 10000) / 100 % 10,48+(n % 100000000 % 10000) % 100 / 10,48+(n % 100000000 % 10000) % 100 % 10].map UInt8.ofNat=QV n:=by
 rw [jk (show ¬ n<10 by omega)];rw [jk (show ¬ n / 10<10 by omega)];rw [jk (show ¬ n / 10 / 10<10 by omega)];rw [jk (show ¬ n / 10 / 10 / 10<10 by omega)];rw [jk (show ¬ n / 10 / 10 / 10 / 10<10 by omega)];rw [jk (show ¬ n / 10 / 10 / 10 / 10 / 10<10 by omega)];rw [jk (show ¬ n / 10 / 10 / 10 / 10 / 10 / 10<10 by omega)];rw [jk (show ¬ n / 10 / 10 / 10 / 10 / 10 / 10 / 10<10 by omega)];rw [XR (show n / 10 / 10 / 10 / 10 / 10 / 10 / 10 / 10<10 by omega)];rw [show 48+n / 100000000=48+n / 10 / 10 / 10 / 10 / 10 / 10 / 10 / 10 by omega];rw [show 48+(n % 100000000 / 10000) / 100 / 10=48+n / 10 / 10 / 10 / 10 / 10 / 10 / 10 % 10 by omega];rw [show 48+(n % 100000000 / 10000) / 100 % 10=48+n / 10 / 10 / 10 / 10 / 10 / 10 % 10 by omega];rw [show 48+(n % 100000000 / 10000) % 100 / 10=48+n / 10 / 10 / 10 / 10 / 10 % 10 by omega];rw [show 48+(n % 100000000 / 10000) % 100 % 10=48+n / 10 / 10 / 10 / 10 % 10 by omega];rw [show 48+(n % 100000000 % 10000) / 100 / 10=48+n / 10 / 10 / 10 % 10 by omega];rw [show 48+(n % 100000000 % 10000) / 100 % 10=48+n / 10 / 10 % 10 by omega];rw [show 48+(n % 100000000 % 10000) % 100 / 10=48+n / 10 % 10 by omega];rw [show 48+(n % 100000000 % 10000) % 100 % 10=48+n % 10 by omega];rfl
theorem qgI {n:Nat} (h:100000000≤n∧n<1000000000):Lib.nDigits n=9:=by
 rw [Lib.nDigits,dif_neg (by omega),Lib.nDigits,dif_neg (by omega),Lib.nDigits,dif_neg (by omega),Lib.nDigits,dif_neg (by omega),Lib.nDigits,dif_neg (by omega),Lib.nDigits,dif_neg (by omega),Lib.nDigits,dif_neg (by omega),Lib.nDigits,dif_neg (by omega),Lib.nDigits,dif_pos (by omega)]
theorem qdO {h0:AH} (w:WfH h0) (hf:Flag.b=true) (n:Nat) (hn:n<1000000000):Fn Tryz.prog Xh 177 [.int .i64 n,.int .i64 10] h0 (fun v h'=>v=str (QV n)∧Hs h0 h' []):=by
 have S:=Hs.start w;refine qM (by first|rfl) Tryz.func177 rfl rfl ?_;all_goals (repeat' (first|refine qg ?_|refine qi rfl ?_|refine qj ?_|(refine qc 0 ?_;refine mv ?_;refine qf ?_)|(refine qc 1 ?_;refine mv ?_;(refine cT ?_)<;>(refine qf ?_))|(refine qc 2 ?_;refine mv ?_;(refine cT ?_)<;>(refine mv ?_;refine mv ?_;(first|(first|(refine cS ?_ ?_<;>intro hc)))<;>(refine vl ?_;refine qf ?_)))|(refine qc 4 ?_;(refine al S ?_;clear S;intro b h S);refine qf ?_)|(refine qc 5 ?_;refine mv ?_;refine cW ?_;refine mv ?_;refine qf ?_)|(refine qc 6 ?_;refine mv ?_;(refine cF ?_)<;>(refine qf ?_))))
 ·all_goals (repeat' (first|(refine qc 3 ?_;refine mv ?_)))
  (refine qx rfl rfl rfl rfl rfl ((qbE S.wf n (by omega)).mono ?_);rintro _ h ⟨rfl,x⟩)<;>(replace S:=S.join0 x;clear x;refine mv ?_;refine qf ?_)
  all_goals (repeat' (fail))
  refine qw ⟨_,rfl,?_⟩;exact ⟨rfl,S⟩
 ·skip
  all_goals (repeat' (fail))
  obtain ⟨bb,hnm⟩:∃ x,x=b:=⟨_,rfl⟩;subst hnm;all_goals (repeat' (first|(refine qc 8 ?_;refine mv ?_)))
  (refine qx rfl rfl rfl rfl rfl ((qdw hf n (by omega)).mono ?_);rintro _ h2 ⟨rfl,rfl⟩)<;>(refine mv ?_;refine qf ?_)
  rcases (show n<1000∨(1000≤n∧n<10000)∨(10000≤n∧n<100000)∨(100000≤n∧n<1000000)∨(1000000≤n∧n<10000000)∨(10000000≤n∧n<100000000)∨(100000000≤n∧n<1000000000) by omega) with q|q|q|q|q|q|q
  ·rw [qgO (by omega)];(repeat (refine qg ?_));refine qc 9 ?_;refine mv ?_;refine ad ?_;refine P6 (l:=1) (r:=4) (m:=24) S.gB ?_;refine mv ?_;(refine qx rfl rfl rfl rfl rfl ((qeT S n (by omega)).mono ?_);rintro _ h S2)<;>(replace S:=S2;clear S2;refine qf ?_)
   all_goals (repeat' (first|refine qg ?_|refine qi rfl ?_|refine qj ?_|(refine qc 10 ?_;refine mv ?_;(refine cF ?_)<;>(refine qf ?_))))
   (repeat (refine qg ?_));refine qc 13 ?_;refine mv ?_;refine ad ?_;refine P6 (l:=1) (r:=4) (m:=24) S.gB ?_;have r:zo h (.slice (some ⟨bb,1,none⟩) 3 23) 1 eU [48+(n / 100),48+n % 100 / 10,48+n % 100 % 10]:=.inr ⟨bb,1,23,_,_,none,false,rfl,S.gB,rfl⟩;refine bS r ?_;rw [qf7 (by omega)];refine mv ?_;refine qf ?_;all_goals (repeat' (fail))
   refine qw ⟨_,rfl,?_⟩;exact ⟨rfl,S.drop⟩
  ·rw [qgN (by omega)];(repeat (refine qg ?_));refine qc 9 ?_;refine mv ?_;refine ad ?_;refine P6 (l:=1) (r:=5) (m:=24) S.gB ?_;refine mv ?_;(refine qx rfl rfl rfl rfl rfl ((qeS S n (by omega)).mono ?_);rintro _ h S2)<;>(replace S:=S2;clear S2;refine qf ?_)
   all_goals (repeat' (first|refine qg ?_|refine qi rfl ?_|refine qj ?_|(refine qc 10 ?_;refine mv ?_;(refine cF ?_)<;>(refine qf ?_))))
   (repeat (refine qg ?_));refine qc 13 ?_;refine mv ?_;refine ad ?_;refine P6 (l:=1) (r:=5) (m:=24) S.gB ?_;have r:zo h (.slice (some ⟨bb,1,none⟩) 4 23) 1 eU [48+(n % 10000) / 100 / 10,48+(n % 10000) / 100 % 10,48+(n % 10000) % 100 / 10,48+(n % 10000) % 100 % 10]:=.inr ⟨bb,1,23,_,_,none,false,rfl,S.gB,rfl⟩;refine bS r ?_;rw [qf6 (by omega)];refine mv ?_;refine qf ?_;all_goals (repeat' (fail))
   refine qw ⟨_,rfl,?_⟩;exact ⟨rfl,S.drop⟩
  ·rw [qgM (by omega)];(repeat (refine qg ?_));refine qc 9 ?_;refine mv ?_;refine ad ?_;refine P6 (l:=1) (r:=6) (m:=24) S.gB ?_;refine mv ?_;(refine qx rfl rfl rfl rfl rfl ((qeR S n (by omega)).mono ?_);rintro _ h S2)<;>(replace S:=S2;clear S2;refine qf ?_)
   all_goals (repeat' (first|refine qg ?_|refine qi rfl ?_|refine qj ?_|(refine qc 10 ?_;refine mv ?_;(refine cF ?_)<;>(refine qf ?_))))
   (repeat (refine qg ?_));refine qc 13 ?_;refine mv ?_;refine ad ?_;refine P6 (l:=1) (r:=6) (m:=24) S.gB ?_;have r:zo h (.slice (some ⟨bb,1,none⟩) 5 23) 1 eU [48+(n / 10000),48+(n % 10000) / 100 / 10,48+(n % 10000) / 100 % 10,48+(n % 10000) % 100 / 10,48+(n % 10000) % 100 % 10]:=.inr ⟨bb,1,23,_,_,none,false,rfl,S.gB,rfl⟩;refine bS r ?_;rw [qf5 (by omega)];refine mv ?_;refine qf ?_;all_goals (repeat' (fail))
   refine qw ⟨_,rfl,?_⟩;exact ⟨rfl,S.drop⟩
  ·rw [qgL (by omega)];(repeat (refine qg ?_));refine qc 9 ?_;refine mv ?_;refine ad ?_;refine P6 (l:=1) (r:=7) (m:=24) S.gB ?_;refine mv ?_;(refine qx rfl rfl rfl rfl rfl ((qeQ S n (by omega)).mono ?_);rintro _ h S2)<;>(replace S:=S2;clear S2;refine qf ?_)
   all_goals (repeat' (first|refine qg ?_|refine qi rfl ?_|refine qj ?_|(refine qc 10 ?_;refine mv ?_;(refine cF ?_)<;>(refine qf ?_))))
   (repeat (refine qg ?_));refine qc 13 ?_;refine mv ?_;refine ad ?_;refine P6 (l:=1) (r:=7) (m:=24) S.gB ?_;have r:zo h (.slice (some ⟨bb,1,none⟩) 6 23) 1 eU [48+(n / 10000) % 100 / 10,48+(n / 10000) % 100 % 10,48+(n % 10000) / 100 / 10,48+(n % 10000) / 100 % 10,48+(n % 10000) % 100 / 10,48+(n % 10000) % 100 % 10]:=.inr ⟨bb,1,23,_,_,none,false,rfl,S.gB,rfl⟩;refine bS r ?_;rw [qf4 (by omega)];refine mv ?_;refine qf ?_;all_goals (repeat' (fail))
   refine qw ⟨_,rfl,?_⟩;exact ⟨rfl,S.drop⟩
  ·rw [qgK (by omega)];(repeat (refine qg ?_));refine qc 9 ?_;refine mv ?_;refine ad ?_;refine P6 (l:=1) (r:=8) (m:=24) S.gB ?_;refine mv ?_;(refine qx rfl rfl rfl rfl rfl ((qeP S n (by omega)).mono ?_);rintro _ h S2)<;>(replace S:=S2;clear S2;refine qf ?_)
   all_goals (repeat' (first|refine qg ?_|refine qi rfl ?_|refine qj ?_|(refine qc 10 ?_;refine mv ?_;(refine cF ?_)<;>(refine qf ?_))))
   (repeat (refine qg ?_));refine qc 13 ?_;refine mv ?_;refine ad ?_;refine P6 (l:=1) (r:=8) (m:=24) S.gB ?_;have r:zo h (.slice (some ⟨bb,1,none⟩) 7 23) 1 eU [48+((n / 10000) / 100),48+(n / 10000) % 100 / 10,48+(n / 10000) % 100 % 10,48+(n % 10000) / 100 / 10,48+(n % 10000) / 100 % 10,48+(n % 10000) % 100 / 10,48+(n % 10000) % 100 % 10]:=.inr ⟨bb,1,23,_,_,none,false,rfl,S.gB,rfl⟩;refine bS r ?_;rw [qf3 (by omega)];refine mv ?_;refine qf ?_;all_goals (repeat' (fail))
   refine qw ⟨_,rfl,?_⟩;exact ⟨rfl,S.drop⟩
  ·rw [qgJ (by omega)];(repeat (refine qg ?_));refine qc 9 ?_;refine mv ?_;refine ad ?_;refine P6 (l:=1) (r:=9) (m:=24) S.gB ?_;refine mv ?_;(refine qx rfl rfl rfl rfl rfl ((qeO S n (by omega)).mono ?_);rintro _ h S2)<;>(replace S:=S2;clear S2;refine qf ?_)
   all_goals (repeat' (first|refine qg ?_|refine qi rfl ?_|refine qj ?_|(refine qc 10 ?_;refine mv ?_;(refine cF ?_)<;>(refine qf ?_))))
   (repeat (refine qg ?_));refine qc 13 ?_;refine mv ?_;refine ad ?_;refine P6 (l:=1) (r:=9) (m:=24) S.gB ?_;have r:zo h (.slice (some ⟨bb,1,none⟩) 8 23) 1 eU [48+(n % 100000000 / 10000) / 100 / 10,48+(n % 100000000 / 10000) / 100 % 10,48+(n % 100000000 / 10000) % 100 / 10,48+(n % 100000000 / 10000) % 100 % 10,48+(n % 100000000 % 10000) / 100 / 10,48+(n % 100000000 % 10000) / 100 % 10,48+(n % 100000000 % 10000) % 100 / 10,48+(n % 100000000 % 10000) % 100 % 10]:=.inr ⟨bb,1,23,_,_,none,false,rfl,S.gB,rfl⟩;refine bS r ?_;rw [qf2 (by omega)];refine mv ?_;refine qf ?_;all_goals (repeat' (fail))
   refine qw ⟨_,rfl,?_⟩;exact ⟨rfl,S.drop⟩
  ·rw [qgI (by omega)];(repeat (refine qg ?_));refine qc 9 ?_;refine mv ?_;refine ad ?_;refine P6 (l:=1) (r:=10) (m:=24) S.gB ?_;refine mv ?_;(refine qx rfl rfl rfl rfl rfl ((qeN S n (by omega)).mono ?_);rintro _ h S2)<;>(replace S:=S2;clear S2;refine qf ?_)
   all_goals (repeat' (first|refine qg ?_|refine qi rfl ?_|refine qj ?_|(refine qc 10 ?_;refine mv ?_;(refine cF ?_)<;>(refine qf ?_))))
   (repeat (refine qg ?_));refine qc 13 ?_;refine mv ?_;refine ad ?_;refine P6 (l:=1) (r:=10) (m:=24) S.gB ?_;have r:zo h (.slice (some ⟨bb,1,none⟩) 9 23) 1 eU [48+n / 100000000,48+(n % 100000000 / 10000) / 100 / 10,48+(n % 100000000 / 10000) / 100 % 10,48+(n % 100000000 / 10000) % 100 / 10,48+(n % 100000000 / 10000) % 100 % 10,48+(n % 100000000 % 10000) / 100 / 10,48+(n % 100000000 % 10000) / 100 % 10,48+(n % 100000000 % 10000) % 100 / 10,48+(n % 100000000 % 10000) % 100 % 10]:=.inr ⟨bb,1,23,_,_,none,false,rfl,S.gB,rfl⟩;refine bS r ?_;rw [qf1 (by omega)];refine mv ?_;refine qf ?_;all_goals (repeat' (fail))
   refine qw ⟨_,rfl,?_⟩;exact ⟨rfl,S.drop⟩
theorem qdE {h0:AH} (w:WfH h0) (hf:Flag.b=true) (n:Nat) (hn:n<1000000000):Fn Tryz.prog Xh 60 [.int .i64 n] h0 (fun v h'=>v=str (QV n)∧Hs h0 h' []):=by
 have S:=Hs.start w;have two:∀ {h1:AH} (w:WfH h1),Fn Tryz.prog Xh 118 [.int .i64 n] h1 (fun v h'=>v=str (QV n)∧Hs h1 h' []):=fun {h1} w=>by
  have S:=Hs.start w;refine qM (by first|rfl) Tryz.func118 rfl rfl ?_;all_goals (repeat' (first|refine qg ?_|(refine qc 0 ?_;refine mv ?_;refine qf ?_)|(refine qc 1 ?_;refine mv ?_)))
  (refine qx rfl rfl rfl rfl rfl ((qdO S.wf hf n hn).mono ?_);rintro _ h ⟨rfl,x⟩)<;>(replace S:=S.join0 x;clear x;refine mv ?_;refine qf ?_)
  all_goals (repeat' (fail))
  refine qw ⟨_,rfl,?_⟩;exact ⟨rfl,S⟩
 refine qM (by first|rfl) Tryz.func60 rfl rfl ?_;all_goals (repeat' (first|refine qg ?_|(refine qc 0 ?_;refine mv ?_;refine qf ?_)|(refine qc 1 ?_;refine mv ?_)))
 (refine qx rfl rfl rfl rfl rfl ((two S.wf).mono ?_);rintro _ h ⟨rfl,x⟩)<;>(replace S:=S.join0 x;clear x;refine mv ?_;refine qf ?_)
 all_goals (repeat' (fail))
 refine qw ⟨_,rfl,?_⟩;exact ⟨rfl,S⟩
end Go.Proofs.Xx
namespace Go.Proofs.Xx
open Go Go.Proofs
abbrev Qz (xs:List Tr_):List Trp:=xs.map fun x=>x.trp
theorem qcm {ws:List (List UInt8)} (h:ws≠[]) (w:List UInt8):J6 (ws ++ [w])=J6 ws ++ [32] ++ w:=by
 match ws,h with
 | a :: r,_=>rw [zC6,WZ,WZ,qbp];simp
def yx (l:List Tab) (x:Trp) (j:Nat):List UInt8:=J6 (Ws :: QV x.pl.toNat :: QV x.st.toNat :: (x.ta.take j).map (jd l))
theorem qfX {l:List Tab} {x:Trp}:yx l x 0=Ws ++ [32] ++ QV x.pl.toNat ++ [32] ++ QV x.st.toNat:=by
 unfold yx;rw [List.take_zero,List.map_nil];simp [J6]
theorem qfW {l:List Tab} {x:Trp} {j:Nat} (hj:j<x.ta.length):yx l x (j+1)=yx l x j ++ ([32] ++ jd l (x.ta.getD j default)):=by
 unfold yx;rw [zS hj,zC9,List.map_cons,List.map_nil];have:=qcm (ws:=Ws :: QV x.pl.toNat :: QV x.st.toNat :: (x.ta.take j).map (jd l)) (by simp) (jd l (x.ta.getD j default));rw [zC6,zC6,zC6] at this;rw [this,zF2]
theorem qdB {l:List Tab} {x:Trp}:yx l x x.ta.length=J6 (JJ l x):=by unfold yx JJ;rw [zF8 (zA3 _)]
def OkJ (l:List Tab) (x:Trp) (j:Nat):Prop:=x.ta≠[]∧(0≤x.pl∧x.pl≤999999999)∧(0≤x.st∧x.st≤999999999)∧∀ t∈x.ta.take j,0≤t∧t<l.length
theorem qcj {l:List Tab} (hv:ValidL l) {x:Trp} {j:Nat} (h:OkJ l x j) (hj:j≤12):(yx l x j).length≤195:=by
 obtain ⟨h1,h2,h3,h4⟩:=h;have hw:∀ w∈(Ws :: QV x.pl.toNat :: QV x.st.toNat :: (x.ta.take j).map (jd l)),w.length≤12:=fun w hw=>by
  rcases zE8.1 hw with rfl|hw
  ·decide
  rcases zE8.1 hw with rfl|hw
  ·have:=Ve 8 x.pl.toNat (by omega);omega
  rcases zE8.1 hw with rfl|hw
  ·have:=Ve 8 x.st.toNat (by omega);omega
  ·obtain ⟨t,ht,rfl⟩:=zF1.1 hw;have:=h4 t ht;have hn:=hv.nm (i:=t.toNat) (by omega);exact hn.2.1
 have:=qen hw;unfold yx;have hl:((x.ta.take j).map (jd l)).length≤12:=by rw [zC5,zA9];omega
 simp only [zC4] at this;omega
def Zi (l:List Tab) (xs:List Trp) (i:Nat):List UInt8:=txt ((xs.take i).map fun x=>J6 (JJ l x))
theorem wL {l:List Tab} {xs:List Trp} {i:Nat} (hi:i<xs.length):Zi l xs (i+1)=Zi l xs i ++ yx l (xs.getD i default) (xs.getD i default).ta.length ++ [10]:=by
 unfold Zi;rw [zS hi,zC9,PT,qdB];simp [txt]
theorem qae {l:List Tab} (hv:ValidL l) {xs:List Trp} (hx:∀ i,i<xs.length→(xs.getD i default).ta.length≤12) {i:Nat} (hi:i≤xs.length) (hok:∀ j,j<i→GI l (xs.getD j default)):(Zi l xs i).length≤196*i:=by
 induction i with
 | zero=>simp [Zi,txt]
 | succ i ih =>
  have h1:=ih (by omega) fun j hj=>hok j (by omega);have h2:=qcj hv (x:=xs.getD i default) (j:=(xs.getD i default).ta.length) ⟨(hok i (by omega)).1,(hok i (by omega)).2.1,(hok i (by omega)).2.2.1,fun t ht=>(hok i (by omega)).2.2.2 t (List.mem_of_mem_take ht)⟩ (hx i (by omega));rw [wL (by omega)];simp only [zB2,zD5];omega
theorem qeM {l:List Tab} {xs:List Trp} {i:Nat} (hi:i<xs.length) (h:¬ GI l (xs.getD i default)):Zl l xs=[]:=by
 unfold Zl;rw [if_neg (fun q=>h (q _ (qJ hi)))]
theorem wW {l:List Tab} {xs:List Trp} (h:∀ j,j<xs.length→GI l (xs.getD j default)):Zl l xs=Zi l xs xs.length:=by
 unfold Zl Zi;rw [if_pos (fun x hx=>by
  obtain ⟨j,hj,rfl⟩:=qI.1 hx;exact h j hj),zF8 (zA3 _)]
variable [Flag]
theorem qcK {h0 h:AH} {rs:List Rs} {bb:Nat} {q:Value} (S:Hs h0 h (bst bb q (.slice none 0 0) :: rs)):Fn Tryz.prog Xh 61 [.pointer (some ⟨bb,0,none⟩)] h (fun r h'=>r=str []∧Hs h0 h' (bst bb q (.slice none 0 0) :: rs)):=by
 refine qM (by first|rfl) Tryz.func61 rfl rfl ?_;all_goals (repeat' (first|refine qg ?_|(refine qc 0 ?_;refine mv ?_;refine qf ?_)))
 refine zi 1 ?_;refine mv ?_;refine vl ?_;refine vl ?_;refine lB S rfl rfl ?_;refine vl ?_;refine mv ?_;refine vl ?_;refine vl ?_;refine lB S rfl rfl ?_;refine vl ?_;refine vl ?_;refine mv ?_;refine qf ?_;all_goals (repeat' (fail))
 refine qw ⟨_,rfl,?_⟩;exact ⟨rfl,S⟩
theorem Wq {h:AH} (n:Int):Fn Tryz.prog Xh 58 [.int .i64 n] h (fun v h'=>zy v (0≤n∧n≤999999999)∧h'=h):=by
 refine qM (by first|rfl) Tryz.func58 rfl rfl ?_;all_goals (repeat' (first|refine qg ?_|(refine qc 0 ?_;refine mv ?_;refine qf ?_)|(refine qc 1 ?_;refine mv ?_;(first|(refine cS ?_ ?_<;>intro hc))<;>(refine mv ?_;(first|refine off ?_|refine mv ?_);(first|refine off ?_|(first|(refine cS ?_ ?_<;>intro hc)))<;>(refine vl ?_;refine mv ?_;refine qf ?_)))))
 all_goals (refine qw ⟨_,rfl,?_⟩)
 all_goals (refine ⟨?_,rfl⟩;unfold zy)
 all_goals first|exact .inl ⟨rfl,by omega⟩|exact .inr ⟨rfl,by omega⟩
theorem KL {h0:AH} (w:WfH h0) (hf:Flag.b=true) (z:Int) (hz:0≤z∧z≤999999999):Fn Tryz.prog Xh 60 [.int .i64 z] h0 (fun v h'=>v=str (QV z.toNat)∧Hs h0 h' []):=by
 obtain ⟨n,rfl⟩:=zH4 hz.1;exact qdE w hf n (by omega)
theorem VD {h0:AH} (w:WfH h0) (hf:Flag.b=true) (pv:PbV) (p:Pb) (H:PbOk h0 pv p) (vx:Value) (xs:List Tr_) (rx:zo h0 vx 3 JC xs) (rr:∀ i,i<xs.length→zo h0 (xs.getD i default).tv.val 1 eI (xs.getD i default).ta) (hx:xs.length≤1000000) (ht:∀ i,i<xs.length→(xs.getD i default).ta.length≤1000000)
 (hbd:ValidL p.tabs→∀ i,i≤xs.length→(∀ j,j<i→GI p.tabs ((Qz xs).getD j default))→(Zi p.tabs (Qz xs) i).length≤500000)
 (hbl:ValidL p.tabs→∀ i j,i<xs.length→j≤(xs.getD i default).ta.length→OkJ p.tabs (xs.getD i default).trp j→(yx p.tabs (xs.getD i default).trp j).length≤400000) :
 Fn Tryz.prog Xh 16 [pv.val,vx] h0 (fun u h'=>∃ t,u=str t∧(PO p→t=Zl p.tabs (Qz xs))∧(¬ PO p→t=[])∧Hs h0 h' []):=by
 have S:=Hs.start w;have hr:=H.tab.rd;have hl:=H.tab.len;unfold PbV.val;refine qM (by first|rfl) Tryz.func16 rfl rfl ?_;all_goals (repeat' (first|refine qg ?_|(refine qc 0 ?_;(refine bx S ?_;clear S;intro b h S);refine mv ?_;refine qf ?_)|(refine qc 1 ?_;refine lB S rfl rfl ?_)))
 obtain ⟨b2,hnm⟩:∃ x,x=b:=⟨_,rfl⟩;subst hnm;(refine qx rfl rfl rfl rfl rfl ((XL S.wf pv p (H.ext w S.ext)).mono ?_);rintro _ h ⟨i,e,rfl,hk,x⟩)<;>(replace S:=S.join0 x;clear x;refine mv ?_;refine vl ?_;refine vl ?_;refine mv ?_;refine mv ?_;refine qf ?_)
 have hpo:=hk.po;all_goals (repeat' (first|refine qg ?_|refine qi rfl ?_|refine qj ?_|(refine qc 2 ?_;refine mv ?_;(first|(refine cS ?_ ?_<;>intro hc))<;>(refine qf ?_))|(refine qc 3 ?_;refine mv ?_;refine qf ?_)))
 ·refine qw ⟨_,rfl,?_⟩;exact ⟨[],rfl,fun q=>absurd (hpo.2 q) (by assumption),fun _=>rfl,S.drop⟩
 have hP:PO p:=hpo.1 (by omega);have hv:=hP.tabs;have hmg:∀ i,i<xs.length→(Qz xs).getD i default=(xs.getD i default).trp:=fun i hi=>zu (f:=fun x:Tr_=>x.trp) hi;have hml:(Qz xs).length=xs.length:=by simp
 all_goals (repeat' (first|refine qg ?_|(refine qc 4 ?_;(refine al S ?_;clear S;intro b h S);refine qf ?_)))
 obtain ⟨b7,hnm⟩:∃ x,x=b:=⟨_,rfl⟩;subst hnm;replace S:Hs h0 h [bst b7 (.pointer none) (.slice none 0 0),.blk b2 pv.cs 28]:=S;have S:Hs h0 h [bsl (.slice none 0 0) [],bst b7 (.pointer none) (.slice none 0 0),.blk b2 pv.cs 28]:=S.nilS;have S:=(show Hs h0 h [bst b7 (.pointer none) (.slice none 0 0),bsl (.slice none 0 0) [],.blk b2 pv.cs 28] from S.pick)
 all_goals (repeat' (first|refine qp ?_|(refine qc 5 ?_;refine mv ?_;refine jZ S ?_;refine mv ?_;refine qf ?_)))
 refine qL (σ:=Nat×Value×Value) (fun (i,q,v) h'=>Hs h0 h' [bst b7 q v,bsl v (Zi p.tabs (Qz xs) i),.blk b2 pv.cs 28]∧QP b7 q∧i≤xs.length∧(∀ j,j<i→GI p.tabs ((Qz xs).getD j default))∧(i=0→v = .slice none 0 0)) (fun (i,q,v)=>xs.length - i) (fun (i,q,v)=>[(2,.pointer (some ⟨b2,0,none⟩)),(7,.pointer (some ⟨b7,0,none⟩)),(19,vx),(20,.int .i64 xs.length),(21,.int .i64 i)]) (0,.pointer none,.slice none 0 0) qy ?_ ?_
 ·exact ⟨S,.inl rfl,zB0 _,fun j hj=>absurd hj (zB7 _),fun _=>rfl⟩
 clear S;rintro ⟨i,q,v⟩ h ⟨S,g1,g2,g3,g4⟩;have hL:=hbd hv i g2 g3;all_goals (repeat' (first|refine qg ?_|refine qi rfl ?_|refine qj ?_|refine qA ?_|refine qp ?_|(refine qc 6 ?_;(first|(refine cS ?_ ?_<;>intro hc))<;>(refine qf ?_))))
 ·have hi:i<xs.length:=by omega
  have hx0:xs.getD (i:Int).toNat default=xs.getD i default:=rfl;have ex:=hmg i hi;have rxi:=rr i hi;have hti:=ht i hi;have hbli:=fun j=>hbl hv i j hi;have hls:=wL (l:=p.tabs) (xs:=Qz xs) (i:=i) (by omega);rw [ex] at hls;all_goals (repeat' (first|refine qg ?_|(refine qc 7 ?_;refine QE S ?_;refine Qk S ?_;(refine al S ?_;clear S;intro b h S);(first|(refine sB S rfl rfl ?_;clear S;intro h S));refine qf ?_)))
  obtain ⟨b9,hnm⟩:∃ x,x=b:=⟨_,rfl⟩;subst hnm;generalize hxx:xs.getD i default=x0 at *
  replace S:Hs h0 h [.blk b9 (JC x0) 71,bst b7 q v,bsl v (Zi p.tabs (Qz xs) i),.blk b2 pv.cs 28]:=by rw [← hxx];exact S
  have S:=(show Hs h0 h [bst b7 q v,bsl v (Zi p.tabs (Qz xs) i),.blk b9 (JC x0) 71,.blk b2 pv.cs 28] from S.pick)
  have hbad:¬ GI p.tabs x0.trp→∃ t,str []=str t∧(PO p→t=Zl p.tabs (Qz xs))∧(¬ PO p→t=[]):=fun hn=>⟨[],rfl,fun _=>(qeM (l:=p.tabs) (xs:=Qz xs) (i:=i) (by omega) (by rw [ex];exact hn)).symm,fun _=>rfl⟩
  have hbd:¬ GI p.tabs x0.trp→∀ {h':AH},Hs h0 h' []→∃ t,str []=str t∧(PO p→t=Zl p.tabs (Qz xs))∧(¬ PO p→t=[])∧Hs h0 h' []:=fun hn _ x=>by obtain ⟨t,e1,e2,e3⟩:=hbad hn;exact ⟨t,e1,e2,e3,x⟩
  all_goals (repeat' (first|refine qg ?_|refine qi rfl ?_|(refine qc 8 ?_;refine vl ?_;refine lB S rfl rfl ?_;refine jZ S ?_;(first|(refine cS ?_ ?_<;>intro hc))<;>(refine mv ?_;(first|refine off ?_|(refine vl ?_));(first|refine off ?_|(refine lB S rfl rfl ?_));(first|(refine off ?_;refine off ?_;refine vl ?_;refine mv ?_;refine off ?_;refine off ?_;(first|(refine off ?_;refine off ?_;refine vl ?_;refine qf ?_)))|skip)))))
  all_goals (try ((refine qx rfl rfl rfl rfl rfl ((Wq x0.pl).mono ?_);rintro _ _ ⟨⟨rfl,z1⟩|⟨rfl,z1⟩,rfl⟩)<;>((refine vl ?_);refine vl ?_;refine mv ?_;(first|refine off ?_|(refine vl ?_));(first|refine off ?_|(refine lB S rfl rfl ?_));(first|(refine off ?_;refine off ?_;refine vl ?_;refine qf ?_)|skip))))
  all_goals (try ((refine qx rfl rfl rfl rfl rfl ((Wq x0.st).mono ?_);rintro _ _ ⟨⟨rfl,z2⟩|⟨rfl,z2⟩,rfl⟩)<;>((refine vl ?_);refine vl ?_;refine qf ?_)))
  all_goals (all_goals (repeat' (first|refine qg ?_|refine qi rfl ?_|refine qj ?_|(refine qc 9 ?_;refine mv ?_;refine qf ?_))))
  all_goals first
   | (refine qw ⟨_,rfl,?_⟩;exact hbd (fun q=>z1 q.2.1) S.drop)
   | (refine qw ⟨_,rfl,?_⟩;exact hbd (fun q=>z2 q.2.2.1) S.drop)
   | (refine qw ⟨_,rfl,?_⟩;exact hbd (fun q=>q.1 (List.eq_nil_of_length_eq_zero (show x0.ta.length=0 by omega))) S.drop)
   | skip
  have hne:x0.ta≠[]:=fun q=>by
   have:x0.ta.length=0:=by rw [q];rfl
   omega
  have hd1:=Ve 8 x0.pl.toNat (by omega);have hd2:=Ve 8 x0.st.toNat (by omega);(repeat (refine qg ?_));refine jm (id:=10) [(6,(0,1))] [some (b9)] ?_;refine qh ?_;(first|(refine vl ?_<;>refine qf ⟨⟨by (first|exact True.intro),rfl⟩,?_⟩));refine qh ?_;(first|(refine lB S rfl rfl ?_<;>refine qf ⟨⟨by (first|exact True.intro),rfl⟩,?_⟩));((refine qh ?_;first|refine qx rfl rfl rfl rfl rfl ((KL S.wf hf x0.pl z1).mono ?_));rintro _ h ⟨rfl,x⟩)<;>((refine qf ⟨⟨True.intro,?_⟩,?_⟩;(focus ((show keepsX _ _ _ _ _;simp only [keepsX];(repeat' (first|exact True.intro|refine And.intro ?_ ?_));all_goals (intro hw;first|exact x.ext.old _ S.bB)))));replace S:=S.join0 x;clear x;refine qh ?_;(first|(refine tcL ?_<;>refine qf ⟨⟨by (first|exact True.intro),rfl⟩,?_⟩));refine qh ?_;(first|(refine tcL ?_<;>refine qf ⟨⟨by (first|exact True.intro),rfl⟩,?_⟩));refine qh ?_;(first|(refine vl ?_<;>refine qf ⟨⟨by (first|exact True.intro),rfl⟩,?_⟩));refine qh ?_;(first|(refine lB S rfl rfl ?_<;>refine qf ⟨⟨by (first|exact Or.inr rfl),rfl⟩,?_⟩)))
  ((refine qh ?_;first|refine qx rfl rfl rfl rfl rfl ((KL S.wf hf x0.st z2).mono ?_));rintro _ h ⟨rfl,x⟩)<;>((refine qf ⟨⟨True.intro,?_⟩,?_⟩;(focus ((show keepsX _ _ _ _ _;simp only [keepsX];(repeat' (first|exact True.intro|refine And.intro ?_ ?_));all_goals (intro hw;first|exact absurd hw (by decide +kernel))))));replace S:=S.join0 x;clear x;refine qh ?_;(first|(refine tcL ?_<;>refine qf ⟨⟨by (first|exact True.intro),rfl⟩,?_⟩)))
  have hbw:(Zi p.tabs (Qz xs) i).length+([116,114,105,112,32] ++ QV x0.pl.toNat ++ [32] ++ QV x0.st.toNat).length≤1000000:=by
   simp only [zB2,zC4,List.length_nil];omega
  ((refine qh ?_;first|refine qx rfl rfl rfl rfl rfl ((Vh ([116,114,105,112,32] ++ QV x0.pl.toNat ++ [32] ++ QV x0.st.toNat) S g1 hbw).mono ?_));rintro _ h ⟨v',x⟩)<;>((refine qf ⟨⟨True.intro,?_⟩,?_⟩;(focus ((show keepsX _ _ _ _ _;simp only [keepsX];(repeat' (first|exact True.intro|refine And.intro ?_ ?_));all_goals (intro hw;first|exact absurd hw (by decide +kernel))))));replace S:=x;clear x;refine jw ?_)
  have e0:[116,114,105,112,32] ++ QV x0.pl.toNat ++ [32] ++ QV x0.st.toNat=yx p.tabs x0.trp 0:=by rw [qfX];rfl
  rw [e0] at S;replace S:Hs h0 h [bst b7 (.pointer (some ⟨b7,0,none⟩)) v',bsl v' (Zi p.tabs (Qz xs) i ++ yx p.tabs x0.trp 0),.blk b9 (JC x0) 71,.blk b2 pv.cs 28]:=S;all_goals (repeat' (first|refine qg ?_|refine qp ?_|(refine qc 11 ?_;refine vl ?_;refine lB S rfl rfl ?_;refine jZ S ?_;refine mv ?_;refine qf ?_)))
  refine qL (σ:=Nat×Value) (fun (j,v) h'=>Hs h0 h' [bst b7 (.pointer (some ⟨b7,0,none⟩)) v,bsl v (Zi p.tabs (Qz xs) i ++ yx p.tabs x0.trp j),.blk b9 (JC x0) 71,.blk b2 pv.cs 28]∧j≤x0.ta.length∧OkJ p.tabs x0.trp j) (fun (j,v)=>x0.ta.length - j) (fun (j,v)=>[(2,.pointer (some ⟨b2,0,none⟩)),(7,.pointer (some ⟨b7,0,none⟩)),(9,.pointer (some ⟨b9,0,none⟩)),(19,vx),(20,.int .i64 xs.length),(21,.int .i64 i),(52,x0.tv.val),(53,.int .i64 x0.ta.length),(54,.int .i64 j)]) (0,v') qy ?_ ?_
  ·exact ⟨S,zB0 _,hne,z1,z2,fun t ht=>by simp at ht⟩
  clear S;rintro ⟨j,v⟩ h ⟨S,f1,f2⟩;have hll:=hbli j f1 f2;all_goals (repeat' (first|refine qg ?_|refine qi rfl ?_|refine qj ?_|refine qA ?_|refine qp ?_|(refine qc 12 ?_;(first|(refine cS ?_ ?_<;>intro hc))<;>(refine qf ?_))))
  ·have hj:j<x0.ta.length:=by omega
   have hx1:x0.ta.getD (j:Int).toNat default=x0.ta.getD j default:=rfl;have hlp:=qfW (l:=p.tabs) (x:=x0.trp) hj;all_goals (repeat' (first|refine qg ?_|(refine qc 13 ?_;refine QE S ?_;refine Qk S ?_;refine mv ?_;refine qf ?_)))
   rw [hx1];generalize htt:x0.ta.getD j default=t0 at *
   have hbt:¬ (0≤t0∧t0<p.tabs.length)→∃ t,str []=str t∧(PO p→t=Zl p.tabs (Qz xs))∧(¬ PO p→t=[]):=fun hn=>hbad fun q=>hn (q.2.2.2 t0 (by rw [← htt];exact qJ hj));all_goals (repeat' (first|refine qg ?_|refine qi rfl ?_|refine qj ?_|(refine qc 14 ?_;refine mv ?_;(first|(refine cS ?_ ?_<;>intro hc))<;>(refine mv ?_;(first|refine off ?_|refine mv ?_);(first|refine off ?_|(refine vl ?_));(first|refine off ?_|(refine lB S rfl rfl ?_));(first|refine off ?_|(refine jZ S ?_));(first|refine off ?_|(first|(refine cS ?_ ?_<;>intro hc)))<;>(refine vl ?_;refine qf ?_)))|(refine qc 15 ?_;refine mv ?_;refine qf ?_)))
   ·refine qw ⟨_,rfl,?_⟩;obtain ⟨t,e1,e2,e3⟩:=hbt (by omega);exact ⟨t,e1,e2,e3,S.drop⟩
   ·refine qw ⟨_,rfl,?_⟩;obtain ⟨t,e1,e2,e3⟩:=hbt (by omega);exact ⟨t,e1,e2,e3,S.drop⟩
   have htb:0≤t0∧t0<p.tabs.length:=by omega
   have hn12:(p.tabs.getD t0.toNat default).name.length≤12:=(hv.nm (i:=t0.toNat) (by omega)).2.1;all_goals (repeat' (first|(refine qc 16 ?_;refine vl ?_;refine lB S rfl rfl ?_;refine mv ?_;refine QE S ?_;refine fB S ?_;refine Qk S ?_;refine tcL ?_)))
   have hbw:(Zi p.tabs (Qz xs) i ++ yx p.tabs x0.trp j).length+([32] ++ jd p.tabs t0).length≤1000000:=by
    have:(jd p.tabs t0).length≤12:=hn12;simp only [zB2,zC4,List.length_nil];omega
   (refine qx rfl rfl rfl rfl rfl ((Vh ([32] ++ jd p.tabs t0) S (.inr rfl) hbw).mono ?_);rintro _ h ⟨v2,S2⟩)<;>(replace S:=S2;clear S2;refine qf ?_)
   rw [zF2] at S;have hlp2:yx p.tabs x0.trp j ++ ([32] ++ jd p.tabs t0)=yx p.tabs x0.trp (j+1):=by rw [hlp,← htt]
   rw [hlp2] at S;all_goals (repeat' (first|(refine qc 17 ?_;refine ad ?_;refine mv ?_;refine qf ?_)))
   refine ⟨(j+1,v2),?_,?_,qy⟩
   ·show x0.ta.length - (j+1)<x0.ta.length - j;omega
   ·refine ⟨S,by (try dsimp only);omega,hne,z1,z2,fun t ht=>?_⟩;have e:x0.trp.ta.take (j+1)=x0.ta.take j ++ [t0]:=by rw [← htt];exact zS hj
    rw [e] at ht;rcases zB8.1 ht with r|r
    ·exact f2.2.2.2 t r
    ·rw [zB5.1 r];exact htb
  ·obtain rfl:j=x0.ta.length:=by omega
   all_goals (repeat' (first|(refine qc 18 ?_;skip)))
   have hbw:(Zi p.tabs (Qz xs) i ++ yx p.tabs x0.trp x0.ta.length).length+([10]:List UInt8).length≤1000000:=by
    simp only [zB2,zC4,List.length_nil];omega
   (refine qx rfl rfl rfl rfl rfl ((Vh [10] S (.inr rfl) hbw).mono ?_);rintro _ h ⟨v2,S2⟩)<;>(replace S:=S2;clear S2;refine qf ?_)
   rw [← hls] at S;have S:=(show Hs h0 h [bst b7 (.pointer (some ⟨b7,0,none⟩)) v2,bsl v2 (Zi p.tabs (Qz xs) (i+1)),.blk b2 pv.cs 28] from S.pick)
   all_goals (repeat' (first|(refine qc 19 ?_;refine ad ?_;refine mv ?_;refine qf ?_)))
   refine ⟨(i+1,.pointer (some ⟨b7,0,none⟩),v2),?_,?_,qy⟩
   ·show xs.length - (i+1)<xs.length - i;omega
   ·refine ⟨S,.inr rfl,by (try dsimp only);omega,Zf g3 ?_,fun q=>by omega⟩;rw [ex];refine ⟨f2.1,f2.2.1,f2.2.2.1,fun t ht=>f2.2.2.2 t ?_⟩;show t∈x0.ta.take x0.ta.length
    rw [zF8 (zA3 _)];exact ht
 ·obtain rfl:i=xs.length:=by omega
  have hall:=wW (l:=p.tabs) (xs:=Qz xs) fun j hj=>g3 j (by omega);rw [hml] at hall;all_goals (repeat' (first|(refine qc 20 ?_;skip)))
  rcases zF4 xs.length with hz|hz
  ·have hv0:=g4 hz;subst hv0;have S:=(show Hs h0 h [bst b7 q (.slice none 0 0),.blk b2 pv.cs 28] from S.pick)
   (refine qx rfl rfl rfl rfl rfl ((qcK S).mono ?_);rintro _ h ⟨rfl,S2⟩)<;>(replace S:=S2;clear S2;refine mv ?_;refine qf ?_)
   all_goals (repeat' (fail))
   refine qw ⟨_,rfl,?_⟩;refine ⟨[],rfl,fun _=>?_,fun q=>absurd hP q,S.drop⟩;rw [hall,hz];simp [Zi,txt]
  ·have hp:0<(Zi p.tabs (Qz xs) xs.length).length:=by
    obtain ⟨k,hk⟩:∃ k,xs.length=k+1:=⟨xs.length - 1,by omega⟩
    rw [hk,wL (by omega)];simp only [zB2,zD5];omega
   (refine qx rfl rfl rfl rfl rfl ((qdY S ⟨hp,by omega⟩).mono ?_);rintro _ h ⟨rfl,S2⟩)<;>(replace S:=S2;clear S2;refine mv ?_;refine qf ?_)
   all_goals (repeat' (fail))
   refine qw ⟨_,rfl,?_⟩;exact ⟨_,rfl,fun _=>hall.symm,fun q=>absurd hP q,S.drop⟩
theorem pO {h0:AH} (w:WfH h0) (hf:Flag.b=true) (pv:PbV) (p:Pb) (H:PbOk h0 pv p) (vx:Value) (xs:List Tr_) (rx:zo h0 vx 3 JC xs) (rr:∀ i,i<xs.length→zo h0 (xs.getD i default).tv.val 1 eI (xs.getD i default).ta) (hx:xs.length≤12) (ht:∀ i,i<xs.length→(xs.getD i default).ta.length≤12) :
 Fn Tryz.prog Xh 16 [pv.val,vx] h0 (fun u h'=>∃ t,u=str t∧(PO p→t=Zl p.tabs (Qz xs))∧(¬ PO p→t=[])∧Hs h0 h' []):=by
 refine VD w hf pv p H vx xs rx rr (by omega) (fun i hi=>by have:=ht i hi;omega) (fun hv i hi g=>?_) fun hv i j hi hj o=>?_
 ·have hmt:∀ i,i<(Qz xs).length→((Qz xs).getD i default).ta.length≤12:=fun i hi=>by
   have hi':i<xs.length:=by simpa using hi
   rw [show (Qz xs).getD i default=(xs.getD i default).trp from zu (f:=fun x:Tr_=>x.trp) hi'];exact ht i hi'
  have:=qae hv hmt (i:=i) (by simpa using hi) g;omega
 ·have:=qcj hv o (by have:=ht i hi;omega);omega
end Go.Proofs.Xx
namespace Go.Proofs.Xx
open Go Go.Proofs
variable [Flag]
end Go.Proofs.Xx
namespace Go.Proofs.Xx
open Go Go.Proofs
variable [Flag]
end Go.Proofs.Xx
namespace Go.Proofs.Xx
open Go Go.Proofs
variable [Flag]
structure TGd (r:Rl) (i:Nat):Prop where
 k:(r.ts.getD i default).k=1∨(r.ts.getD i default).k=2
 lt:Qh (r.ts.getD i default).a (r.ts.getD i default).b
 pl:i=0∨¬ Z7 (r.ts.getD i default) (r.ts.getD (i - 1) default)
theorem TGd.eq {r:Rl} {i:Nat} (g:TGd r i):Yb r i=(ZF ⟨r.us,r.ts.take i⟩ (r.ts.getD i default).a (r.ts.getD i default).b (r.ts.getD i default).k).2:=by
 unfold Yb;rw [if_pos ⟨g.lt,g.pl⟩]
theorem TGd.nk {r:Rl} {i:Nat} (g:TGd r i):¬ (((r.ts.getD i default).k≠1∧(r.ts.getD i default).k≠2)∨(r.ts.getD i default).a=(r.ts.getD i default).b):=by
 rintro (q|q)
 ·have:=g.k;omega
 ·exact qbL g.lt q
theorem TGd.e6 {r:Rl} {i:Nat} (g:TGd r i) (h:gat r.us (r.ts.getD i default).a=none∨gat r.us (r.ts.getD i default).b=none):Yb r i=6:=by
 rw [g.eq,G5 (r:=⟨r.us,r.ts.take i⟩) g.nk h]
theorem TGd.tied {r:Rl} {i:Nat} (g:TGd r i) (hi:i<r.ts.length) (hp:TS (r.ts.take i)):tied (r.ts.take i) (r.ts.getD i default).a (r.ts.getD i default).b↔(0<i∧¬ Z7 (r.ts.getD (i - 1) default) (r.ts.getD i default)):=by
 unfold Xx.tied;rw [V8 g.lt,V9 g.lt];have hl:(r.ts.take i).length=i:=by simp;omega
 constructor
 ·rintro ⟨t,h1,h2,h3⟩;obtain ⟨j,j1,j2⟩:=qI.1 h1;rw [hl] at j1;rw [getD_take j1] at j2;refine ⟨by omega,fun q=>?_⟩;have hb:Z7 t (r.ts.getD i default):=by
   rcases Nat.eq_or_lt_of_le (show j≤i - 1 by omega) with e|e
   ·rw [← j2,e];exact q
   ·have:=hp.lt e (by rw [hl];omega);rw [getD_take j1,getD_take (by omega),j2] at this;exact Za this q
  rcases hb with q|q
  ·rw [h2] at q;exact zG _ q
  ·rw [h3] at q;exact zG _ q.2
 ·rintro ⟨h0,h1⟩;rcases kE (r.ts.getD (i - 1) default) (r.ts.getD i default) with q|q|q
  ·exact absurd q h1
  ·refine ⟨r.ts.getD (i - 1) default,?_,q⟩;have:=qJ (l:=r.ts.take i) (i:=i - 1) (by rw [hl];omega);rwa [getD_take (by omega)] at this
  ·exact absurd q (g.pl.resolve_left (by omega))
theorem TGd.e5 {r:Rl} {i:Nat} (g:TGd r i) (hi:i<r.ts.length) (hp:TS (r.ts.take i)) (h:¬ (gat r.us (r.ts.getD i default).a=none∨gat r.us (r.ts.getD i default).b=none)) (hb:0<i∧¬ Z7 (r.ts.getD (i - 1) default) (r.ts.getD i default)):Yb r i=5:=by
 rw [g.eq,G6 (r:=⟨r.us,r.ts.take i⟩) g.nk h ((g.tied hi hp).2 hb)]
theorem TGd.e7 {r:Rl} {i:Nat} (g:TGd r i) (hi:i<r.ts.length) (hp:TS (r.ts.take i)) (h:¬ (gat r.us (r.ts.getD i default).a=none∨gat r.us (r.ts.getD i default).b=none)) (hb:¬ (0<i∧¬ Z7 (r.ts.getD (i - 1) default) (r.ts.getD i default))) (h7:256≤i):Yb r i=7:=by
 rw [g.eq,GZ (r:=⟨r.us,r.ts.take i⟩) g.nk h (fun q=>hb ((g.tied hi hp).1 q)) (by simp;omega)]
theorem TGd.e0 {r:Rl} {i:Nat} (g:TGd r i) (hi:i<r.ts.length) (hp:TS (r.ts.take i)) (h:¬ (gat r.us (r.ts.getD i default).a=none∨gat r.us (r.ts.getD i default).b=none)) (hb:¬ (0<i∧¬ Z7 (r.ts.getD (i - 1) default) (r.ts.getD i default))) (h7:¬ 256≤i):Yb r i=0:=by
 rw [g.eq,vO (r:=⟨r.us,r.ts.take i⟩) g.nk h (fun q=>hb ((g.tied hi hp).1 q)) (by simp;omega)]
end Go.Proofs.Xx
namespace Go.Proofs.Xx
open Go Go.Proofs
def wdL:List (List UInt8):=[] :: kwL
variable [Flag]
end Go.Proofs.Xx
namespace Go.Proofs.Xx
open Go Go.Proofs
variable [Flag]
structure PbM (v:PbV) (p:Pb):Prop where
 cg:zV v.vg.val
 few:p.us.length≤200∧p.ts.length≤600
 ru:∀ r∈p.ru,0≤r.k∧r.k≤255
end Go.Proofs.Xx
namespace Go.Proofs.Xx
open Go Go.Proofs
variable [Flag]
end Go.Proofs.Xx
namespace Go.Proofs.Xx
open Go Go.Proofs
variable [Flag]
def LastT (l:List Tab) (n:List UInt8) (t:Nat) (a:Int):Prop:=(a = -1∧∀ j,j<t→(tb l j).name≠n)∨∃ m:Nat,a=m∧m<t∧(tb l m).name=n
theorem LastT.s {l:List Tab} {n:List UInt8} {t:Nat} {a:Int} (h:LastT l n t a) (ht:(tb l t).name≠n):LastT l n (t+1) a:=by
 rcases h with ⟨h1,h2⟩|⟨m,h1,h2,h3⟩
 ·exact .inl ⟨h1,Zf h2 ht⟩
 ·exact .inr ⟨m,h1,by omega,h3⟩
theorem LastT.tix {l:List Tab} (hv:ValidL l) {n:List UInt8} {a:Int} (h:LastT l n l.length a) (ha:0≤a):Zp l n∧a=(tix l n:Nat):=by
 rcases h with ⟨h1,h2⟩|⟨m,h1,h2,h3⟩
 ·omega
 ·refine ⟨⟨m,h2,h3⟩,?_⟩;rw [h1,YS h2 h3 fun j hj e=>by have:=hv.uniq (show j<l.length by omega) h2 (e.trans h3.symm);omega]
end Go.Proofs.Xx
namespace Go.Proofs.Xx
open Go Go.Proofs
variable [Flag]
noncomputable def qfz (l:List Tab) (q:List Int) (t:Int):Nat→List Int
 | 0=>[]
 | i+1=>if 0≤q.getD i default∧tOf l (q.getD i default)=t then qfz l q t i ++ [(i:Int)] else qfz l q t i
end Go.Proofs.Xx
namespace Go.Proofs.Xx
open Go Go.Proofs
def qgZ (p:Pb) (ld:Int→Int) (k:Int) (x:Tr_):Prop:=x.ta≠[]∧x.pl=jo ld x.ta∧x.st=tour (ZJ p.tabs) x.ta∧x.pl≤k
def qhg (p:Pb) (ld:Int→Int) (k:Int) (stops:List Int) (ts:List Tr_):Prop:=((ts.map (·.ta)).flatten).Perm stops∧∀ x∈ts,qgZ p ld k x
theorem qdN {ts:List Tr_} {i:Nat} (hi:i<ts.length):(ts.map (·.ta)).flatten=((ts.take i).map (·.ta)).flatten ++ (ts.getD i default).ta ++ ((ts.drop (i+1)).map (·.ta)).flatten:=by
 have e:ts=ts.take i ++ ts.getD i default :: ts.drop (i+1):=by
  rw [zA2,zA4 hi,zH6,← zG7 hi,zH1]
 have e2:=congrArg (fun l:List Tr_=>(l.map (·.ta)).flatten) e;simp only [zC9,List.flatten_append,List.map_cons,List.flatten_cons] at e2;rw [e2,zF2]
theorem WR {h0 h:AH} {rs:List Rs} {ts:List Tr_} (S:Hs h0 h rs) (a:At rs (JG QN ts)) {i:Nat} (hi:i<ts.length):zo h (ts.getD i default).tv.val 1 eI (ts.getD i default).ta:=by
 obtain ⟨fp,k⟩:=S.anyP a;obtain ⟨f2,k2⟩:=Star.get_ (r:=QN (ts.getD i default)) k (zF1.2 ⟨_,qJ hi,rfl⟩);exact qdo k2
theorem qaj {ts:List Tr_} {n:Nat} (h:(ts.map (·.ta)).flatten.length≤n) {i:Nat} (hi:i<ts.length):(ts.getD i default).ta.length≤n:=by
 rw [qdN hi] at h;simp only [zB2] at h;omega
theorem qcw {ts:List Tr_} {n:Nat} (h:(ts.map (·.ta)).flatten.length≤n) (hne:∀ x∈ts,x.ta≠[]):ts.length≤n:=by
 refine zD0 ?_ h;clear h;induction ts with
 | nil=>simp
 | cons x ts ih =>
  have:=ih fun y hy=>hne y (List.mem_cons_of_mem _ hy);have h1:0<x.ta.length:=List.length_pos_iff.2 (hne x (by simp));simp only [List.map_cons,List.flatten_cons,zB2,zC4];omega
end Go.Proofs.Xx
namespace Go.Proofs.Xx
def qfZ:(Nat→Int)→List Int→List Nat→Nat→Int
 | c,x :: q,w :: g=>qfZ (fun v=>if v=w then c v+x else c v) q g
 | c,_,_=>c
def qg3 (n:Nat):Nat→List Nat→Prop
 | _,[]=>True
 | u,w :: g=>w<min (u+1) n∧qg3 n (max u (w+1)) g
def swW (a b v:Nat):Nat:=if v=a then b else if v=b then a else v
def qgX (c:Nat→Int):Nat→Int
 | 0=>0
 | n+1=>qgX c n+c n
end Go.Proofs.Xx
namespace Go.Proofs.Xx
def mxF (f:Nat→Int):Nat→Int
 | 0=>0
 | n+1=>max (mxF f n) (f n)
def lds (qs c:List Int):Nat→Int:=qfZ (fun _=>0) qs (c.map Int.toNat)
def Lw (n:Nat) (qs c:List Int):Int:=mxF (lds qs c) n
def qfq (n:Nat):Nat→Nat→List Int→List (List Int)
 | 0,_,done=>[done]
 | k+1,u,done=>(List.range (min (u+1) n)).flatMap fun w=>qfq n k (max u (w+1)) (done ++ [(w:Int)])
def qhv (n k u:Nat) (done:List Int) (i:Nat):List (List Int):=(List.range i).flatMap fun w=>qfq n k (max u (w+1)) (done ++ [(w:Int)])
def cvF (b13 b16 b11 b14 b15 b5 b12 b17:Nat):Value:=.func (.func 92) #[] #[.pointer (some ⟨b13,0,none⟩),.pointer (some ⟨b16,0,none⟩),.pointer (some ⟨b11,0,none⟩),.pointer (some ⟨b14,0,none⟩),.pointer (some ⟨b15,0,none⟩),.pointer (some ⟨b5,0,none⟩),.pointer (some ⟨b12,0,none⟩),.pointer (some ⟨b17,0,none⟩)]
abbrev wtR (b13 b16 b11 b14 b15 b5 b12 b17:Nat) (vs vp vc:Value) (stops pl:List Int) (n:Nat) (vw vb:Value) (who best:List Int) (least:Int) (ca:List Int):List Rs :=
 [.sl vw 3 1 eI who,.sl vc 3 1 eI ca,.sl vb 3 1 eI best,.blk b16 [.int .i64 least] 3,.blk b14 [vw] 25,.blk b15 [vb] 25,.blk b13 [vc] 25,.sl vs 3 1 eI stops,.blk b11 [vs] 25,.sl vp 3 1 eI pl,.blk b12 [vp] 25,.blk b5 [.int .i64 n] 3,.blk b17 [cvF b13 b16 b11 b14 b15 b5 b12 b17] 135]
structure qfg where
 sv:SlV
 r:List Int
instance:Inhabited qfg:=⟨⟨⟨none,0,0⟩,[]⟩⟩
def qhq (x:qfg):List Value:=[x.sv.val]
abbrev qg5 (x:qfg):Rs:=.sl x.sv.val 3 1 eI x.r
def qgT (st best:List Int) (i w:Nat):List Int:=(((st.zip best).take i).filter fun x=>decide (x.2=(w:Int))).map (·.1)
noncomputable def qhd (p:Pb) (q:List Int) (n:Nat):GG:=(qfq n (srv (jM p q)).length 0 []).foldl (qew (Lw n ((srv (jM p q)).map (ZK (jM p q))))) ([],-1)
def qgV (st B:List Int) (i:Nat):Nat→List Int
 | 0=>[]
 | n+1=>qgV st B i n ++ qgT st B i n
def ldN (pl:List Int) (n:Int):Int:=max (mxF (fun i=>pl.getD i default) pl.length) (pl.sum / n+min 1 (pl.sum % n))
variable [Flag]
end Go.Proofs.Xx
namespace Go.Proofs.Xx
open Go Go.Proofs
end Go.Proofs.Xx
namespace Go.Proofs.Xx
def qg4 (n:Nat):Nat→List Int→List (List Int)
 | 0,done=>[done]
 | k+1,done=>(List.range n).flatMap fun w:Nat=>qg4 n k (done ++ [(w:Int)])
abbrev nI (g:List Nat):List Int:=g.map fun w:Nat=>(w:Int)
def exW (u w x:Nat):Nat:=if x=u then w else if x=w then u else x
def qf0 (n:Nat):Nat→Nat→List Nat
 | 0,_=>[]
 | j+1,k=>qf0 n j (k / n) ++ [k % n]
end Go.Proofs.Xx
namespace Go.Proofs.Xx
variable [Flag]
theorem Srt.out {a i:Nat} {m n:List (List UInt8)} (h:Srt Qh a i m) (e:∀ k,a≤k→k<i→n.getD k default=m.getD k default):Srt Qh a i n:=fun p q h1 h2 h3=>by
 rw [e p h1 (by omega),e q (by omega) h3];exact h p q h1 h2 h3
end Go.Proofs.Xx
namespace Go.Proofs.Xx
open Go Go.Proofs
variable [Flag]
end Go.Proofs.Xx
namespace Go.Proofs.Xx
open Go Go.Proofs
def MpRd {α:Type} (h:AH) (b:Nat) (enc:α→Value) (l:List (List UInt8×α)):Prop:=∃ es clock,h.get b=some (.map es clock)∧es.map (fun e=>(e.1,e.2.1))=l.map (fun p=>(Value.string ⟨p.1.toArray⟩,enc p.2))
theorem MpRd.ext {α:Type} {h h':AH} {b:Nat} {enc:α→Value} {l:List (List UInt8×α)} (r:MpRd h b enc l) (w:WfH h) (x:Ext h h'):MpRd h' b enc l:=by
 obtain ⟨es,clock,h1,h2⟩:=r;exact ⟨es,clock,x.get w h1,h2⟩
section
variable {P:Program} {X:Extern} {sz:Nat} {L:Ks} {h h0:AH} {rs:List Rs} {ops:Array Oper} {os:List Oper} {o:Oper} {R:Ks→AH→Prop}
end
structure BkAt (h:AH) (p:Nat) (r:Rl) (s:BkS):Prop where
 bk:h.get p=some (.cells [s.vg.val,s.vt.val,.map (some s.m)] 298 none false)
 rg:zo h s.vg.val 9 eG s.gs
 rt:zo h s.vt.val 3 jD r.ts
 mp:MpRd h s.m (.int .i64) s.mp
 tg:∀ i,i<s.gs.length→zo h (s.gs.getD i default).tv.val 1 eS (s.gs.getD i default).tg
 us:s.gs.map (·.toGu)=r.us
 at_:AtOk s.mp r.us
def BkRd (h:AH) (p:Nat) (r:Rl):Prop:=∃ s,BkAt h p r s
theorem BkRd.ext {h h':AH} {p:Nat} {r:Rl} (b:BkRd h p r) (w:WfH h) (x:Ext h h'):BkRd h' p r:=by
 obtain ⟨s,b⟩:=b;exact ⟨s,x.get w b.bk,b.rg.ext w x,b.rt.ext w x,b.mp.ext w x,fun i hi=>(b.tg i hi).ext w x,b.us,b.at_⟩
theorem BkAt.len {h:AH} {p:Nat} {r:Rl} {s:BkS} (b:BkAt h p r s):s.gs.length=r.us.length:=by rw [← b.us];simp
theorem BkAt.g {h:AH} {p:Nat} {r:Rl} {s:BkS} (b:BkAt h p r s) {i:Nat} (hi:i<s.gs.length):(s.gs.getD i default).toGu=r.us.getD i default:=by rw [← b.us,zu hi]
def SS (l:List (List UInt8)):Prop:=∀ i j,i<j→j<l.length→Qh (l.getD i default) (l.getD j default)
theorem qb9 {l:List (List UInt8)} (h:l.Nodup) {i j:Nat} (hij:i<j) (hj:j<l.length):l.getD i default≠l.getD j default:=by
 rw [zA2,zA2,zA4 hj,zA4 (show i<l.length by omega)];exact zD2.1 h i j (by omega) hj hij
theorem SS.of {l l':List (List UInt8)} (s:Sw 0 l.length l l') (h:Srt Qh 0 l.length l') (hn:l.Nodup):SS l':=fun i j hij hj=>by
 have hl:=s.len;have hn':l'.Nodup:=s.perm.nodup_iff.2 hn;have h1:=h i j (zB0 _) hij (by omega);rcases qex h1 with q|q
 ·exact absurd q (qb9 hn' hij hj)
 ·exact q
theorem SS.nodup {l:List (List UInt8)} (h:SS l):l.Nodup:=by
 rw [List.nodup_iff_pairwise_ne,zD2];intro i j hi hj hij;have:=h i j hij hj;rw [zA2,zA2,zA4 hj,zA4 hi] at this;exact qbL this
def adj (r:Rl) (k:Int) (n x:List UInt8):Prop:=∃ t∈r.ts,t.k=k∧((t.a=n∧t.b=x)∨(t.b=n∧t.a=x))
theorem adj.symm {r:Rl} {k:Int} {n x:List UInt8} (h:adj r k n x):adj r k x n:=by
 obtain ⟨t,h1,h2,h3⟩:=h;exact ⟨t,h1,h2,h3.elim (fun q=>.inr ⟨q.2,q.1⟩) (fun q=>.inl ⟨q.2,q.1⟩)⟩
def qhi (k:Int) (n:List UInt8) (t:Ti):List (List UInt8):=if t.k≠k then [] else if t.a=n then [t.b] else if t.b=n then [t.a] else []
variable [Flag]
end Go.Proofs.Xx
namespace Go.Proofs.Xx
open Go Go.Proofs
section
variable {P:Program} {X:Extern} {sz:Nat} {L:Ks} {h h0:AH} {rs:List Rs} {ops:Array Oper} {os:List Oper} {o:Oper} {R:Ks→AH→Prop}
end
theorem Star.snoc {h:AH} {r:Rs} {fp:Fp} (hr:r.ok h fp):∀ {l:List Rs} {U:Fp},Star h l U→(∀ b,fp b→¬ U b)→Star h (l ++ [r]) (fun b=>U b∨fp b)
 | [],U,_,_=>⟨fp,hr,fun b hb=>.inr hb,trivial⟩
 | x :: l,U,⟨fx,h1,h2,h3⟩,hd=>⟨fx,h1,fun b hb=>.inl (h2 b hb),(Star.snoc hr h3 fun b hb q=>hd b hb q.1).mono fun b hb=>by
  rcases hb with hb|hb
  ·exact ⟨.inl hb.1,hb.2⟩
  ·exact ⟨.inr hb,fun q=>hd b hb (h2 b q)⟩⟩
abbrev qgB (g:JL):Rs:=.sl g.tv.val 9 1 eS g.tg
abbrev tgO (gs:List JL):Rs:=.any (fun h fp=>Star h (gs.map qgB) fp)
theorem Star.get {h:AH} {r:Rs}:∀ {l:List Rs} {U:Fp},Star h l U→r∈l→∃ fp,r.ok h fp
 | x :: l,U,⟨fx,h1,h2,h3⟩,hr=>by
  rcases zE8.1 hr with rfl|hr
  ·exact ⟨fx,h1⟩
  ·exact Star.get h3 hr
abbrev qhj (v:RlV) (ts:List Ti):List Rs:=[.sl v.vg.val 125 9 eG v.gs,.sl v.vt.val 174 3 jD ts,tgO v.gs]
variable [Flag]
end Go.Proofs.Xx
namespace Go.Proofs.Xx
open Go Go.Proofs
structure qgu where
 name:List UInt8
 shape:Int
 A:Int
 B:Int
 opn:List Int
 X:Int
 Y:Int
instance:Inhabited qgu:=⟨⟨[],0,0,0,[],0,0⟩⟩
abbrev Tab.toC (t:Tab):qgu:=⟨t.name,t.shape,t.A,t.B,t.opn,t.X,t.Y⟩
section
variable {l m:List Tab} (h:l.map (·.toC)=m.map (·.toC))
include h
end
variable [Flag]
abbrev qgA (t:Tab):Rs:=.sl t.os.val 3 1 eI t.opn
end Go.Proofs.Xx
namespace Go.Proofs.Xx
open Go Go.Proofs
variable [Flag]
end Go.Proofs.Xx
namespace Go.Proofs.Xx
open Go Go.Proofs
def qhs (L:List Int→Int) (n m k:Nat):GG:=((List.range k).map fun i=>nI (qf0 n m i)).foldl (qew L) ([],-1)
variable [Flag]
end Go.Proofs.Xx
namespace Go.Proofs.Xx
open Go Go.Proofs
variable [Flag]
structure qgv (h:AH) (v:PbV) (p:Pb):Prop where
 ok:PbOk h v p
 op:∀ i,i<p.tabs.length→(p.tabs.getD i default).opn.length*8≤140737488351232
 tg:∀ i,i<v.gs.length→(v.gs.getD i default).tg.length≤8796093021952
 few:p.tabs.length≤1000∧p.us.length≤1000∧p.ts.length≤1000∧p.cl.length≤1000∧p.ru.length≤1000
abbrev pbL (v:PbV) (p:Pb):List Rs:=[.sl v.vt.val 84 7 eT p.tabs,JG qgA p.tabs,.sl v.vg.val 125 9 eG v.gs,tgO v.gs,.sl v.vi.val 174 3 jD p.ts,.sl v.vc.val 3 1 eI p.cl,.sl v.vr.val 155 6 JI p.ru]
end Go.Proofs.Xx
namespace Go.Proofs.Xx
open Go Go.Proofs
variable [Flag]
def qg0 (p q:Pb):Prop:=p.tabs.map (·.toC)=q.tabs.map (·.toC)∧p.us=q.us∧p.ts=q.ts∧p.cl=q.cl∧p.ru=q.ru
end Go.Proofs.Xx
