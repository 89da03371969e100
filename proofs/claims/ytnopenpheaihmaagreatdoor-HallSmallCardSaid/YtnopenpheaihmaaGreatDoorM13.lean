/-
  The builder of strings: copyCheck,WriteString,String.
-/
import Derived.Test.YtnopenpheaihmaaGreatDoorM6
import Derived.Test.YtnopenpheaihmaaGreatDoorM12
import Derived.Test.YtnopenpheaihmaaGreatDoorM11
namespace Go.Proofs.Xx
open Go Go.Proofs
set_option linter.unusedSimpArgs false
set_option linter.unusedVariables false
set_option maxRecDepth 100000
section
variable {P:Program} {X:Extern} {inR:Bool} {sz:Nat} {L:Ks} {h h0:AH} {rs:List Rs} {ops:Array Oper} {os:List Oper} {o:Oper} {R:Ks→AH→Prop} {Q:KQ}
theorem pU1 {L':Ks} {x:Operand} {s dt e t:TypeId} {b m:Nat} {c:List Value} (hb:h.get b=some (.cells c e none false)) (w:KO P X sz ops os L' h R) (ho:o.op = .convert s dt x:=by exact rfl) (hg:qB ops L.tree o.guard=some true:=by exact rfl) (hx:kA L x=some (.pointer (some ⟨b,0,none⟩)):=by exact rfl)
 (hs:P.underlying s=some (.pointer t):=by exact rfl) (hd:P.underlying dt=some .unsafePointer:=by exact rfl) (hz:zH P t=some (m+1):=by exact rfl) (hc:Nat.blt 0 c.length=true:=by exact rfl) (hp:qM sz L o.dst (.pointer (some ⟨b,0,none⟩))=some L':=by exact rfl):KO P X sz ops (o :: os) L h R :=
 qY hg (by rw [ho];simp only [jI,qL hx,jf,hs,hd,jY,Qz,hb,hz,hc,qU]) hp w
theorem pU2 {L':Ks} {x:Operand} {s dt e t:TypeId} {b m:Nat} {c:List Value} (hb:h.get b=some (.cells c e none false)) (w:KO P X sz ops os L' h R) (ho:o.op = .convert s dt x:=by exact rfl) (hg:qB ops L.tree o.guard=some true:=by exact rfl) (hx:kA L x=some (.pointer (some ⟨b,0,none⟩)):=by exact rfl)
 (hs:P.underlying s=some .unsafePointer:=by exact rfl) (hd:P.underlying dt=some (.pointer t):=by exact rfl) (hz:zH P t=some (m+1):=by exact rfl) (hc:liesAt P P.depth e (c.length / P.cellsOf e) 0 t 1=true:=by exact rfl) (hp:qM sz L o.dst (.pointer (some ⟨b,0,none⟩))=some L':=by exact rfl):KO P X sz ops (o :: os) L h R :=
 qY hg (by rw [ho];simp only [jI,qL hx,jf,hs,hd,jY,Qz,hb,hz,hc,qU]) hp w
theorem pN {L':Ks} {x y:Operand} {ty ty2 e:TypeId} {b m:Nat} (w:KO P X sz ops os L' h R) (ho:o.op = .binOp .neq ty x y ty2:=by exact rfl) (hg:qB ops L.tree o.guard=some true:=by exact rfl) (hx:kA L x=some (.pointer (some ⟨b,0,none⟩)):=by exact rfl) (hy:kA L y=some (.pointer (some ⟨b,0,none⟩)):=by exact rfl)
 (hu:P.underlying ty=some (.pointer e):=by exact rfl) (hz:zH P e=some (m+1):=by exact rfl) (hp:qM sz L o.dst (.bool false)=some L':=by exact rfl):KO P X sz ops (o :: os) L h R :=
 je ho hg hx hy (v:=.bool false) (by simp only [QW,hu,hz,show Nat.beq b b=true by simp];rfl) hp w
theorem gy {L':Ks} {x y:Operand} {ty ty2:TypeId} {l m:List UInt8} (w:KO P X sz ops os L' h R) (ho:o.op = .binOp .add ty x y ty2:=by exact rfl) (hg:qB ops L.tree o.guard=some true:=by exact rfl) (hx:kA L x=some (str l):=by exact rfl) (hy:kA L y=some (str m):=by exact rfl)
 (hb:l.length+m.length≤4611686018427387904:=by first|omega|(simp only [List.length_append,List.length_cons,List.length_nil,Zu,Xj,Xi,wRow];omega)|(simp only [List.length_append,List.length_cons,List.length_nil,tb];omega)) (hp:qM sz L o.dst (str (l ++ m))=some L':=by exact rfl):KO P X sz ops (o :: os) L h R:=qfJ ho hg hx hy hb hp w
theorem JB {σ:Type} {a b c:Code} (I:σ→AH→Prop) (sl:σ→Ks) (w1:K P X inR sz a L h (Yo P X inR sz b (qcU I sl Q))) (w2:∀ s h',I s h'→K P X inR sz c (sl s) h' Q):K P X inR sz a L h (Yo P X inR sz b (Yo P X inR sz c Q)):=by
 have key:∀ x L' h',qcU I sl Q x L' h'→Yo P X inR sz c Q x L' h':=fun x L' h' q=>by
  cases x with
  | norm=>obtain ⟨s,q1,q2⟩:=q;exact (w2 s h' q1).le q2
  | exit id=>exact q
  | ret=>exact q
 refine w1.mono fun x L' h' q=>?_
 cases x with
 | norm=>exact K.mono q key
 | exit id=>exact q
 | ret=>exact q
theorem qfF {σ:Type} {a b c:Code} (I:σ→AH→Prop) (sl:σ→Ks) (w1:K P X inR sz a L h (Yo P X inR sz b (qcU I sl Q))) (w2:∀ s h',I s h'→K P X inR sz c (sl s) h' Q):K P X inR sz a L h (Yo P X inR sz (.seq b c) Q) :=
 w1.mono fun x L' h' q=>by
  cases x with
  | norm=>exact QG I sl q w2
  | exit id=>exact q
  | ret=>exact q
theorem Vu {σ:Type} {a c:Code} (I:σ→AH→Prop) (sl:σ→Ks) (w1:K P X inR sz a L h (qcU I sl Q)) (w2:∀ s h',I s h'→K P X inR sz c (sl s) h' Q):K P X inR sz a L h (Yo P X inR sz c Q) :=
 w1.mono fun x L' h' q=>by
  cases x with
  | norm=>obtain ⟨s,q1,q2⟩:=q;exact (w2 s h' q1).le q2
  | exit id=>exact q
  | ret=>exact q
end
abbrev bst (bb:Nat) (q v:Value):Rs:=.blk bb [q,v] 122
abbrev bsl (v:Value) (l:List UInt8):Rs:=.sl v 5 1 eU (l.map UInt8.toNat)
def QP (bb:Nat) (q:Value):Prop:=q = .pointer none∨q = .pointer (some ⟨bb,0,none⟩)
theorem qdQ {h0:AH} (v:Value):Fn Tryz.prog Xh 200 [v] h0 (fun r h'=>r=v∧h'=h0):=JO rfl ⟨rfl,rfl⟩
theorem qcY {h0 h:AH} {rs:List Rs} {bb:Nat} {q v:Value} (S:Hs h0 h (bst bb q v :: rs)) (hq:QP bb q):Fn Tryz.prog Xh 163 [.pointer (some ⟨bb,0,none⟩)] h (fun r h'=>Hs h0 h' (bst bb (.pointer (some ⟨bb,0,none⟩)) v :: rs)):=by
 rcases hq with rfl|rfl
 ·refine qF rfl Tryz.func163 rfl rfl ?_
  all_goals (repeat' (first|refine qi ?_|refine ql rfl ?_|refine qo ?_|refine qA ?_|refine qm ?_|refine qR ?_|(refine qf 0 ?_;refine mv ?_;refine vl ?_;(first|refine vl ?_|refine fB S ?_|refine fS S rfl rfl ?_|refine fA ?_);(first|refine lB S rfl rfl ?_|refine qI S rfl rfl ?_|refine zS S ?_|refine lH S ?_);refine vl ?_;refine qg ?_)))
  refine qf 1 ?_
  refine mv ?_;refine mv ?_
  refine pU1 (b:=bb) (c:=[.pointer none,v]) (e:=122) S.gB ?_
  (refine qw rfl rfl rfl rfl rfl ((qdQ _).mono ?_);rintro _ h ⟨rfl,rfl⟩)<;>(refine pU2 (b:=bb) (c:=[.pointer none,v]) (e:=122) S.gB ?_ (hc:=by kernel_rfl);((refine vl ?_;(first|refine vl ?_|refine fB S ?_|refine fS S rfl rfl ?_|refine fA ?_);(first|(refine sB S rfl rfl ?_;clear S;intro h S)|(refine ZK S rfl rfl ?_;clear S;intro h S));refine qg ?_)))
  all_goals (repeat' (first|refine qi ?_|refine ql rfl ?_|refine qo ?_|refine qA ?_|refine qm ?_|refine qR ?_|(refine qf 0 ?_;refine mv ?_;refine vl ?_;(first|refine vl ?_|refine fB S ?_|refine fS S rfl rfl ?_|refine fA ?_);(first|refine lB S rfl rfl ?_|refine qI S rfl rfl ?_|refine zS S ?_|refine lH S ?_);refine vl ?_;refine qg ?_)|(refine qf 1 ?_;refine mv ?_;refine mv ?_)|(refine qf 2 ?_;refine mv ?_;refine vl ?_;(first|refine vl ?_|refine fB S ?_|refine fS S rfl rfl ?_|refine fA ?_);(first|refine lB S rfl rfl ?_|refine qI S rfl rfl ?_|refine zS S ?_|refine lH S ?_);refine mv ?_;refine vl ?_;refine qg ?_)))
  refine ⟨_,rfl,?_⟩
  exact S
 ·refine qF rfl Tryz.func163 rfl rfl ?_
  all_goals (repeat' (first|refine qi ?_|refine ql rfl ?_|refine qo ?_|refine qA ?_|refine qm ?_|refine qR ?_|(refine qf 0 ?_;refine mv ?_;refine vl ?_;(first|refine vl ?_|refine fB S ?_|refine fS S rfl rfl ?_|refine fA ?_);(first|refine lB S rfl rfl ?_|refine qI S rfl rfl ?_|refine zS S ?_|refine lH S ?_);refine vl ?_;refine qg ?_)))
  refine qf 2 ?_
  refine mv ?_;refine vl ?_;refine vl ?_;refine lB S rfl rfl ?_;refine mv ?_;refine pN ?_;refine qg ?_
  skip
  all_goals (repeat' (first|refine qi ?_|refine ql rfl ?_|refine qo ?_|refine qA ?_|refine qm ?_|refine qR ?_|(refine qf 2 ?_;refine mv ?_;refine vl ?_;(first|refine vl ?_|refine fB S ?_|refine fS S rfl rfl ?_|refine fA ?_);(first|refine lB S rfl rfl ?_|refine qI S rfl rfl ?_|refine zS S ?_|refine lH S ?_);refine mv ?_;refine vl ?_;refine qg ?_)))
  refine ⟨_,rfl,?_⟩
  exact S
theorem ZV {h0 h:AH} {rs:List Rs} {bb:Nat} {q v:Value} {l:List UInt8} (s:List UInt8) (S:Hs h0 h (bst bb q v :: bsl v l :: rs)) (hq:QP bb q) (hl:l.length+s.length≤1000000):Fn Tryz.prog Xh 110 [.pointer (some ⟨bb,0,none⟩),str s] h
 (fun r h'=>∃ v',Hs h0 h' (bst bb (.pointer (some ⟨bb,0,none⟩)) v' :: bsl v' (l ++ s) :: rs)):=by
 have hl':(l.map UInt8.toNat).length+s.length≤1000000:=by simpa using hl
 refine qF rfl Tryz.func110 rfl rfl ?_
 all_goals (repeat' (first|refine qi ?_|refine ql rfl ?_|refine qo ?_|refine qA ?_|refine qm ?_|refine qR ?_|(refine qf 0 ?_;refine mv ?_;refine mv ?_;refine qg ?_)|(refine qf 1 ?_;refine mv ?_)))
 (refine qw rfl rfl rfl rfl rfl ((qcY S hq).mono ?_);rintro _ h S2)<;>(replace S:=S2;clear S2;refine qg ?_)
 refine qi ?_
 refine qf 2 ?_
 refine mv ?_;refine mv ?_;refine vl ?_;refine vl ?_;refine lB S rfl rfl ?_;refine mv ?_
 refine apS S rfl rfl ?_;clear S;intro v2 h S
 obtain ⟨sv,rfl⟩:=(Rd.zo S .here).Xq
 refine vl ?_;(first|refine vl ?_|refine fB S ?_|refine fS S rfl rfl ?_|refine fA ?_);(first|(refine sB S rfl rfl ?_;clear S;intro h S)|(refine ZK S rfl rfl ?_;clear S;intro h S));refine qg ?_
 all_goals (repeat' (first|refine qi ?_|refine ql rfl ?_|refine qo ?_|refine qA ?_|refine qm ?_|refine qR ?_|(refine qf 3 ?_;refine mv ?_;refine tl ?_;refine mv ?_;refine mv ?_;refine qg ?_)))
 refine qx ⟨_,rfl,?_⟩
 rw [← List.map_append] at S
 exact ⟨_,S.front (.there .here)⟩
theorem qft {h0 h:AH} {rs:List Rs} {bb:Nat} {q v:Value} {l:List UInt8} (S:Hs h0 h (bst bb q v :: bsl v l :: rs)) (hl:0<l.length∧l.length≤1000000):Fn Tryz.prog Xh 112 [.pointer (some ⟨bb,0,none⟩)] h (fun r h'=>r=str l∧Hs h0 h' (bst bb q v :: rs)):=by
 have hl':(l.map UInt8.toNat).length=l.length:=by simp
 have hl2:(l.map UInt8.toNat).map UInt8.ofNat=l:=by
  rw [List.map_map]
  exact (List.map_congr_left fun a _=>by simp).trans (List.map_id _)
 refine qF rfl Tryz.func112 rfl rfl ?_
 all_goals (repeat' (first|refine qi ?_|refine ql rfl ?_|refine qo ?_|refine qA ?_|refine qm ?_|refine qR ?_|(refine qf 0 ?_;refine mv ?_;refine qg ?_)))
 refine qO 1 ?_
 refine mv ?_;refine vl ?_;refine vl ?_;refine lB S rfl rfl ?_
 refine usd S (by omega) rfl rfl ?_;rintro b o rfl
 refine mv ?_;refine vl ?_;refine vl ?_;refine lB S rfl rfl ?_
 refine ZC S rfl rfl ?_
 refine uns (l:=l.map UInt8.toNat) S ⟨by omega,by omega⟩ rfl rfl ?_;clear S;intro h S
 rw [hl2]
 refine mv ?_;refine qg ?_
 all_goals (repeat' (first|refine qi ?_|refine ql rfl ?_|refine qo ?_|refine qA ?_|refine qm ?_|refine qR ?_|(refine qf 0 ?_;refine mv ?_;refine qg ?_)|(refine qO 1 ?_;refine mv ?_;refine vl ?_;(first|refine vl ?_|refine fB S ?_|refine fS S rfl rfl ?_|refine fA ?_);(first|refine lB S rfl rfl ?_|refine qI S rfl rfl ?_|refine zS S ?_|refine lH S ?_))))
 refine qx ⟨_,rfl,?_⟩
 exact ⟨rfl,S⟩
theorem qfe {h0:AH} (n:Int) (hn:0≤n∧n≤1000):Fn Tryz.prog Xh 111 [.int .i64 n] h0 (fun v h'=>v=str (Vo n.toNat)∧h'=h0):=JO (by show (if 0≤n∧n≤1000 then _ else _)=_;rw [if_pos hn];rfl) ⟨rfl,rfl⟩
theorem qfp {h0:AH} (n:Int) (hn:0≤n∧n≤1000):Fn Tryz.prog Xh 108 [.int .i64 n] h0 (fun v h'=>v=str (Vo n.toNat)∧h'=h0):=JO (by show (if 0≤n∧n≤1000 then _ else _)=_;rw [if_pos hn];rfl) ⟨rfl,rfl⟩
theorem XL {h0:AH} (w:WfH h0) (n:Int) (hn:0≤n∧n≤1000):Fn Tryz.prog Xh 108 [.int .i64 n] h0 (fun v h'=>v=str (Vo n.toNat)∧Hs h0 h' []) :=
 (qfp n hn).mono fun v h' q=>⟨q.1,by rw [q.2];exact Hs.start w⟩
theorem Hs.conv {h0 h:AH} {rs:List Rs} {r r':Rs} (S:Hs h0 h (r :: rs)) (k:∀ fp,r.ok h fp→r'.ok h fp):Hs h0 h (r' :: rs):=by
 obtain ⟨fp,k1,k2⟩:=S.sep
 exact ⟨S.ext,fp,k fp k1,k2⟩
theorem gA1 {α:Type} {l m:List α} {j:Nat} {d:α} (h:j<l.length):(l ++ m).getD j d=l.getD j d:=by simp [List.getD,List.getElem?_append_left h]
theorem gA2 {α:Type} {l m:List α} {j:Nat} {d:α} (h:l.length≤j):(l ++ m).getD j d=m.getD (j - l.length) d:=by simp [List.getD,List.getElem?_append_right h]
abbrev FV:=Nat×Array Value
def eF (x:FV):List Value:=[.func (.func x.1) #[] x.2]
def MvAt (h:AH) (fp:Fp) (n:Int) (g:Int→Int) (f:FV):Prop :=
 ∀ h2,WfH h2→(∀ b,fp b→h2.get b=h.get b)→∀ k:Int,0≤k→k<n→Fn Tryz.prog Xh f.1 (.int .i64 k :: f.2.toList) h2 (fun r h3=>r = .int .i64 (g k)∧Hs h2 h3 [])
theorem MvAt.mono {h:AH} {fp fp':Fp} {n:Int} {g:Int→Int} {f:FV} (m:MvAt h fp n g f) (q:∀ b,fp b→fp' b):MvAt h fp' n g f:=fun h2 w a=>m h2 w fun b hb=>a b (q b hb)
theorem MvAt.moved {h h':AH} {fp:Fp} {n:Int} {g:Int→Int} {f:FV} (m:MvAt h fp n g f) (q:∀ b,fp b→h'.get b=h.get b):MvAt h' fp n g f:=fun h2 w a=>m h2 w fun b hb=>(a b hb).trans (q b hb)
def MvR (n:Int) (N:Nat) (g:Nat→Int→Int) (fs:List FV):AH→Fp→Prop:=fun h fp=>fs.length=N∧∀ j,j<N→MvAt h fp n (g j) (fs.getD j default)
theorem MvR.ok {n:Int} {N:Nat} {g:Nat→Int→Int} {fs:List FV} {h:AH} {fp:Fp} (m:MvR n N g fs h fp):(Rs.any (MvR n N g fs)).ok h fp:=fun h' q=>⟨m.1,fun j hj=>(m.2 j hj).moved q⟩
def xQ (A:Int) (j:Nat) (k:Int):Int:=if j % 2=0 then (k+(j / 2:Nat)) % A else ((j / 2:Nat) - k+A) % A
theorem qf5 {h0:AH} (w:WfH h0) {k r A:Int} {b6 b2:Nat} (h1:h0.get b6=some (.cells [.int .i64 r] 3 none false)) (h2:h0.get b2=some (.cells [.int .i64 A] 3 none false)) (hk:0≤k∧k<A) (hr:0≤r∧r<A) (hA:A≤24) :
 Fn Tryz.prog Xh 190 [.int .i64 k,.pointer (some ⟨b6,0,none⟩),.pointer (some ⟨b2,0,none⟩)] h0 (fun v h'=>v = .int .i64 ((k+r) % A)∧Hs h0 h' []):=by
 have S:=Hs.start w
 refine qF rfl Tryz.func190 rfl rfl ?_
 all_goals (repeat' (first|refine qi ?_|(refine qf 0 ?_;refine mv ?_;refine qg ?_)|(refine qf 1 ?_;refine mv ?_;refine lH S ?_;refine ad ?_;refine lH S ?_;refine rm ?_;refine mv ?_;refine qg ?_)))
 refine qx ⟨_,rfl,?_⟩
 exact ⟨rfl,S⟩
theorem qf4 {h0:AH} (w:WfH h0) {k r A:Int} {b6 b2:Nat} (h1:h0.get b6=some (.cells [.int .i64 r] 3 none false)) (h2:h0.get b2=some (.cells [.int .i64 A] 3 none false)) (hk:0≤k∧k<A) (hr:0≤r∧r<A) (hA:A≤24) :
 Fn Tryz.prog Xh 191 [.int .i64 k,.pointer (some ⟨b6,0,none⟩),.pointer (some ⟨b2,0,none⟩)] h0 (fun v h'=>v = .int .i64 ((r - k+A) % A)∧Hs h0 h' []):=by
 have S:=Hs.start w
 refine qF rfl Tryz.func191 rfl rfl ?_
 all_goals (repeat' (first|refine qi ?_|(refine qf 0 ?_;refine mv ?_;refine qg ?_)|(refine qf 1 ?_;refine lH S ?_;refine mv ?_;refine sb ?_;refine lH S ?_;refine ad ?_;refine lH S ?_;refine rm ?_;refine mv ?_;refine qg ?_)))
 refine qx ⟨_,rfl,?_⟩
 exact ⟨rfl,S⟩
def RMp (A:Int) (b2:Nat) (N:Nat) (fs:List FV):AH→Fp→Prop:=fun h fp=>fp b2∧h.get b2=some (.cells [.int .i64 A] 3 none false)∧MvR A N (xQ A) fs h fp
theorem RMp.ok {A:Int} {b2 N:Nat} {fs:List FV} {h:AH} {fp:Fp} (m:RMp A b2 N fs h fp):(Rs.any (RMp A b2 N fs)).ok h fp:=fun h' q=>⟨m.1,(q _ m.1).trans m.2.1,MvR.ok m.2.2 h' q⟩
theorem vN {h0:AH} (w:WfH h0) (A B:Int) (hA:1≤A∧A≤24):Fn Tryz.prog Xh 147 [.int .i64 A,.int .i64 B] h0 (fun v h'=>∃ fs:List FV,Hs h0 h' [.sl v 152 1 eF fs,.any (MvR A (2*A).toNat (xQ A) fs)]):=by
 have S:=Hs.start w
 refine qF rfl Tryz.func147 rfl rfl ?_
 all_goals (repeat' (first|refine qi ?_|refine qm ?_|(refine qf 0 ?_;(refine bx S ?_;clear S;intro b h S);refine mv ?_;refine qg ?_)|(refine qf 1 ?_;refine mv ?_;refine qg ?_)|(refine qf 2 ?_;refine lB S rfl rfl ?_;refine mv ?_;refine qg ?_)))
 obtain ⟨b2,hnm⟩:∃ x,x=b:=⟨_,rfl⟩;subst hnm
 replace S:=(S.conv (r':=.any (RMp A b2 0 [])) fun fp q=>RMp.ok ⟨q.2,q.1,rfl,fun j hj=>absurd hj (Nat.not_lt_zero _)⟩).jP (e:=152) (z:=1) (enc:=eF)
 refine qE (σ:=Nat×Value) (fun (r,vs) h'=>∃ fs:List FV,Hs h0 h' [.sl vs 152 1 eF fs,.any (RMp A b2 (2*r) fs)]∧(r:Int)≤A∧fs.length=2*r) (fun (r,vs)=>A.toNat - r) (fun (r,vs)=>[(2,.pointer (some ⟨b2,0,none⟩)),(5,vs),(7,.int .i64 A),(8,.int .i64 r)]) (0,.slice none 0 0) (by repeat (first|exact Ks.le_nil _|refine Ks.qh rfl ?_)) ?_ ?_
 ·exact ⟨[],S,by omega,rfl⟩
 clear S
 rintro ⟨r,vs⟩ h ⟨fs,S,hr,hl⟩
 all_goals (repeat' (first|refine qi ?_|refine ql rfl ?_|refine qo ?_|refine qA ?_|refine qm ?_|(refine qf 3 ?_;(first|(refine cS ?_ ?_<;>intro hc))<;>(refine qg ?_))|(refine qf 4 ?_;refine mv ?_;(refine al S ?_;clear S;intro b h S);(first|(refine sB S rfl rfl ?_;clear S;intro h S));refine qg ?_)|(refine qf 5 ?_;refine mv ?_;refine vl ?_;refine vl ?_)|(refine qf 7 ?_;refine mv ?_;refine mv ?_;refine qg ?_)))
 ·obtain ⟨b6,hnm⟩:∃ x,x=b:=⟨_,rfl⟩;subst hnm
  refine Gj (z:=1) eF [(190,#[.pointer (some ⟨b6,0,none⟩),.pointer (some ⟨b2,0,none⟩)]),(191,#[.pointer (some ⟨b6,0,none⟩),.pointer (some ⟨b2,0,none⟩)])] S ?_;clear S;intro u2 h S
  refine apd S rfl rfl (Rd.zo S .here) ?_;clear S;intro v2 h S
  replace S:=((S.del (.there .here)).front (.there (.there .here))).front (.there (.there .here))
  replace S:=(S.merge (r:=.any (RMp A b2 (2*(r+1)) (fs ++ [(190,#[.pointer (some ⟨b6,0,none⟩),.pointer (some ⟨b2,0,none⟩)]),(191,#[.pointer (some ⟨b6,0,none⟩),.pointer (some ⟨b2,0,none⟩)])]))) fun fp1 fp2 q1 q2=>by
   obtain ⟨a1,a2⟩:=q1
   obtain ⟨c1,c2,c3,c4⟩:=q2 h fun _ _=>rfl
   refine RMp.ok ⟨.inr c1,c2,by simp only [List.length_append,List.length_cons,List.length_nil];omega,fun j hj=>?_⟩
   by_cases q:j<2*r
   ·rw [gA1 (by omega)]
    exact (c4 j q).mono fun b hb=>.inr hb
   ·rw [gA2 (by omega),hl]
    by_cases q0:j=2*r
    ·subst q0
     rw [Nat.sub_self]
     intro h2 w2 ag k k1 k2
     refine (qf5 w2 (k:=k) (r:=r) (A:=A) ((ag b6 (.inl a2)).trans a1) ((ag b2 (.inr c1)).trans c2) ⟨k1,k2⟩ (by omega) hA.2).mono fun v h3 q=>⟨?_,q.2⟩
     rw [q.1];unfold xQ;rw [if_pos (by omega),show 2*r / 2=r by omega]
    ·have q1:j=2*r+1:=by omega
     subst q1
     rw [show 2*r+1 - 2*r=1 by omega]
     intro h2 w2 ag k k1 k2
     refine (qf4 w2 (k:=k) (r:=r) (A:=A) ((ag b6 (.inl a2)).trans a1) ((ag b2 (.inr c1)).trans c2) ⟨k1,k2⟩ (by omega) hA.2).mono fun v h3 q=>⟨?_,q.2⟩
     rw [q.1];unfold xQ;rw [if_neg (by omega),show (2*r+1) / 2=r by omega]).front (.there .here)
  refine mv ?_;refine qg ?_
  all_goals (repeat' (first|(refine qf 6 ?_;refine ad ?_;refine mv ?_;refine qg ?_)))
  refine ⟨(r+1,v2),?_,?_,(by repeat (first|exact Ks.le_nil _|refine Ks.qh rfl ?_))⟩
  ·show A.toNat - (r+1)<A.toNat - r;omega
  ·exact ⟨_,S,by omega,by simp only [List.length_append,List.length_cons,List.length_nil];omega⟩
 ·all_goals (repeat' (fail))
  refine qx ⟨_,rfl,?_⟩
  have e:(2*A).toNat=2*r:=by omega
  rw [e]
  exact ⟨fs,((S.front (.there .here)).conv fun fp q=>MvR.ok (q _ fun _ _=>rfl).2.2).front (.there .here)⟩
def BL (bl:List (Nat×List Value×TypeId)):AH→Fp→Prop:=fun h fp=>∀ x,x∈bl→h.get x.1=some (.cells x.2.1 x.2.2 none false)∧fp x.1
theorem Hs.yu {h0 h:AH} {rs:List Rs} {b:Nat} {c:List Value} {e:TypeId} {bl:List (Nat×List Value×TypeId)} (S:Hs h0 h (.blk b c e :: .any (BL bl) :: rs)):Hs h0 h (.any (BL ((b,c,e) :: bl)) :: rs) :=
 S.merge fun fp1 fp2 q1 q2 h' ag x hx=>by
  rcases List.mem_cons.1 hx with rfl|hx
  ·exact ⟨(ag _ (.inl q1.2)).trans q1.1,.inl q1.2⟩
  ·have:=q2 h (fun _ _=>rfl) x hx
   exact ⟨(ag _ (.inr this.2)).trans this.1,.inr this.2⟩
theorem Hs.qb3 {h0 h:AH} {rs:List Rs} (S:Hs h0 h rs):Hs h0 h (.any (BL []) :: rs):=S.anyS fun h' x hx=>by cases hx
theorem xI {h0:AH} (w:WfH h0) (k:Int):Fn Tryz.prog Xh 196 [.int .i64 k] h0 (fun v h'=>v = .int .i64 k∧Hs h0 h' []):=by
 have S:=Hs.start w
 refine qF rfl Tryz.func196 rfl rfl ?_
 all_goals (repeat' (first|refine qi ?_|(refine qf 0 ?_;refine mv ?_;refine qg ?_)|(refine qf 1 ?_;refine mv ?_;refine mv ?_;refine qg ?_)))
 refine qx ⟨_,rfl,?_⟩
 exact ⟨rfl,S⟩
def yE (a b k:Int):Prop:=(0<b∧k=a)∨(b=2∧k=2*a+1)
instance (a b k:Int):Decidable (yE a b k):=by unfold yE;infer_instance
def Xr (a b k:Int):Int:=if yE a b k then k else (a+min b 1)+a - 1 - k
def Jp (a b k:Int):Int:=if yE a b k then 3*a+1 - k else if k<a then a - 1 - k else 2*(a+min b 1)+a - 1 - k
abbrev PT (b:Nat):Value:=.pointer (some ⟨b,0,none⟩)
theorem qd1 {h0:AH} (w:WfH h0) {k a b:Int} {b3 b2:Nat} (h1:h0.get b3=some (.cells [.int .i64 b] 3 none false)) (h2:h0.get b2=some (.cells [.int .i64 a] 3 none false)) (hk : -1000≤k∧k≤1000) (ha:0≤a∧a≤24) (hb:0≤b∧b≤2) :
 Fn Tryz.prog Xh 193 [.int .i64 k,PT b3,PT b2] h0 (fun v h'=>BoolIs v (yE a b k)∧Hs h0 h' []):=by
 have S:=Hs.start w
 refine qF rfl Tryz.func193 rfl rfl ?_
 all_goals (repeat' (first|refine qi ?_|(refine qf 0 ?_;refine mv ?_;refine qg ?_)|(refine qf 1 ?_;refine lH S ?_;(first|(refine cS ?_ ?_<;>intro hc))<;>(refine mv ?_;(first|refine off ?_|refine mv ?_);(first|refine off ?_|(refine lH S ?_));(first|refine off ?_|(first|(refine cS ?_ ?_<;>intro hc)))<;>(refine vl ?_;refine mv ?_;(first|refine off ?_|(refine lH S ?_));(first|refine off ?_|(first|refine cF ?_|(refine cS ?_ ?_<;>intro hc)))<;>((first|refine off ?_|refine mv ?_);(first|refine off ?_|refine mv ?_);(first|refine off ?_|(refine lH S ?_));(first|refine off ?_|(refine ml ?_));(first|refine off ?_|(refine ad ?_));(first|refine off ?_|(first|(refine cS ?_ ?_<;>intro hc)))<;>((first|refine off ?_|refine vl ?_);refine vl ?_;refine mv ?_;refine qg ?_)))))))
 all_goals (refine qx ⟨_,rfl,?_⟩)
 all_goals (first|exact ⟨.inl ⟨rfl,by unfold yE;omega⟩,S⟩|exact ⟨.inr ⟨rfl,by unfold yE;omega⟩,S⟩)
abbrev hdV (b3 b2:Nat):Value:=.func (.func 193) #[] #[PT b3,PT b2]
theorem qd0 {h0:AH} (w:WfH h0) {k a b s:Int} {b6 b5 b3 b2:Nat} (h6:h0.get b6=some (.cells [hdV b3 b2] 90 none false)) (h5:h0.get b5=some (.cells [.int .i64 s] 3 none false)) (h1:h0.get b3=some (.cells [.int .i64 b] 3 none false)) (h2:h0.get b2=some (.cells [.int .i64 a] 3 none false)) (hk : -1000≤k∧k≤1000) (ha:0≤a∧a≤24) (hb:0≤b∧b≤2) (hs:s=a+min b 1) :
 Fn Tryz.prog Xh 194 [.int .i64 k,PT b6,PT b5,PT b2] h0 (fun v h'=>v = .int .i64 (Xr a b k)∧Hs h0 h' []):=by
 have S:=Hs.start w
 refine qF rfl Tryz.func194 rfl rfl ?_
 all_goals (repeat' (first|refine qi ?_|(refine qf 0 ?_;refine mv ?_;refine qg ?_)|(refine qf 1 ?_;refine lH S ?_;refine mv ?_)))
 (refine qN rfl rfl rfl rfl ((qd1 S.wf (S.ext.get w h1) (S.ext.get w h2) hk ha hb).mono ?_);rintro _ h ⟨⟨rfl,hq⟩|⟨rfl,hq⟩,x⟩)<;>(replace S:=S.qy x;clear x;refine qg ?_)
 ·all_goals (repeat' (first|refine qi ?_|refine ql rfl ?_|(refine qf 2 ?_;refine mv ?_;refine mv ?_;refine qg ?_)))
  refine qx ⟨_,rfl,?_⟩
  exact ⟨by unfold Xr;rw [if_pos hq];rfl,S⟩
 ·all_goals (repeat' (first|refine qi ?_|refine ql rfl ?_|refine qo ?_|(refine qf 3 ?_;refine lH S ?_;refine lH S ?_;refine ad ?_;refine sb ?_;refine mv ?_;refine sb ?_;refine mv ?_;refine qg ?_)))
  refine qx ⟨_,rfl,?_⟩
  exact ⟨by unfold Xr;rw [if_neg hq,hs];rfl,S⟩
theorem qdZ {h0:AH} (w:WfH h0) {k a b s:Int} {b6 b5 b3 b2:Nat} (h6:h0.get b6=some (.cells [hdV b3 b2] 90 none false)) (h5:h0.get b5=some (.cells [.int .i64 s] 3 none false)) (h1:h0.get b3=some (.cells [.int .i64 b] 3 none false)) (h2:h0.get b2=some (.cells [.int .i64 a] 3 none false)) (hk : -1000≤k∧k≤1000) (ha:0≤a∧a≤24) (hb:0≤b∧b≤2) (hs:s=a+min b 1) :
 Fn Tryz.prog Xh 195 [.int .i64 k,PT b6,PT b2,PT b5] h0 (fun v h'=>v = .int .i64 (Jp a b k)∧Hs h0 h' []):=by
 have S:=Hs.start w
 refine qF rfl Tryz.func195 rfl rfl ?_
 all_goals (repeat' (first|refine qi ?_|refine qm ?_|(refine qf 0 ?_;refine mv ?_;refine qg ?_)|(refine qf 1 ?_;refine lH S ?_;refine mv ?_)))
 (refine qN rfl rfl rfl rfl ((qd1 S.wf (S.ext.get w h1) (S.ext.get w h2) hk ha hb).mono ?_);rintro _ h ⟨⟨rfl,hq⟩|⟨rfl,hq⟩,x⟩)<;>(replace S:=S.qy x;clear x;refine mv ?_;refine qg ?_)
 ·all_goals (repeat' (first|refine qi ?_|refine ql rfl ?_|(refine qf 2 ?_;refine lH S ?_;refine ml ?_;refine ad ?_;refine mv ?_;refine sb ?_;refine mv ?_;refine qg ?_)))
  refine qx ⟨_,rfl,?_⟩
  exact ⟨by unfold Jp;rw [if_pos hq];rfl,S⟩
 ·all_goals (repeat' (first|refine qi ?_|refine ql rfl ?_|refine qo ?_|(refine qf 3 ?_;refine mv ?_;refine lH S ?_;(first|(refine cS ?_ ?_<;>intro hc))<;>(refine mv ?_;refine qg ?_))|(refine qf 4 ?_;refine lH S ?_;refine sb ?_;refine mv ?_;refine sb ?_;refine mv ?_;refine qg ?_)|(refine qf 5 ?_;refine lH S ?_;refine ml ?_;refine lH S ?_;refine ad ?_;refine sb ?_;refine mv ?_;refine sb ?_;refine mv ?_;refine qg ?_)))
  ·refine qx ⟨_,rfl,?_⟩
   exact ⟨by unfold Jp;rw [if_neg hq,if_pos (by omega)];rfl,S⟩
  ·refine qx ⟨_,rfl,?_⟩
   exact ⟨by unfold Jp;rw [if_neg hq,if_neg (by omega),hs];rfl,S⟩
abbrev sdV (b6 b5 b2:Nat):Value:=.func (.func 194) #[] #[PT b6,PT b5,PT b2]
abbrev enV (b6 b2 b5:Nat):Value:=.func (.func 195) #[] #[PT b6,PT b2,PT b5]
theorem qgi {h0:AH} (w:WfH h0) {k a b s:Int} {b8 b7 b6 b5 b3 b2:Nat} (h8:h0.get b8=some (.cells [enV b6 b2 b5] 152 none false)) (h7:h0.get b7=some (.cells [sdV b6 b5 b2] 152 none false)) (h6:h0.get b6=some (.cells [hdV b3 b2] 90 none false)) (h5:h0.get b5=some (.cells [.int .i64 s] 3 none false)) (h1:h0.get b3=some (.cells [.int .i64 b] 3 none false)) (h2:h0.get b2=some (.cells [.int .i64 a] 3 none false)) (hk:0≤k∧k≤100) (ha:0≤a∧a≤24) (hb:0≤b∧b≤2) (hs:s=a+min b 1) :
 Fn Tryz.prog Xh 197 [.int .i64 k,PT b7,PT b8] h0 (fun v h'=>v = .int .i64 (Xr a b (Jp a b k))∧Hs h0 h' []):=by
 have S:=Hs.start w
 have he : -1000≤Jp a b k∧Jp a b k≤1000:=by unfold Jp;split<;>(try split)<;>omega
 refine qF rfl Tryz.func197 rfl rfl ?_
 all_goals (repeat' (first|refine qi ?_|(refine qf 0 ?_;refine mv ?_;refine qg ?_)))
 refine jG (id:=1) [(0,(0,1))] [some (b7)] ?_;refine qj ?_;(first|(refine lH S ?_<;>refine qg ⟨⟨by (first|exact Or.inr rfl),rfl⟩,?_⟩));refine qj ?_;(first|(refine lH S ?_<;>refine qg ⟨⟨by (first|exact True.intro),rfl⟩,?_⟩));refine qj ?_;(first|(refine mv ?_<;>refine qg ⟨⟨by (first|exact True.intro),rfl⟩,?_⟩))
 ((refine qj ?_;first|refine qN rfl rfl rfl rfl ((qdZ S.wf (S.ext.get w h6) (S.ext.get w h5) (S.ext.get w h1) (S.ext.get w h2) ⟨by omega,by omega⟩ ha hb hs).mono ?_));rintro _ h ⟨rfl,x⟩)<;>((refine qg ⟨⟨True.intro,?_⟩,?_⟩;(focus ((show keepsX _ _ _ _ _;simp only [keepsX];(repeat' (first|exact True.intro|refine And.intro ?_ ?_));all_goals (intro hw;first|exact x.ext.old _ (S.bY (by assumption) (by assumption)))))));replace S:=S.qy x;clear x)
 ((refine qj ?_;first|refine qN rfl rfl rfl rfl ((qd0 S.wf (S.ext.get w h6) (S.ext.get w h5) (S.ext.get w h1) (S.ext.get w h2) he ha hb hs).mono ?_));rintro _ h ⟨rfl,x⟩)<;>((refine qg ⟨⟨True.intro,?_⟩,?_⟩;(focus ((show keepsX _ _ _ _ _;simp only [keepsX];(repeat' (first|exact True.intro|refine And.intro ?_ ?_));all_goals (intro hw;first|exact x.ext.old _ (S.bY (by assumption) (by assumption)))))));replace S:=S.qy x;clear x;refine qj ?_;(first|(refine mv ?_<;>refine qg ⟨⟨by (first|exact True.intro),rfl⟩,?_⟩));refine jd ?_)
 all_goals (repeat' (fail))
 refine qx ⟨_,rfl,?_⟩
 exact ⟨rfl,S⟩
theorem qgP {h0:AH} (w:WfH h0) {k a b:Int} {b3 b2:Nat} (h1:h0.get b3=some (.cells [.int .i64 b] 3 none false)) (h2:h0.get b2=some (.cells [.int .i64 a] 3 none false)) (hk:0≤k∧k≤100) (ha:0≤a∧a≤24) (hb:0≤b∧b≤24) :
 Fn Tryz.prog Xh 198 [.int .i64 k,PT b2,PT b3] h0 (fun v h'=>v = .int .i64 (a+2*b - 1 - k)∧Hs h0 h' []):=by
 have S:=Hs.start w
 refine qF rfl Tryz.func198 rfl rfl ?_
 all_goals (repeat' (first|refine qi ?_|(refine qf 0 ?_;refine mv ?_;refine qg ?_)|(refine qf 1 ?_;refine lH S ?_;refine lH S ?_;refine ml ?_;refine ad ?_;refine sb ?_;refine mv ?_;refine sb ?_;refine mv ?_;refine qg ?_)))
 refine qx ⟨_,rfl,?_⟩
 exact ⟨rfl,S⟩
theorem qgL {h0:AH} (w:WfH h0) {k a:Int} {b2:Nat} (h2:h0.get b2=some (.cells [.int .i64 a] 3 none false)) (hk:0≤k∧k≤100) (ha:0≤a∧a≤24) :
 Fn Tryz.prog Xh 199 [.int .i64 k,PT b2] h0 (fun v h'=>v = .int .i64 (a - 1 - k)∧Hs h0 h' []):=by
 have S:=Hs.start w
 refine qF rfl Tryz.func199 rfl rfl ?_
 all_goals (repeat' (first|refine qi ?_|(refine qf 0 ?_;refine mv ?_;refine qg ?_)|(refine qf 1 ?_;refine lH S ?_;refine sb ?_;refine mv ?_;refine sb ?_;refine mv ?_;refine qg ?_)))
 refine qx ⟨_,rfl,?_⟩
 exact ⟨rfl,S⟩
def Qo (t:Tab):Nat:=if t.shape=1 then (2*t.A).toNat else if t.shape=2 then (if t.B=1 then 2 else 4) else 2
def Zb (t:Tab) (j:Nat) (k:Int):Int :=
 if t.shape=1 then xQ t.A j k
 else if t.shape=2 then (match j with | 0=>k | 1=>Xr t.A t.B k | 2=>Jp t.A t.B k | _=>Xr t.A t.B (Jp t.A t.B k))
 else (match j with | 0=>k | _=>qC t - 1 - k)
abbrev YQ (t:Tab) (fs:List FV):AH→Fp→Prop:=MvR (qC t) (Qo t) (Zb t) fs
theorem xM {h0:AH} (w:WfH h0) (t:Tab) (hs:TabS t) (q:t.shape=1):Fn Tryz.prog Xh 147 [.int .i64 t.A,.int .i64 t.B] h0 (fun v h'=>∃ fs:List FV,Hs h0 h' [.sl v 152 1 eF fs,.any (YQ t fs)]):=by
 have k:=hs.s1 q
 refine (vN w t.A t.B ⟨k.1,k.2.1⟩).mono fun v h' ⟨fs,S⟩=>⟨fs,?_⟩
 have e1:qC t=t.A:=k.2.2.2
 have e2:Qo t=(2*t.A).toNat:=by unfold Qo;rw [if_pos q]
 have e3:Zb t=xQ t.A:=by funext j k;unfold Zb;rw [if_pos q]
 unfold YQ
 rw [e1,e2,e3]
 exact S
theorem vI {h0:AH} (w:WfH h0) (t:Tab) (hs:TabS t) (q:t.shape=3):Fn Tryz.prog Xh 157 [.int .i64 t.A,.int .i64 t.B] h0 (fun v h'=>∃ fs:List FV,Hs h0 h' [.sl v 152 1 eF fs,.any (YQ t fs)]):=by
 have S:=Hs.start w
 have kk:=hs.s3 q
 have e2:Qo t=2:=by unfold Qo;rw [if_neg (by omega),if_neg (by omega)]
 refine qF rfl Tryz.func157 rfl rfl ?_
 all_goals (repeat' (first|refine qi ?_|(refine qf 0 ?_;(refine bx S ?_;clear S;intro b h S);(refine bx S ?_;clear S;intro b h S);refine mv ?_;refine qg ?_)|(refine qf 1 ?_;refine vl ?_)))
 obtain ⟨b3,hnm⟩:∃ x,x=b:=⟨_,rfl⟩;subst hnm
 obtain ⟨b2,hnm⟩:∃ x,x=b:=⟨_,rfl⟩;subst hnm
 refine Gj (z:=1) eF [(196,#[]),(198,#[PT b2,PT b3])] S ?_;clear S;intro u2 h S
 refine mv ?_;refine qg ?_
 all_goals (repeat' (fail))
 refine qx ⟨_,rfl,?_⟩
 refine ⟨[(196,#[]),(198,#[PT b2,PT b3])],?_⟩
 replace S:=(S.qb3.front (.there (.there (.there .here)))).yu
 replace S:=(S.front (.there (.there .here))).yu
 refine (S.conv fun fp q'=>?_).front (.there .here)
 have q1:=q' h fun _ _=>rfl
 have a3:=q1 _ (.head _)
 have a2:=q1 _ (.tail _ (.head _))
 refine MvR.ok ⟨e2.symm,fun j hj=>?_⟩
 rw [e2] at hj
 intro h2 w2 ag k k1 k2
 match j,hj with
 | 0,_ =>
  refine (xI w2 k).mono fun v h3 z=>⟨?_,z.2⟩
  rw [z.1];unfold Zb;rw [if_neg (by omega),if_neg (by omega)];rfl
 | 1,_ =>
  refine (qgP w2 (k:=k) (a:=t.A) (b:=t.B) ((ag b3 a3.2).trans a3.1) ((ag b2 a2.2).trans a2.1) ⟨k1,by omega⟩ (by omega) (by omega)).mono fun v h3 z=>⟨?_,z.2⟩
  rw [z.1];unfold Zb;rw [if_neg (by omega),if_neg (by omega),kk.2.2.2.2];rfl
theorem gX {h0:AH} (w:WfH h0) (t:Tab) (hs:TabS t) (q:t.shape=4):Fn Tryz.prog Xh 162 [.int .i64 t.A,.int .i64 t.B] h0 (fun v h'=>∃ fs:List FV,Hs h0 h' [.sl v 152 1 eF fs,.any (YQ t fs)]):=by
 have S:=Hs.start w
 have kk:=hs.s4 q
 have e2:Qo t=2:=by unfold Qo;rw [if_neg (by omega),if_neg (by omega)]
 refine qF rfl Tryz.func162 rfl rfl ?_
 all_goals (repeat' (first|refine qi ?_|(refine qf 0 ?_;(refine bx S ?_;clear S;intro b h S);refine mv ?_;refine qg ?_)|(refine qf 1 ?_;refine vl ?_)))
 obtain ⟨b2,hnm⟩:∃ x,x=b:=⟨_,rfl⟩;subst hnm
 refine Gj (z:=1) eF [(196,#[]),(199,#[PT b2])] S ?_;clear S;intro u2 h S
 refine mv ?_;refine qg ?_
 all_goals (repeat' (fail))
 refine qx ⟨_,rfl,?_⟩
 refine ⟨[(196,#[]),(199,#[PT b2])],?_⟩
 replace S:=(S.qb3.front (.there (.there .here))).yu
 refine (S.conv fun fp q'=>?_).front (.there .here)
 have q1:=q' h fun _ _=>rfl
 have a2:=q1 _ (.head _)
 refine MvR.ok ⟨e2.symm,fun j hj=>?_⟩
 rw [e2] at hj
 intro h2 w2 ag k k1 k2
 match j,hj with
 | 0,_ =>
  refine (xI w2 k).mono fun v h3 z=>⟨?_,z.2⟩
  rw [z.1];unfold Zb;rw [if_neg (by omega),if_neg (by omega)];rfl
 | 1,_ =>
  refine (qgL w2 (k:=k) (a:=t.A) ((ag b2 a2.2).trans a2.1) ⟨k1,by omega⟩ (by omega)).mono fun v h3 z=>⟨?_,z.2⟩
  rw [z.1];unfold Zb;rw [if_neg (by omega),if_neg (by omega),kk.2.2.2.2];rfl
def qd2 (b2 b5 b6:Nat):List FV:=[(196,#[]),(194,#[PT b6,PT b5,PT b2])]
def qfa (b2 b5 b6 b7 b8:Nat):List FV:=[(195,#[PT b6,PT b2,PT b5]),(197,#[PT b7,PT b8])]
def lbl (a b:Int) (b2 b3 b5 b6 b7 b8:Nat):List (Nat×List Value×TypeId):=[(b2,[.int .i64 a],3),(b3,[.int .i64 b],3),(b5,[.int .i64 (a+min b 1)],3),(b6,[hdV b3 b2],90),(b7,[sdV b6 b5 b2],152),(b8,[enV b6 b2 b5],152)]
theorem qbU {t:Tab} (hs:TabS t) (q:t.shape=2) {b2 b3 b5 b6 b7 b8:Nat} {h:AH} {fp:Fp} {fs:List FV} (hf:fs=if t.B=1 then qd2 b2 b5 b6 else qd2 b2 b5 b6 ++ qfa b2 b5 b6 b7 b8) (q1:BL (lbl t.A t.B b2 b3 b5 b6 b7 b8) h fp):YQ t fs h fp:=by
 have kk:=hs.s2 q
 obtain ⟨k1,k2,k3,k4,k5⟩:=kk
 have a2:=q1 _ (.head _)
 have a3:=q1 _ (.tail _ (.head _))
 have a5:=q1 _ (.tail _ (.tail _ (.head _)))
 have a6:=q1 _ (.tail _ (.tail _ (.tail _ (.head _))))
 have a7:=q1 _ (.tail _ (.tail _ (.tail _ (.tail _ (.head _)))))
 have a8:=q1 _ (.tail _ (.tail _ (.tail _ (.tail _ (.tail _ (.head _))))))
 have get:∀ j,j<Qo t→fs.getD j default=(qd2 b2 b5 b6 ++ qfa b2 b5 b6 b7 b8).getD j default:=fun j hj=>by
  subst hf
  unfold Qo at hj
  rw [if_neg (by omega),if_pos q] at hj
  by_cases hb:t.B=1
  ·rw [if_pos hb] at hj ⊢
   match j,hj with
   | 0,_=>rfl
   | 1,_=>rfl
  ·rw [if_neg hb]
 have len:fs.length=Qo t:=by
  subst hf
  unfold Qo
  rw [if_neg (show ¬ t.shape=1 by omega),if_pos q]
  split<;>rfl
 have hn:Qo t≤4:=by unfold Qo;rw [if_neg (by omega),if_pos q];split<;>omega
 refine ⟨len,fun j hj=>?_⟩
 rw [get j hj]
 intro h2 w2 ag k e1 e2
 have g2:=(ag b2 a2.2).trans a2.1
 have g3:=(ag b3 a3.2).trans a3.1
 have g5:=(ag b5 a5.2).trans a5.1
 have g6:=(ag b6 a6.2).trans a6.1
 have g7:=(ag b7 a7.2).trans a7.1
 have g8:=(ag b8 a8.2).trans a8.1
 have hj4:j<4:=by omega
 match j,hj4 with
 | 0,_ =>
  refine (xI w2 k).mono fun v h3 z=>⟨?_,z.2⟩
  rw [z.1];unfold Zb;rw [if_neg (by omega),if_pos q];rfl
 | 1,_ =>
  refine (qd0 w2 (k:=k) g6 g5 g3 g2 ⟨by omega,by omega⟩ (by omega) ⟨k3,k4⟩ rfl).mono fun v h3 z=>⟨?_,z.2⟩
  rw [z.1];unfold Zb;rw [if_neg (by omega),if_pos q];rfl
 | 2,_ =>
  refine (qdZ w2 (k:=k) g6 g5 g3 g2 ⟨by omega,by omega⟩ (by omega) ⟨k3,k4⟩ rfl).mono fun v h3 z=>⟨?_,z.2⟩
  rw [z.1];unfold Zb;rw [if_neg (by omega),if_pos q];rfl
 | 3,_ =>
  refine (qgi w2 (k:=k) g8 g7 g6 g5 g3 g2 ⟨by omega,by omega⟩ (by omega) ⟨k3,k4⟩ rfl).mono fun v h3 z=>⟨?_,z.2⟩
  rw [z.1];unfold Zb;rw [if_neg (by omega),if_pos q];rfl
theorem vS {h0:AH} (w:WfH h0) (t:Tab) (hs:TabS t) (q:t.shape=2):Fn Tryz.prog Xh 152 [.int .i64 t.A,.int .i64 t.B] h0 (fun v h'=>∃ fs:List FV,Hs h0 h' [.sl v 152 1 eF fs,.any (YQ t fs)]):=by
 have S:=Hs.start w
 have kk:=hs.s2 q
 obtain ⟨k1,k2,k3,k4,k5⟩:=kk
 refine qF rfl Tryz.func152 rfl rfl ?_
 all_goals (repeat' (first|refine qi ?_|(refine qf 0 ?_;(refine bx S ?_;clear S;intro b h S);(refine bx S ?_;clear S;intro b h S);refine mv ?_;refine qg ?_)|(refine qf 1 ?_;refine lB S rfl rfl ?_;refine lB S rfl rfl ?_)))
 obtain ⟨b3,hnm⟩:∃ x,x=b:=⟨_,rfl⟩;subst hnm
 obtain ⟨b2,hnm⟩:∃ x,x=b:=⟨_,rfl⟩;subst hnm
 (refine qw rfl rfl rfl rfl rfl ((qaF _ _ ⟨by omega,by omega,by omega,by omega⟩).mono ?_);rintro _ h ⟨rfl,rfl⟩)<;>((refine al S ?_;clear S;intro b h S);(first|(refine sB S rfl rfl ?_;clear S;intro h S));refine qg ?_)
 all_goals (repeat' (first|refine qi ?_|(refine qf 2 ?_;refine vl ?_;(refine al S ?_;clear S;intro b h S);(first|(refine sB S rfl rfl ?_;clear S;intro h S));refine qg ?_)|(refine qf 3 ?_;refine vl ?_;(refine al S ?_;clear S;intro b h S);(first|(refine sB S rfl rfl ?_;clear S;intro h S));refine qg ?_)|(refine qf 4 ?_;refine vl ?_;(refine al S ?_;clear S;intro b h S);(first|(refine sB S rfl rfl ?_;clear S;intro h S));refine qg ?_)|(refine qf 5 ?_;refine lB S rfl rfl ?_)))
 obtain ⟨b8,hnm⟩:∃ x,x=b:=⟨_,rfl⟩;subst hnm
 obtain ⟨b7,hnm⟩:∃ x,x=b:=⟨_,rfl⟩;subst hnm
 obtain ⟨b6,hnm⟩:∃ x,x=b:=⟨_,rfl⟩;subst hnm
 obtain ⟨b5,hnm⟩:∃ x,x=b:=⟨_,rfl⟩;subst hnm
 refine Gj (z:=1) eF (qd2 b2 b5 b6) S ?_;clear S;intro u2 h S
 refine mv ?_;refine qg ?_
 all_goals (repeat' (first|refine qi ?_|refine ql rfl ?_|refine qo ?_|(refine qf 6 ?_;refine lB S rfl rfl ?_;(first|(refine cS ?_ ?_<;>intro hc))<;>(refine qg ?_))|(refine qf 7 ?_;refine mv ?_;refine lB S rfl rfl ?_;refine vl ?_)|(refine qf 8 ?_;refine mv ?_;refine mv ?_;refine qg ?_)))
 ·refine Gj (z:=1) eF (qfa b2 b5 b6 b7 b8) S ?_;clear S;intro u3 h S
  refine apd S rfl rfl (Rd.zo S .here) ?_ (hsz:=by simp only [qd2,qfa,List.length_cons,List.length_nil];omega);clear S;intro v2 h S
  refine mv ?_;refine qg ?_
  all_goals (repeat' (first|refine qi ?_|(refine qf 8 ?_;refine mv ?_;refine mv ?_;refine qg ?_)))
  refine qx ⟨_,rfl,?_⟩
  replace S:=(S.del (.there .here)).qb3
  iterate 6 replace S:=(S.front (.there (.there .here))).yu
  exact ⟨_,(S.conv fun fp q'=>MvR.ok (qbU hs q (by rw [if_neg hc]) (q' h fun _ _=>rfl))).front (.there .here)⟩
 ·all_goals (repeat' (fail))
  refine qx ⟨_,rfl,?_⟩
  replace S:=S.qb3
  iterate 6 replace S:=(S.front (.there (.there .here))).yu
  exact ⟨_,(S.conv fun fp q'=>MvR.ok (qbU hs q (by rw [if_pos (by omega)]) (q' h fun _ _=>rfl))).front (.there .here)⟩
abbrev Qc (p:List Int) (k:Nat):Int:=p.getD k default
def WP (t:Tab) (p:List Int) (k m:Nat):Prop:=(zk t k m↔zk t (Qc p k) (Qc p m))∧(zt t k m↔zt t (Qc p k) (Qc p m))
def qfT (t:Tab) (p:List Int) (k:Nat):Prop:=(ZA t k↔ZA t (Qc p k))∧∀ m,m<k→WP t p k m
def kX (t:Tab) (p:List Int):Prop:=∀ k,k<p.length→qfT t p k
theorem nxt {q:Nat→Prop} {m:Nat} (h:∀ j,j<m→q j) (hm:q m):∀ j,j<m+1→q j:=fun j hj=>by
 rcases Nat.lt_or_ge j m with k|k
 ·exact h j k
 ·obtain rfl:j=m:=by omega
  exact hm
theorem qd5 {h0:AH} (w:WfH h0) (t:Tab) (r:TabR h0 t) (hs:TabS t) (pv:Value) (p:List Int) (hp:RdL h0 pv 1 eI p) (hn:(p.length:Int)=qC t) (hb:∀ k,k<p.length→0≤Qc p k∧Qc p k<qC t) :
 Fn Tryz.prog Xh 96 [jg t,pv] h0 (fun v h'=>BoolIs v (kX t p)∧Hs h0 h' []):=by
 have S:=Hs.start w
 have hB:=hs.b
 have hsz:=qK t
 obtain ⟨hov,hnm,hol⟩:=r
 refine qF rfl Tryz.func96 rfl rfl ?_
 all_goals (repeat' (first|refine qi ?_|refine qm ?_|(refine qf 0 ?_;(refine bx S ?_;clear S;intro b h S);refine mv ?_;refine qg ?_)|(refine qf 1 ?_;refine mv ?_;refine QD S ?_;refine mv ?_;refine qg ?_)))
 obtain ⟨bt,hnm⟩:∃ x,x=b:=⟨_,rfl⟩;subst hnm
 refine qE (σ:=Nat) (fun k h'=>Hs h0 h' [.blk bt (eT t) 25]∧k≤p.length∧∀ j,j<k→qfT t p j) (fun k=>p.length - k) (fun k=>[(1,pv),(2,.pointer (some ⟨bt,0,none⟩)),(8,.int .i64 p.length),(9,.int .i64 k)]) 0 (by repeat (first|exact Ks.le_nil _|refine Ks.qh rfl ?_)) ?_ ?_
 ·exact ⟨S,Nat.zero_le _,fun j hj=>absurd hj (Nat.not_lt_zero _)⟩
 clear S
 rintro k h ⟨S,h1,h2⟩
 all_goals (repeat' (first|refine qi ?_|refine ql rfl ?_|refine qo ?_|refine qA ?_|refine qm ?_|(refine qf 2 ?_;(first|(refine cS ?_ ?_<;>intro hc))<;>(refine qg ?_))|(refine qf 3 ?_;refine mv ?_;refine mv ?_;refine qg ?_)|(refine qf 13 ?_;refine mv ?_;refine qg ?_)))
 ·have hk:k<p.length:=by omega
  have hbk:=hb k hk
  refine JB (σ:=Unit) (fun _ h'=>Hs h0 h' [.blk bt (eT t) 25]∧(ZA t k↔ZA t (Qc p k))) (fun _=>[(1,pv),(2,.pointer (some ⟨bt,0,none⟩)),(5,.int .i64 k),(8,.int .i64 p.length),(9,.int .i64 k)]) ?_ ?_
  ·refine jG (id:=4) [(5,(0,1)),(9,(0,1))] [some (bt),some (Qi pv)] ?_;refine qj ?_;(first|(refine vl ?_<;>refine qg ⟨⟨by (first|exact True.intro),rfl⟩,?_⟩));refine qj ?_;(first|(refine lB S rfl rfl ?_<;>refine qg ⟨⟨by (first|exact True.intro),rfl⟩,?_⟩));refine qj ?_;(first|(refine mv ?_<;>refine qg ⟨⟨by (first|exact True.intro),rfl⟩,?_⟩))
   ((refine qj ?_;first|refine qw rfl rfl rfl rfl rfl ((J9 S.wf t.ov t.opn (hov.ext w S.ext) (by omega) k).mono ?_));rintro _ h ⟨⟨rfl,ho⟩|⟨rfl,ho⟩,x⟩)<;>((refine qg ⟨⟨True.intro,?_⟩,?_⟩;(focus ((show keepsX _ _ _ _ _;simp only [keepsX];(repeat' (first|exact True.intro|refine And.intro ?_ ?_));all_goals (intro hw;first|exact x.ext.old _ S.bB|exact x.ext.old _ (S.bX (by assumption) (by assumption) (by first|omega)))))));replace S:=S.qy x;clear x;refine qj ?_;(first|(refine vl ?_<;>refine qg ⟨⟨by (first|exact True.intro),rfl⟩,?_⟩));refine qj ?_;(first|(refine lB S rfl rfl ?_<;>refine qg ⟨⟨by (first|exact Or.inr rfl),rfl⟩,?_⟩));refine qj ?_;(first|(refine mv ?_<;>refine qg ⟨⟨by (first|exact True.intro),rfl⟩,?_⟩));refine qj ?_;(first|(refine mv ?_<;>refine qg ⟨⟨by (first|exact True.intro),rfl⟩,?_⟩));refine qj ?_;(first|(refine jv S ?_<;>refine qg ⟨⟨by (first|exact True.intro),rfl⟩,?_⟩));refine qj ?_;(first|(refine zS S ?_<;>refine qg ⟨⟨by (first|exact Or.inr (congrArg some (zn _ _ _ _))),rfl⟩,?_⟩)))
   all_goals (try simp only [Int.toNat_natCast])
   all_goals (((refine qj ?_;first|refine qw rfl rfl rfl rfl rfl ((J9 S.wf t.ov t.opn (hov.ext w S.ext) (by omega) (Qc p k)).mono ?_));rintro _ h ⟨⟨rfl,ho2⟩|⟨rfl,ho2⟩,x⟩)<;>((refine qg ⟨⟨True.intro,?_⟩,?_⟩;(focus ((show keepsX _ _ _ _ _;simp only [keepsX];(repeat' (first|exact True.intro|refine And.intro ?_ ?_));all_goals (intro hw;first|exact x.ext.old _ S.bB|exact x.ext.old _ (S.bX (by assumption) (by assumption) (by first|omega)))))));replace S:=S.qy x;clear x;refine qj ?_;(first|(refine vl ?_<;>refine qg ⟨⟨by (first|exact True.intro),rfl⟩,?_⟩));refine jd ?_))
   all_goals (all_goals (repeat' (first|refine qi ?_|refine ql rfl ?_|refine qo ?_|(refine qf 5 ?_;refine mv ?_;refine qg ?_))))
   ·exact ⟨(),⟨S,⟨fun _=>ho2,fun _=>ho⟩⟩,((by repeat (first|exact Ks.le_nil _|refine Ks.qh rfl ?_)))⟩
   ·refine qx ⟨_,rfl,?_⟩
    exact ⟨.inr ⟨rfl,fun q=>ho2 ((q k hk).1.1 ho)⟩,S.drop⟩
   ·refine qx ⟨_,rfl,?_⟩
    exact ⟨.inr ⟨rfl,fun q=>ho ((q k hk).1.2 ho2)⟩,S.drop⟩
   ·exact ⟨(),⟨S,⟨fun q=>absurd q ho,fun q=>absurd q ho2⟩⟩,((by repeat (first|exact Ks.le_nil _|refine Ks.qh rfl ?_)))⟩
  ·clear S
   rintro - h ⟨S,hop⟩
   skip
   all_goals (repeat' (first|refine qi ?_|refine qm ?_|(refine qf 6 ?_;refine mv ?_;refine mv ?_;refine qg ?_)))
   refine qE (σ:=Nat) (fun m h'=>Hs h0 h' [.blk bt (eT t) 25]∧m≤k∧∀ j,j<m→WP t p k j) (fun m=>k - m) (fun m=>[(1,pv),(2,.pointer (some ⟨bt,0,none⟩)),(5,.int .i64 k),(8,.int .i64 p.length),(9,.int .i64 k),(24,.int .i64 k),(25,.int .i64 m)]) 0 (by repeat (first|exact Ks.le_nil _|refine Ks.qh rfl ?_)) ?_ ?_
   ·exact ⟨S,Nat.zero_le _,fun j hj=>absurd hj (Nat.not_lt_zero _)⟩
   clear S
   rintro m h ⟨S,g1,g2⟩
   all_goals (repeat' (first|refine qi ?_|refine ql rfl ?_|refine qo ?_|refine qA ?_|refine qm ?_|(refine qf 7 ?_;(first|(refine cS ?_ ?_<;>intro hc))<;>(refine qg ?_))|(refine qf 8 ?_;refine mv ?_;refine mv ?_;refine qg ?_)|(refine qf 12 ?_;refine ad ?_;refine mv ?_;refine qg ?_)))
   ·have hm:m<k:=by omega
    have hbm:=hb m (by omega)
    refine jG (id:=9) [(4,(0,1)),(8,(0,1)),(12,(0,1)),(20,(2,3)),(24,(2,3)),(28,(2,3))] [some (bt),some (Qi pv),some (Qi pv),some (bt),some (Qi pv),some (Qi pv)] ?_;refine qj ?_;(first|(refine lB S rfl rfl ?_<;>refine qg ⟨⟨by (first|exact True.intro),rfl⟩,?_⟩));refine qj ?_;(first|(refine mv ?_<;>refine qg ⟨⟨by (first|exact True.intro),rfl⟩,?_⟩));refine qj ?_;(first|(refine mv ?_<;>refine qg ⟨⟨by (first|exact True.intro),rfl⟩,?_⟩))
    ((refine qj ?_;first|refine qw rfl rfl rfl rfl rfl ((Yc S.wf t k m hB (by omega) (by omega)).mono ?_));rintro _ h ⟨⟨rfl,ho⟩|⟨rfl,ho⟩,x⟩)<;>((refine qg ⟨⟨True.intro,?_⟩,?_⟩;(focus ((show keepsX _ _ _ _ _;simp only [keepsX];(repeat' (first|exact True.intro|refine And.intro ?_ ?_));all_goals (intro hw;first|exact x.ext.old _ S.bB|exact x.ext.old _ (S.bX (by assumption) (by assumption) (by first|omega)))))));replace S:=S.qy x;clear x;refine qj ?_;(first|(refine lB S rfl rfl ?_<;>refine qg ⟨⟨by (first|exact Or.inr rfl),rfl⟩,?_⟩));refine qj ?_;(first|(refine mv ?_<;>refine qg ⟨⟨by (first|exact True.intro),rfl⟩,?_⟩));refine qj ?_;(first|(refine mv ?_<;>refine qg ⟨⟨by (first|exact True.intro),rfl⟩,?_⟩));refine qj ?_;(first|(refine jv S ?_<;>refine qg ⟨⟨by (first|exact True.intro),rfl⟩,?_⟩));refine qj ?_;(first|(refine zS S ?_<;>refine qg ⟨⟨by (first|exact Or.inr (congrArg some (zn _ _ _ _))),rfl⟩,?_⟩));refine qj ?_;(first|(refine mv ?_<;>refine qg ⟨⟨by (first|exact True.intro),rfl⟩,?_⟩));refine qj ?_;(first|(refine mv ?_<;>refine qg ⟨⟨by (first|exact True.intro),rfl⟩,?_⟩));refine qj ?_;(first|(refine jv S ?_<;>refine qg ⟨⟨by (first|exact True.intro),rfl⟩,?_⟩));refine qj ?_;(first|(refine zS S ?_<;>refine qg ⟨⟨by (first|exact Or.inr (congrArg some (zn _ _ _ _))),rfl⟩,?_⟩)))
    all_goals (try simp only [Int.toNat_natCast])
    all_goals (((refine qj ?_;first|refine qw rfl rfl rfl rfl rfl ((Yc S.wf t (Qc p k) (Qc p m) hB (by omega) (by omega)).mono ?_));rintro _ h ⟨⟨rfl,ho2⟩|⟨rfl,ho2⟩,x⟩)<;>((refine qg ⟨⟨True.intro,?_⟩,?_⟩;(focus ((show keepsX _ _ _ _ _;simp only [keepsX];(repeat' (first|exact True.intro|refine And.intro ?_ ?_));all_goals (intro hw;first|exact x.ext.old _ S.bB|exact x.ext.old _ (S.bX (by assumption) (by assumption) (by first|omega)))))));replace S:=S.qy x;clear x;refine qj ?_;(first|(refine vl ?_<;>refine qg ⟨⟨by (first|exact True.intro),rfl⟩,?_⟩));refine qj ?_;(first|(refine mv ?_<;>refine qg ⟨⟨by (first|exact True.intro),rfl⟩,?_⟩));refine qj ?_;(first|(refine off ?_;refine qg ⟨⟨by (first|exact True.intro),rfl⟩,?_⟩)|(refine lB S rfl rfl ?_<;>refine qg ⟨⟨by (first|exact True.intro),rfl⟩,?_⟩));refine qj ?_;(first|(refine off ?_;refine qg ⟨⟨by (first|exact True.intro),rfl⟩,?_⟩)|(refine mv ?_<;>refine qg ⟨⟨by (first|exact True.intro),rfl⟩,?_⟩));refine qj ?_;(first|(refine off ?_;refine qg ⟨⟨by (first|exact True.intro),rfl⟩,?_⟩)|(refine mv ?_<;>refine qg ⟨⟨by (first|exact True.intro),rfl⟩,?_⟩));(first|(refine qj ?_;refine off ?_;refine qg ⟨⟨True.intro,by show keepsX _ _ _ _ _;simp [keepsX]⟩,?_⟩;refine qj ?_;(first|(refine off ?_;refine qg ⟨⟨by (first|exact Or.inl rfl),rfl⟩,?_⟩));refine qj ?_;(first|(refine off ?_;refine qg ⟨⟨by (first|exact True.intro),rfl⟩,?_⟩));refine qj ?_;(first|(refine off ?_;refine qg ⟨⟨by (first|exact True.intro),rfl⟩,?_⟩));refine qj ?_;(first|(refine off ?_;refine qg ⟨⟨by (first|exact True.intro),rfl⟩,?_⟩));refine qj ?_;(first|(refine off ?_;refine qg ⟨⟨by (first|exact Or.inl rfl),rfl⟩,?_⟩));refine qj ?_;(first|(refine off ?_;refine qg ⟨⟨by (first|exact True.intro),rfl⟩,?_⟩));refine qj ?_;(first|(refine off ?_;refine qg ⟨⟨by (first|exact True.intro),rfl⟩,?_⟩));refine qj ?_;(first|(refine off ?_;refine qg ⟨⟨by (first|exact True.intro),rfl⟩,?_⟩));refine qj ?_;(first|(refine off ?_;refine qg ⟨⟨by (first|exact Or.inl rfl),rfl⟩,?_⟩));(first|(refine qj ?_;refine off ?_;refine qg ⟨⟨True.intro,by show keepsX _ _ _ _ _;simp [keepsX]⟩,?_⟩;refine qj ?_;(first|(refine off ?_;refine qg ⟨⟨by (first|exact True.intro),rfl⟩,?_⟩));refine qj ?_;(first|(refine vl ?_<;>refine qg ⟨⟨by (first|exact True.intro),rfl⟩,?_⟩));refine jd ?_)))|skip)))
    ·((refine qj ?_;first|refine qw rfl rfl rfl rfl rfl ((ZW S.wf t k m hB (by omega) (by omega)).mono ?_));rintro _ h ⟨⟨rfl,ha⟩|⟨rfl,ha⟩,x⟩)<;>((refine qg ⟨⟨True.intro,?_⟩,?_⟩;(focus ((show keepsX _ _ _ _ _;simp only [keepsX];(repeat' (first|exact True.intro|refine And.intro ?_ ?_));all_goals (intro hw;first|exact x.ext.old _ S.bB|exact x.ext.old _ (S.bX (by assumption) (by assumption) (by first|omega)))))));replace S:=S.qy x;clear x;refine qj ?_;(first|(refine lB S rfl rfl ?_<;>refine qg ⟨⟨by (first|exact Or.inr rfl),rfl⟩,?_⟩));refine qj ?_;(first|(refine mv ?_<;>refine qg ⟨⟨by (first|exact True.intro),rfl⟩,?_⟩));refine qj ?_;(first|(refine mv ?_<;>refine qg ⟨⟨by (first|exact True.intro),rfl⟩,?_⟩));refine qj ?_;(first|(refine jv S ?_<;>refine qg ⟨⟨by (first|exact True.intro),rfl⟩,?_⟩));refine qj ?_;(first|(refine zS S ?_<;>refine qg ⟨⟨by (first|exact Or.inr (congrArg some (zn _ _ _ _))),rfl⟩,?_⟩));refine qj ?_;(first|(refine mv ?_<;>refine qg ⟨⟨by (first|exact True.intro),rfl⟩,?_⟩));refine qj ?_;(first|(refine mv ?_<;>refine qg ⟨⟨by (first|exact True.intro),rfl⟩,?_⟩));refine qj ?_;(first|(refine jv S ?_<;>refine qg ⟨⟨by (first|exact True.intro),rfl⟩,?_⟩));refine qj ?_;(first|(refine zS S ?_<;>refine qg ⟨⟨by (first|exact Or.inr (congrArg some (zn _ _ _ _))),rfl⟩,?_⟩));(skip))
     all_goals (try simp only [Int.toNat_natCast])
     all_goals (((refine qj ?_;first|refine qw rfl rfl rfl rfl rfl ((ZW S.wf t (Qc p k) (Qc p m) hB (by omega) (by omega)).mono ?_));rintro _ h ⟨⟨rfl,ha2⟩|⟨rfl,ha2⟩,x⟩)<;>((refine qg ⟨⟨True.intro,?_⟩,?_⟩;(focus ((show keepsX _ _ _ _ _;simp only [keepsX];(repeat' (first|exact True.intro|refine And.intro ?_ ?_));all_goals (intro hw;first|exact x.ext.old _ S.bB|exact x.ext.old _ (S.bX (by assumption) (by assumption) (by first|omega)))))));replace S:=S.qy x;clear x;refine qj ?_;(first|(refine vl ?_<;>refine qg ⟨⟨by (first|exact True.intro),rfl⟩,?_⟩));refine qj ?_;(first|(refine vl ?_<;>refine qg ⟨⟨by (first|exact True.intro),rfl⟩,?_⟩));refine jd ?_))
     all_goals (all_goals (repeat' (first|refine qi ?_|refine ql rfl ?_|refine qo ?_|(refine qf 10 ?_;refine mv ?_;refine qg ?_)|(refine qf 11 ?_;refine ad ?_;refine mv ?_;refine qg ?_))))
     ·refine ⟨m+1,?_,?_,(by repeat (first|exact Ks.le_nil _|refine Ks.qh rfl ?_))⟩
      ·show k - (m+1)<k - m;omega
      ·exact ⟨S,by omega,nxt g2 ⟨⟨fun _=>ho2,fun _=>ho⟩,⟨fun _=>ha2,fun _=>ha⟩⟩⟩
     ·refine qx ⟨_,rfl,?_⟩
      exact ⟨.inr ⟨rfl,fun q=>ha2 (((q k hk).2 m hm).2.1 ha)⟩,S.drop⟩
     ·refine qx ⟨_,rfl,?_⟩
      exact ⟨.inr ⟨rfl,fun q=>ha (((q k hk).2 m hm).2.2 ha2)⟩,S.drop⟩
     ·refine ⟨m+1,?_,?_,(by repeat (first|exact Ks.le_nil _|refine Ks.qh rfl ?_))⟩
      ·show k - (m+1)<k - m;omega
      ·exact ⟨S,by omega,nxt g2 ⟨⟨fun _=>ho2,fun _=>ho⟩,⟨fun q=>absurd q ha,fun q=>absurd q ha2⟩⟩⟩
    ·all_goals (repeat' (first|refine qi ?_|refine ql rfl ?_|(refine qf 10 ?_;refine mv ?_;refine qg ?_)))
     refine qx ⟨_,rfl,?_⟩
     exact ⟨.inr ⟨rfl,fun q=>ho2 (((q k hk).2 m hm).1.1 ho)⟩,S.drop⟩
    ·all_goals (repeat' (first|refine qi ?_|refine ql rfl ?_|(refine qf 10 ?_;refine mv ?_;refine qg ?_)))
     refine qx ⟨_,rfl,?_⟩
     exact ⟨.inr ⟨rfl,fun q=>ho (((q k hk).2 m hm).1.2 ho2)⟩,S.drop⟩
    ·((refine qj ?_;first|refine qw rfl rfl rfl rfl rfl ((ZW S.wf t k m hB (by omega) (by omega)).mono ?_));rintro _ h ⟨⟨rfl,ha⟩|⟨rfl,ha⟩,x⟩)<;>((refine qg ⟨⟨True.intro,?_⟩,?_⟩;(focus ((show keepsX _ _ _ _ _;simp only [keepsX];(repeat' (first|exact True.intro|refine And.intro ?_ ?_));all_goals (intro hw;first|exact x.ext.old _ S.bB|exact x.ext.old _ (S.bX (by assumption) (by assumption) (by first|omega)))))));replace S:=S.qy x;clear x;refine qj ?_;(first|(refine lB S rfl rfl ?_<;>refine qg ⟨⟨by (first|exact Or.inr rfl),rfl⟩,?_⟩));refine qj ?_;(first|(refine mv ?_<;>refine qg ⟨⟨by (first|exact True.intro),rfl⟩,?_⟩));refine qj ?_;(first|(refine mv ?_<;>refine qg ⟨⟨by (first|exact True.intro),rfl⟩,?_⟩));refine qj ?_;(first|(refine jv S ?_<;>refine qg ⟨⟨by (first|exact True.intro),rfl⟩,?_⟩));refine qj ?_;(first|(refine zS S ?_<;>refine qg ⟨⟨by (first|exact Or.inr (congrArg some (zn _ _ _ _))),rfl⟩,?_⟩));refine qj ?_;(first|(refine mv ?_<;>refine qg ⟨⟨by (first|exact True.intro),rfl⟩,?_⟩));refine qj ?_;(first|(refine mv ?_<;>refine qg ⟨⟨by (first|exact True.intro),rfl⟩,?_⟩));refine qj ?_;(first|(refine jv S ?_<;>refine qg ⟨⟨by (first|exact True.intro),rfl⟩,?_⟩));refine qj ?_;(first|(refine zS S ?_<;>refine qg ⟨⟨by (first|exact Or.inr (congrArg some (zn _ _ _ _))),rfl⟩,?_⟩));(skip))
     all_goals (try simp only [Int.toNat_natCast])
     all_goals (((refine qj ?_;first|refine qw rfl rfl rfl rfl rfl ((ZW S.wf t (Qc p k) (Qc p m) hB (by omega) (by omega)).mono ?_));rintro _ h ⟨⟨rfl,ha2⟩|⟨rfl,ha2⟩,x⟩)<;>((refine qg ⟨⟨True.intro,?_⟩,?_⟩;(focus ((show keepsX _ _ _ _ _;simp only [keepsX];(repeat' (first|exact True.intro|refine And.intro ?_ ?_));all_goals (intro hw;first|exact x.ext.old _ S.bB|exact x.ext.old _ (S.bX (by assumption) (by assumption) (by first|omega)))))));replace S:=S.qy x;clear x;refine qj ?_;(first|(refine vl ?_<;>refine qg ⟨⟨by (first|exact True.intro),rfl⟩,?_⟩));refine qj ?_;(first|(refine vl ?_<;>refine qg ⟨⟨by (first|exact True.intro),rfl⟩,?_⟩));refine jd ?_))
     all_goals (all_goals (repeat' (first|refine qi ?_|refine ql rfl ?_|refine qo ?_|(refine qf 10 ?_;refine mv ?_;refine qg ?_)|(refine qf 11 ?_;refine ad ?_;refine mv ?_;refine qg ?_))))
     ·refine ⟨m+1,?_,?_,(by repeat (first|exact Ks.le_nil _|refine Ks.qh rfl ?_))⟩
      ·show k - (m+1)<k - m;omega
      ·exact ⟨S,by omega,nxt g2 ⟨⟨fun q=>absurd q ho,fun q=>absurd q ho2⟩,⟨fun _=>ha2,fun _=>ha⟩⟩⟩
     ·refine qx ⟨_,rfl,?_⟩
      exact ⟨.inr ⟨rfl,fun q=>ha2 (((q k hk).2 m hm).2.1 ha)⟩,S.drop⟩
     ·refine qx ⟨_,rfl,?_⟩
      exact ⟨.inr ⟨rfl,fun q=>ha (((q k hk).2 m hm).2.2 ha2)⟩,S.drop⟩
     ·refine ⟨m+1,?_,?_,(by repeat (first|exact Ks.le_nil _|refine Ks.qh rfl ?_))⟩
      ·show k - (m+1)<k - m;omega
      ·exact ⟨S,by omega,nxt g2 ⟨⟨fun q=>absurd q ho,fun q=>absurd q ho2⟩,⟨fun q=>absurd q ha,fun q=>absurd q ha2⟩⟩⟩
   ·have hmk:m=k:=by omega
    subst hmk
    skip
    all_goals (repeat' (fail))
    refine ⟨m+1,?_,?_,(by repeat (first|exact Ks.le_nil _|refine Ks.qh rfl ?_))⟩
    ·show p.length - (m+1)<p.length - m;omega
    ·exact ⟨S,by omega,nxt h2 ⟨hop,g2⟩⟩
 ·skip
  all_goals (repeat' (fail))
  refine qx ⟨_,rfl,?_⟩
  exact ⟨.inl ⟨rfl,fun k hk=>h2 k (by omega)⟩,S.drop⟩
def qcW (x y:Int):Int:=if x<y then -1 else if y<x then 1 else 0
theorem qfs {h0:AH} (w:WfH h0) (x y:Int):Fn Tryz.prog Xh 115 [.int .i64 x,.int .i64 y] h0 (fun v h'=>v = .int .i64 (qcW x y)∧Hs h0 h' []):=by
 have S:=Hs.start w
 refine qF rfl Tryz.func115 rfl rfl ?_
 all_goals (repeat' (first|refine qi ?_|(refine qf 0 ?_;refine mv ?_;refine qg ?_)|(refine qf 1 ?_;refine mv ?_)))
 (refine qw rfl rfl rfl rfl rfl ((qaj S.wf x).mono ?_);rintro _ h ⟨rfl,x⟩)<;>(replace S:=S.qy x;clear x;refine mv ?_;refine qg ?_)
 all_goals (repeat' (first|refine qi ?_|(refine qf 2 ?_;refine mv ?_)))
 (refine qw rfl rfl rfl rfl rfl ((qaj S.wf y).mono ?_);rintro _ h ⟨rfl,x⟩)<;>(replace S:=S.qy x;clear x;refine mv ?_;refine qg ?_)
 all_goals (repeat' (first|refine qi ?_|refine ql rfl ?_|refine qo ?_|(refine qf 3 ?_;refine mv ?_;refine qg ?_)|(refine qf 7 ?_;refine mv ?_;refine qg ?_)|(refine qf 9 ?_;refine mv ?_;refine mv ?_;(first|(refine cS ?_ ?_<;>intro hc))<;>(refine qg ?_))|(refine qf 10 ?_;refine mv ?_;refine qg ?_)|(refine qf 11 ?_;refine mv ?_;refine mv ?_;(first|(refine cS ?_ ?_<;>intro hc))<;>(refine qg ?_))|(refine qf 12 ?_;refine mv ?_;refine qg ?_)|(refine qf 13 ?_;refine mv ?_;refine qg ?_)))
 all_goals (refine qx ⟨_,rfl,?_⟩)
 all_goals refine ⟨?_,S⟩
 ·show Value.int .i64 (-1)=_;unfold qcW;rw [if_pos (by omega)]
 ·show Value.int .i64 1=_;unfold qcW;rw [if_neg (by omega),if_pos (by omega)]
 ·show Value.int .i64 0=_;unfold qcW;rw [if_neg (by omega),if_neg (by omega)]
def Jl:List Int→List Int→Prop
 | [],[]=>False
 | [],_ :: _=>True
 | _ :: _,[]=>False
 | a :: l,b :: m=>a<b∨(a=b∧Jl l m)
theorem ZN:∀ l,¬ Jl l l
 | []=>fun h=>h
 | a :: l=>fun h=>h.elim (fun q=>by omega) fun q=>ZN l q.2
theorem Zc:∀ {a b c:List Int},Jl a b→Jl b c→Jl a c
 | [],[],_,h,_=>h.elim
 | [],_ :: _,[],_,h=>h.elim
 | [],_ :: _,_ :: _,_,_=>trivial
 | _ :: _,[],_,h,_=>h.elim
 | _ :: _,_ :: _,[],_,h=>h.elim
 | a :: l,b :: m,c :: n,h1,h2=>by
  rcases h1 with h1|⟨rfl,h1⟩<;>rcases h2 with h2|⟨rfl,h2⟩
  ·exact .inl (by omega)
  ·exact .inl h1
  ·exact .inl h2
  ·exact .inr ⟨rfl,Zc h1 h2⟩
theorem KG:∀ a b:List Int,Jl a b∨a=b∨Jl b a
 | [],[]=>.inr (.inl rfl)
 | [],_ :: _=>.inl trivial
 | _ :: _,[]=>.inr (.inr trivial)
 | a :: l,b :: m=>by
  rcases Int.lt_trichotomy a b with h|rfl|h
  ·exact .inl (.inl h)
  ·rcases KG l m with k|rfl|k
   ·exact .inl (.inr ⟨rfl,k⟩)
   ·exact .inr (.inl rfl)
   ·exact .inr (.inr (.inr ⟨rfl,k⟩))
  ·exact .inr (.inr (.inl h))
theorem qac {a b:List Int} (h:Jl a b):¬ Jl b a:=fun q=>ZN a (Zc h q)
def CmpR (d:Int) (a b:List Int):Prop:=(d<0∧Jl a b)∨(d=0∧a=b)∨(0<d∧Jl b a)
theorem drop_cons {l:List Int} {i:Nat} (h:i<l.length):l.drop i=l.getD i default :: l.drop (i+1):=by
 rw [List.drop_eq_getElem_cons h]
 simp [List.getD,h]
theorem CmpR.step {a b:List Int} {i:Nat} (hi:∀ d,CmpR d (a.drop i) (b.drop i)→CmpR d a b) (ha:i<a.length) (hb:i<b.length) (e:a.getD i default=b.getD i default):∀ d,CmpR d (a.drop (i+1)) (b.drop (i+1))→CmpR d a b:=fun d k=>hi d (by
 rw [drop_cons ha,drop_cons hb,e]
 rcases k with ⟨k1,k2⟩|⟨k1,k2⟩|⟨k1,k2⟩
 ·exact .inl ⟨k1,.inr ⟨rfl,k2⟩⟩
 ·exact .inr (.inl ⟨k1,by rw [k2]⟩)
 ·exact .inr (.inr ⟨k1,.inr ⟨rfl,k2⟩⟩))
theorem qbi {h0:AH} (w:WfH h0) (v u:Value) (a b:List Int) (hv:RdL h0 v 1 eI a) (hu:RdL h0 u 1 eI b) (ha:a.length≤1000000) (hb:b.length≤1000000):Fn Tryz.prog Xh 57 [v,u] h0 (fun r h'=>∃ d,r = .int .i64 d∧CmpR d a b∧Hs h0 h' []):=by
 have S:=Hs.start w
 refine qF rfl Tryz.func57 rfl rfl ?_
 all_goals (repeat' (first|refine qi ?_|refine qm ?_|(refine qf 0 ?_;refine mv ?_;refine qg ?_)|(refine qf 1 ?_;refine mv ?_;refine QD S ?_;refine mv ?_;refine qg ?_)))
 refine qE (σ:=Nat) (fun i h'=>Hs h0 h' []∧i≤a.length∧i≤b.length∧∀ d,CmpR d (a.drop i) (b.drop i)→CmpR d a b) (fun i=>a.length - i) (fun i=>[(0,v),(1,u),(9,v),(10,.int .i64 a.length),(11,.int .i64 i)]) 0 (by repeat (first|exact Ks.le_nil _|refine Ks.qh rfl ?_)) ?_ ?_
 ·exact ⟨S,Nat.zero_le _,Nat.zero_le _,fun d q=>q⟩
 clear S
 rintro i h ⟨S,h1,h2,h3⟩
 all_goals (repeat' (first|refine qi ?_|refine ql rfl ?_|refine qo ?_|refine qA ?_|refine qm ?_|(refine qf 2 ?_;(first|(refine cS ?_ ?_<;>intro hc))<;>(refine qg ?_))|(refine qf 3 ?_;refine mv ?_;refine jv S ?_;refine zS S ?_;refine mv ?_;refine mv ?_;refine qg ?_)|(refine qf 4 ?_;refine mv ?_;refine mv ?_;refine QD S ?_;(first|(refine cS ?_ ?_<;>intro hc))<;>(refine qg ?_))|(refine qf 5 ?_;refine mv ?_;refine qg ?_)|(refine qf 6 ?_;refine mv ?_;refine mv ?_;refine jv S ?_;refine zS S ?_;refine mv ?_;refine qg ?_)|(refine qf 7 ?_;refine mv ?_;refine mv ?_)|(refine qf 11 ?_;refine mv ?_;refine QD S ?_;refine mv ?_;refine QD S ?_;(first|(refine cS ?_ ?_<;>intro hc))<;>(refine qg ?_))|(refine qf 12 ?_;refine mv ?_;refine qg ?_)|(refine qf 13 ?_;refine mv ?_;refine qg ?_)))
 all_goals (try simp only [Int.toNat_natCast] at *)
 ·refine qx ⟨_,rfl,?_⟩
  refine ⟨1,rfl,h3 1 ?_,S⟩
  rw [drop_cons (l:=a) (by omega),List.drop_of_length_le (l:=b) (by omega)]
  exact .inr (.inr ⟨by omega,trivial⟩)
 ·(refine qw rfl rfl rfl rfl rfl ((qfs S.wf _ _).mono ?_);rintro _ h ⟨rfl,x⟩)<;>(replace S:=S.qy x;clear x;refine mv ?_;refine qg ?_)
  all_goals (repeat' (first|refine qi ?_|refine ql rfl ?_|refine qo ?_|(refine qf 8 ?_;refine mv ?_;(first|(refine cS ?_ ?_<;>intro hc))<;>(refine qg ?_))|(refine qf 9 ?_;refine mv ?_;refine mv ?_;refine qg ?_)|(refine qf 10 ?_;refine ad ?_;refine mv ?_;refine qg ?_)))
  ·refine qx ⟨_,rfl,?_⟩
   refine ⟨_,rfl,h3 _ ?_,S⟩
   rw [drop_cons (l:=a) (by omega),drop_cons (l:=b) (by omega)]
   unfold qcW at hc ⊢
   rcases Int.lt_trichotomy (a.getD i default) (b.getD i default) with q|q|q
   ·rw [if_pos q]
    exact .inl ⟨by omega,.inl q⟩
   ·rw [if_neg (by omega),if_neg (by omega)] at hc
    exact absurd rfl hc
   ·rw [if_neg (by omega),if_pos q]
    exact .inr (.inr ⟨by omega,.inl q⟩)
  ·have e:a.getD i default=b.getD i default:=by
    unfold qcW at hc
    rcases Int.lt_trichotomy (a.getD i default) (b.getD i default) with q|q|q
    ·rw [if_pos q] at hc;omega
    ·exact q
    ·rw [if_neg (by omega),if_pos q] at hc;omega
   refine ⟨i+1,?_,?_,(by repeat (first|exact Ks.le_nil _|refine Ks.qh rfl ?_))⟩
   ·show a.length - (i+1)<a.length - i;omega
   ·exact ⟨S,by omega,by omega,CmpR.step h3 (by omega) (by omega) e⟩
 all_goals have hia:i=a.length:=by omega
 ·refine qx ⟨_,rfl,?_⟩
  refine ⟨-1,rfl,h3 _ ?_,S⟩
  rw [List.drop_of_length_le (l:=a) (by omega),drop_cons (l:=b) (by omega)]
  exact .inl ⟨by omega,trivial⟩
 ·refine qx ⟨_,rfl,?_⟩
  refine ⟨0,rfl,h3 _ ?_,S⟩
  rw [List.drop_of_length_le (l:=a) (by omega),List.drop_of_length_le (l:=b) (by omega)]
  exact .inr (.inl ⟨rfl,rfl⟩)
theorem KP {h0:AH} (w:WfH h0) (v:Value) (l:List Int) (hv:RdL h0 v 1 eI l) (hl:l.length≤1000000) (f:FV) (q:Int→Prop)
 (C:∀ h i,Ext h0 h→i<l.length→(∀ j,j<i→¬ q (l.getD j default))→Fn Tryz.prog Xh f.1 (.int .i64 (l.getD i default) :: f.2.toList) h (fun r h'=>BoolIs r (q (l.getD i default))∧Hs h h' [])) :
 Fn Tryz.prog Xh 127 [v,.func (.func f.1) #[] f.2] h0 (fun r h'=>((r = .int .i64 (-1)∧∀ i,i<l.length→¬ q (l.getD i default))∨∃ i:Nat,r = .int .i64 i∧i<l.length∧q (l.getD i default))∧Hs h0 h' []):=by
 have S:=Hs.start w
 refine qF rfl Tryz.func127 rfl rfl ?_
 all_goals (repeat' (first|refine qi ?_|refine qm ?_|(refine qf 0 ?_;refine mv ?_;refine qg ?_)|(refine qf 1 ?_;refine mv ?_;refine QD S ?_;refine mv ?_;refine qg ?_)))
 refine qE (σ:=Nat) (fun i h'=>Hs h0 h' []∧i≤l.length∧∀ j,j<i→¬ q (l.getD j default)) (fun i=>l.length - i) (fun i=>[(0,v),(1,.func (.func f.1) #[] f.2),(7,.int .i64 l.length),(8,.int .i64 i)]) 0 (by repeat (first|exact Ks.le_nil _|refine Ks.qh rfl ?_)) ?_ ?_
 ·exact ⟨S,Nat.zero_le _,fun j hj=>absurd hj (Nat.not_lt_zero _)⟩
 clear S
 rintro i h ⟨S,h1,h2⟩
 all_goals (repeat' (first|refine qi ?_|refine ql rfl ?_|refine qo ?_|refine qA ?_|refine qm ?_|(refine qf 2 ?_;(first|(refine cS ?_ ?_<;>intro hc))<;>(refine qg ?_))|(refine qf 3 ?_;refine mv ?_;refine mv ?_;refine qg ?_)|(refine qf 4 ?_;(iterate 3 refine mv ?_);refine jv S ?_;refine zS S ?_)|(refine qf 7 ?_;refine mv ?_;refine qg ?_)))
 ·try simp only [Int.toNat_natCast] at *
  (refine qN rfl rfl rfl rfl ((C h i S.ext (by omega) h2).mono ?_);rintro _ h ⟨⟨rfl,hq⟩|⟨rfl,hq⟩,x⟩)<;>(replace S:=S.qy x;clear x;refine qg ?_)
  ·all_goals (repeat' (first|refine qi ?_|refine ql rfl ?_|(refine qf 5 ?_;refine mv ?_;refine mv ?_;refine qg ?_)))
   refine qx ⟨_,rfl,?_⟩
   exact ⟨.inr ⟨i,rfl,by omega,hq⟩,S⟩
  ·all_goals (repeat' (first|refine ql rfl ?_|refine qo ?_|(refine qf 6 ?_;refine ad ?_;refine mv ?_;refine qg ?_)))
   refine ⟨i+1,?_,?_,(by repeat (first|exact Ks.le_nil _|refine Ks.qh rfl ?_))⟩
   ·show l.length - (i+1)<l.length - i;omega
   ·exact ⟨S,by omega,nxt h2 hq⟩
 ·all_goals (repeat' (fail))
  refine qx ⟨_,rfl,?_⟩
  exact ⟨.inl ⟨rfl,fun j hj=>h2 j (by omega)⟩,S⟩
theorem Zy {h0:AH} (w:WfH h0) (v:Value) (l:List Int) (hv:RdL h0 v 1 eI l) (hl:l.length≤1000000) (f:FV) (q:Int→Prop)
 (C:∀ h i,Ext h0 h→i<l.length→(∀ j,j<i→¬ q (l.getD j default))→Fn Tryz.prog Xh f.1 (.int .i64 (l.getD i default) :: f.2.toList) h (fun r h'=>BoolIs r (q (l.getD i default))∧Hs h h' [])) :
 Fn Tryz.prog Xh 69 [v,.func (.func f.1) #[] f.2] h0 (fun r h'=>BoolIs r (∃ i,i<l.length∧q (l.getD i default))∧Hs h0 h' []):=by
 have S:=Hs.start w
 refine qF rfl Tryz.func69 rfl rfl ?_
 all_goals (repeat' (first|refine qi ?_|(refine qf 0 ?_;refine mv ?_;refine qg ?_)|(refine qf 1 ?_;refine mv ?_;refine mv ?_)))
 (refine qw rfl rfl rfl rfl rfl ((KP S.wf v l (hv.ext w S.ext) hl f q (fun h i x=>C h i (S.ext.trans x))).mono ?_);rintro _ h ⟨⟨rfl,hq⟩|⟨i,rfl,hi,hq⟩,x⟩)<;>(replace S:=S.qy x;clear x;(first|refine cT ?_|refine cF ?_)<;>(refine mv ?_;refine qg ?_))
 all_goals (all_goals (repeat' (fail)))
 all_goals (try omega)
 all_goals (refine qx ⟨_,rfl,?_⟩)
 ·exact ⟨.inr ⟨rfl,fun ⟨j,hj,q⟩=>hq j hj q⟩,S⟩
 ·exact ⟨.inl ⟨rfl,i,hi,hq⟩,S⟩
end Go.Proofs.Xx
