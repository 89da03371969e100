/-
  Digits;texts of lines and words;the builder of a text.
-/
import Derived.Test.YtnponmgkfkdkaaaGreatDoorM14
import Derived.Test.YtnponmgkfkdkaaaGreatDoorM11
import Derived.Test.YtnponmgkfkdkaaaGreatDoorM9
import Derived.Test.YtnponmgkfkdkaaaGreatDoorM13
set_option linter.unusedSimpArgs false
set_option linter.unusedVariables false
set_option linter.unusedSectionVars false
set_option maxRecDepth 100000
set_option maxHeartbeats 4000000
namespace Go.Proofs.Xx
open Go Go.Proofs
def Zo (n:Nat):List UInt8:=if h:n<10 then [UInt8.ofNat (48+n)] else Zo (n / 10) ++ [UInt8.ofNat (48+n % 10)]
termination_by n
decreasing_by omega
theorem VI {n:Nat} (h:n<10):Zo n=[UInt8.ofNat (48+n)]:=by rw [Zo,dif_pos h]
theorem jM {n:Nat} (h:¬ n<10):Zo n=Zo (n / 10) ++ [UInt8.ofNat (48+n % 10)]:=by rw [Zo,dif_neg h]
theorem qfx:∀ n:Nat,(Zo n).length≤n+1:=by
 intro n;induction n using Nat.strongRecOn with
 | _ n ih =>
 by_cases h:n<10
 ·rw [VI h];simp
 ·rw [jM h,zB2];have:=ih (n / 10) (by omega);simp only [zD5];omega
def d36:List UInt8:=[48,49,50,51,52,53,54,55,56,57,97,98,99,100,101,102,103,104,105,106,107,108,109,110,111,112,113,114,115,116,117,118,119,120,121,122]
def d100:List UInt8:=[48,48,48,49,48,50,48,51,48,52,48,53,48,54,48,55,48,56,48,57,49,48,49,49,49,50,49,51,49,52,49,53,49,54,49,55,49,56,49,57,50,48,50,49,50,50,50,51,50,52,50,53,50,54,50,55,50,56,50,57,51,48,51,49,51,50,51,51,51,52,51,53,51,54,51,55,51,56,51,57,52,48,52,49,52,50,52,51,52,52,52,53,52,54,52,55,52,56,52,57,53,48,53,49,53,50,53,51,53,52,53,53,53,54,53,55,53,56,53,57,54,48,54,49,54,50,54,51,54,52,54,53,54,54,54,55,54,56,54,57,55,48,55,49,55,50,55,51,55,52,55,53,55,54,55,55,55,56,55,57,56,48,56,49,56,50,56,51,56,52,56,53,56,54,56,55,56,56,56,57,57,48,57,49,57,50,57,51,57,52,57,53,57,54,57,55,57,56,57,57]
theorem qg4:∀ n,n<10→(d36.drop n).take (n+1 - n)=[UInt8.ofNat (48+n)]:=by decide +kernel
theorem qfy:∀ n,n<100→(d100.drop (n*2)).take (n*2+2 - n*2)=[UInt8.ofNat (48+n / 10)] ++ [UInt8.ofNat (48+n % 10)]:=by decide +kernel
def Zz:List (List UInt8)→List UInt8
 | []=>[]
 | [w]=>w
 | w :: u :: r=>w ++ 32 :: Zz (u :: r)
theorem PG {n:Nat}:∀ {ws:List (List UInt8)},(∀ w∈ws,w.length≤n)→(Zz ws).length≤(n+1)*ws.length
 | [],_=>by simp [Zz]
 | [w],k=>by have:=k w (by simp);simp [Zz];omega
 | w :: u :: r,k=>by
  have h1:=k w (by simp);have h2:=PG (ws:=u :: r) fun x hx=>k x (List.mem_cons_of_mem _ hx);rw [Zz,zB2,zC4,zC4 (a:=w),Nat.mul_add];omega
theorem u8t {n:Nat} (h:n<256):(UInt8.ofNat n).toNat=n:=by rw [UInt8.toNat_ofNat',Nat.mod_eq_of_lt h]
theorem Zj:∀ (k n:Nat),n<10 ^ (k+1)→(Zo n).length≤k+1
 | 0,n,h=>by rw [VI (by omega)];simp
 | k+1,n,h=>by
  by_cases q:n<10
  ·rw [VI q];simp
  ·rw [jM q,zB2,zD5];have:=Zj k (n / 10) (by rw [Nat.pow_succ] at h;omega);omega
def txt (l:List (List UInt8)):List UInt8:=(l.map (· ++ [10])).flatten
variable [Flag]
theorem qds {h0:AH} (w:WfH h0) (n:Nat) (hn:n<100):Fn Tryz.prog Xh 279 [.int .i64 n] h0 (fun v h'=>v=str (Zo n)∧Hs h0 h' []):=by
 have S:=Hs.start w;refine qA (by first|rfl) Tryz.func279 rfl rfl ?_;all_goals (repeat' (first|refine qg ?_|refine qh rfl ?_|refine qi ?_|(refine qc 0 ?_;refine mv ?_;refine qf ?_)|(refine qc 1 ?_;refine mv ?_;(first|(refine cS ?_ ?_<;>intro hc))<;>(refine qf ?_))))
 ·all_goals (repeat' (first|(refine qc 2 ?_;refine mv ?_;refine mv ?_;refine ad ?_)))
  rw [show ((n:Int)+1)=((n+1:Nat):Int) by omega];refine tsl (l:=d36) (a:=n) (b:=n+1) ?_ rfl rfl rfl rfl rfl rfl rfl rfl ⟨by omega,by rw [show d36.length=36 from rfl];omega⟩;rw [show (d36.drop n).take (n+1 - n)=Zo n by rw [VI (by omega)];exact qg4 n (by omega)];(refine mv ?_;refine qf ?_);all_goals (repeat' (fail))
  refine qj ⟨_,rfl,?_⟩;exact ⟨rfl,S⟩
 ·all_goals (repeat' (first|(refine qc 3 ?_;refine mv ?_;refine ml ?_;refine mv ?_;refine ml ?_;refine ad ?_)))
  rw [show ((n:Int)*2+2)=((n*2+2:Nat):Int) by omega,show ((n:Int)*2)=((n*2:Nat):Int) by omega];refine tsl (l:=d100) (a:=n*2) (b:=n*2+2) ?_ rfl rfl rfl rfl rfl rfl rfl rfl ⟨by omega,by rw [show d100.length=200 by decide +kernel];omega⟩;rw [show (d100.drop (n*2)).take (n*2+2 - n*2)=Zo n by rw [jM (by omega),VI (by omega)];exact qfy n hn];(refine mv ?_;refine qf ?_);all_goals (repeat' (fail))
  refine qj ⟨_,rfl,?_⟩;exact ⟨rfl,S⟩
theorem qcN:∀ (n:Nat) {h0:AH} (w:WfH h0) (hn:n≤9223372036854775807),Fn Tryz.prog Xh 115 [.int .i64 n] h0 (fun v h'=>v=str (Zo n)∧Hs h0 h' []):=by
 intro n;induction n using Nat.strongRecOn with
 | _ n ih =>
 intro h0 w hn;have S:=Hs.start w;refine qA (by first|rfl) Tryz.func115 rfl rfl ?_;all_goals (repeat' (first|refine qg ?_|refine qh rfl ?_|refine qi ?_|(refine qc 0 ?_;refine mv ?_;refine qf ?_)|(refine qc 1 ?_;refine mv ?_;(first|(refine cS ?_ ?_<;>intro hc))<;>(refine qf ?_))))
 ·all_goals (repeat' (first|(refine qc 2 ?_;refine mv ?_;refine ad ?_;refine cU ?_;(refine one 1 S ?_;clear S;intro u h S))))
  have r:zl h u 1 eU [48+n]:=by
   have:=Rd.jZ (enc:=Xw) S .here;exact this
  refine bS r ?_;(refine mv ?_;refine qf ?_);all_goals (repeat' (fail))
  refine qj ⟨_,rfl,?_⟩;rw [VI (by omega)];exact ⟨rfl,S.drop⟩
 ·(repeat (refine qg ?_));refine qae (id:=3) (j1:=7) (rd:=[(6,(0,1)),(7,(0,1)),(8,(0,1))]) (fun b1=>[none,some b1,some b1]) S (by exact HintOk.many (ks:=[3,4,5,6]) (by decide +kernel) rfl (.mv rfl rfl rfl rfl rfl (.bin (qe4 (by omega) (by omega)) rfl rfl rfl rfl rfl rfl (.bin (qbT rfl (by omega) (by omega)) rfl rfl rfl rfl rfl rfl (.cU (by omega) rfl rfl rfl rfl rfl rfl rfl .nil)))) rfl) ?_;clear S;intro b1 h S;refine qp ?_;(first|(refine mv ?_<;>refine qf ⟨⟨by (first|exact True.intro),rfl⟩,?_⟩));refine qp ?_;(first|(refine qu ?_<;>refine qf ⟨⟨by (first|exact True.intro),rfl⟩,?_⟩));rw [show ((n:Int) / 10)=((n / 10:Nat):Int) by omega];replace S:Hs h0 h (.blk b1 [.int .u8 (48+(n:Int) % 10)] 5 :: []):=S;((refine qp ?_;first|refine qm rfl rfl rfl rfl rfl ((ih (n / 10) (by omega) S.wf (by omega)).mono ?_));rintro _ h ⟨rfl,x⟩)<;>((refine qf ⟨⟨True.intro,?_⟩,?_⟩;(focus ((show keepsX _ _ _ _ _;simp only [keepsX];(repeat' (first|exact True.intro|refine And.intro ?_ ?_));all_goals (intro hw;first|exact x.ext.old _ S.bB)))));replace S:=S.qx x;clear x;refine qp ?_;(first|(refine mv ?_<;>refine qf ⟨⟨by (first|exact True.intro),rfl⟩,?_⟩));refine qp ?_;(first|(refine rm ?_<;>refine qf ⟨⟨by (first|exact True.intro),rfl⟩,?_⟩));refine qp ?_;(first|(refine ad ?_<;>refine qf ⟨⟨by (first|exact True.intro),rfl⟩,?_⟩));refine qp ?_;(first|(refine cU ?_<;>refine qf ⟨⟨by (first|exact ⟨Or.inr rfl,rfl⟩),rfl⟩,?_⟩));refine fl S rfl rfl S.gB ?_)
  have hdl:=qfx (n / 10);have hl1:([48+n % 10].map UInt8.ofNat).length=1:=rfl;have r:zl h (Qk (some 1) b1) 1 eU [48+n % 10]:=.inr ⟨b1,0,1,_,_,none,_,rfl,XW S .here,rfl⟩;refine qp ?_;refine bS r ?_;refine qf ⟨⟨by (first|exact Or.inr rfl),rfl⟩,?_⟩;(refine qp ?_;(first|(refine tc ?_<;>refine qf ⟨⟨by (first|exact True.intro),rfl⟩,?_⟩));refine qp ?_;(first|(refine mv ?_<;>refine qf ⟨⟨by (first|exact True.intro),rfl⟩,?_⟩));refine Zm ?_);all_goals (repeat' (fail))
  refine qj ⟨_,rfl,?_⟩;rw [jM (by omega)];exact ⟨rfl,S.drop⟩
theorem yJ {h0:AH} (w:WfH h0) {z:Int} (n:Nat) (hz:z=n) (hn:n≤9223372036854775807):Fn Tryz.prog Xh 115 [.int .i64 z] h0 (fun v h'=>v=str (Zo n)∧Hs h0 h' []):=by
 subst hz;exact qcN n w hn
abbrev bst (bb:Nat) (q v:Value):Rs:=.blk bb [q,v] 104
abbrev wo (v:Value) (l:List UInt8):Rs:=.sl v 5 1 eU (l.map UInt8.toNat)
def QP (bb:Nat) (q:Value):Prop:=q = .pointer none∨q = .pointer (some ⟨bb,0,none⟩)
def tlW (r:List (List UInt8)):List UInt8:=r.flatMap fun w=>32 :: w
theorem VE (w:List UInt8):∀ r:List (List UInt8),Zz (w :: r)=w ++ tlW r
 | []=>by simp [Zz,tlW]
 | u :: r=>by
  rw [Zz,VE u r];simp [tlW]
theorem GY (r:List (List UInt8)) (w:List UInt8):tlW (r ++ [w])=tlW r ++ [32] ++ w:=by simp [tlW]
theorem qdf:∀ {r:List (List UInt8)},(∀ w∈r,w.length≤1000)→(tlW r).length≤1001*r.length
 | [],_=>by simp [tlW]
 | w :: r,k=>by
  have h1:=k w (by simp);have h2:=qdf (r:=r) fun x hx=>k x (List.mem_cons_of_mem _ hx);have e:tlW (w :: r)=32 :: (w ++ tlW r):=by simp [tlW]
  rw [e,zC4,zB2,zC4];omega
theorem qdV {h0:AH} (v:Value):Fn Tryz.prog Xh 186 [v] h0 (fun r h'=>r=v∧h'=h0):=Jt rfl ⟨rfl,rfl⟩
theorem kP {h0 h:AH} {rs:List Rs} {bb:Nat} {q v:Value} (S:Hs h0 h (bst bb q v :: rs)) (hq:QP bb q):Fn Tryz.prog Xh 129 [.pointer (some ⟨bb,0,none⟩)] h (fun r h'=>Hs h0 h' (bst bb (.pointer (some ⟨bb,0,none⟩)) v :: rs)):=by
 rcases hq with rfl|rfl
 ·refine qA (by first|rfl) Tryz.func129 rfl rfl ?_;all_goals (repeat' (first|refine qg ?_|refine qh rfl ?_|(refine qc 0 ?_;refine mv ?_;refine vl ?_;refine vl ?_;refine lB S rfl rfl ?_;refine vl ?_;refine qf ?_)))
  refine qc 1 ?_;refine mv ?_;refine mv ?_;refine pU1 (b:=bb) (c:=[.pointer none,v]) (e:=104) S.gB ?_;(refine qm rfl rfl rfl rfl rfl ((qdV _).mono ?_);rintro _ h ⟨rfl,rfl⟩)<;>(refine pU2 (b:=bb) (c:=[.pointer none,v]) (e:=104) S.gB ?_ (hc:=by kernel_rfl);((refine vl ?_;refine vl ?_;(first|(refine sB S rfl rfl ?_;clear S;intro h S));refine qf ?_)))
  all_goals (repeat' (fail))
  refine ⟨_,rfl,?_⟩;exact S
 ·refine qA (by first|rfl) Tryz.func129 rfl rfl ?_;all_goals (repeat' (first|refine qg ?_|refine qh rfl ?_|(refine qc 0 ?_;refine mv ?_;refine vl ?_;refine vl ?_;refine lB S rfl rfl ?_;refine vl ?_;refine qf ?_)))
  refine qc 2 ?_;refine mv ?_;refine vl ?_;refine vl ?_;refine lB S rfl rfl ?_;refine mv ?_;refine pN ?_;refine qf ?_;all_goals (repeat' (first|refine qh rfl ?_|refine qi ?_))
  refine ⟨_,rfl,?_⟩;exact S
theorem jH {h0 h:AH} {rs:List Rs} {bb:Nat} {q v:Value} {l:List UInt8} (s:List UInt8) (S:Hs h0 h (bst bb q v :: wo v l :: rs)) (hq:QP bb q) (hl:l.length+s.length≤1000000):Fn Tryz.prog Xh 69 [.pointer (some ⟨bb,0,none⟩),str s] h
 (fun r h'=>∃ v',Hs h0 h' (bst bb (.pointer (some ⟨bb,0,none⟩)) v' :: wo v' (l ++ s) :: rs)):=by
 have hl':(l.map UInt8.toNat).length+s.length≤1000000:=by simpa using hl
 refine qA (by first|rfl) Tryz.func69 rfl rfl ?_;all_goals (repeat' (first|refine qg ?_|(refine qc 0 ?_;refine mv ?_;refine mv ?_;refine qf ?_)|(refine qc 1 ?_;refine mv ?_)))
 (refine qm rfl rfl rfl rfl rfl ((kP S hq).mono ?_);rintro _ h S2)<;>(replace S:=S2;clear S2;refine qf ?_)
 refine qg ?_;refine qc 2 ?_;refine mv ?_;refine mv ?_;refine vl ?_;refine vl ?_;refine lB S rfl rfl ?_;refine mv ?_;refine apS S rfl rfl ?_;clear S;intro v2 h S;obtain ⟨sv,rfl⟩:=(Rd.jZ S .here).KI;refine vl ?_;refine vl ?_;(first|(refine sB S rfl rfl ?_;clear S;intro h S));refine qf ?_;all_goals (repeat' (first|refine qg ?_|(refine qc 3 ?_;refine mv ?_;refine tl ?_;refine mv ?_;refine mv ?_;refine qf ?_)))
 refine qj ⟨_,rfl,?_⟩;rw [← zC9] at S;exact ⟨_,S.front (.there .here)⟩
theorem xe {h0 h:AH} {rs:List Rs} {bb:Nat} {q v:Value} {l:List UInt8} (S:Hs h0 h (bst bb q v :: wo v l :: rs)) (hl:0<l.length∧l.length≤1000000):Fn Tryz.prog Xh 71 [.pointer (some ⟨bb,0,none⟩)] h (fun r h'=>r=str l∧Hs h0 h' (bst bb q v :: rs)):=by
 have hl':(l.map UInt8.toNat).length=l.length:=by simp
 have hl2:(l.map UInt8.toNat).map UInt8.ofNat=l:=by
  rw [List.map_map];exact (List.map_congr_left fun a _=>by simp).trans (List.map_id _)
 refine qA (by first|rfl) Tryz.func71 rfl rfl ?_;all_goals (repeat' (first|refine qg ?_|(refine qc 0 ?_;refine mv ?_;refine qf ?_)))
 refine qF 1 ?_;refine mv ?_;refine vl ?_;refine vl ?_;refine lB S rfl rfl ?_;refine usd S (by omega) rfl rfl ?_;rintro b o cap rfl;refine mv ?_;refine vl ?_;refine vl ?_;refine lB S rfl rfl ?_;refine Py S rfl rfl ?_;refine uns (l:=l.map UInt8.toNat) (cap:=cap) S ⟨by omega,by omega⟩ rfl rfl ?_;clear S;intro h S;rw [hl2];refine mv ?_;refine qf ?_;all_goals (repeat' (fail))
 refine qj ⟨_,rfl,?_⟩;exact ⟨rfl,S⟩
end Go.Proofs.Xx
namespace Go.Proofs.Xx
open Go Go.Proofs
abbrev wordAt (ws:List (List UInt8)) (i:Nat):List UInt8:=ws.getD i default
def qdb:List UInt8:=[116,114,105,112]
structure Trp where
 ta:List Int
 pl:Int
 st:Int
instance:Inhabited Trp:=⟨⟨[],0,0⟩⟩
def qi2 (ws:List (List UInt8)):Prop:=4≤ws.length∧wordAt ws 0=qdb∧[] ∉ ws
open Classical in
noncomputable def trE (l:List Tab) (ws:List (List UInt8)):Int :=
 if ¬ qi2 ws then 3 else if ¬ (qcy (wordAt ws 1)∧qcy (wordAt ws 2)) then 3 else if ∃ i,3≤i∧i<ws.length∧¬ Jb l (wordAt ws i) then 6 else 0
def qi7 (l:List Tab) (ws:List (List UInt8)):Trp:=⟨(ws.drop 3).map fun n=>(tix l n:Int),qdc (wordAt ws 1),qdc (wordAt ws 2)⟩
noncomputable def psA (l:List Tab):List Trp→Nat→List (List UInt8)→List Trp×Int×Int
 | out,_,[]=>(out,0,0)
 | out,i,[w]=>if w=[] then (out,0,0) else ([],i,3)
 | out,i,w :: v :: r=>if trE l (GL 32 w)=0 then psA l (out ++ [qi7 l (GL 32 w)]) (i+1) (v :: r) else ([],i,trE l (GL 32 w))
noncomputable def qjW (l:List Tab) (s:List UInt8):List Trp×Int×Int:=if 65536<s.length then ([],0,7) else psA l [] 0 (GL 10 s)
def OkT (l:List Tab) (x:Trp):Prop:=x.ta≠[]∧(0≤x.pl∧x.pl≤999999999)∧(0≤x.st∧x.st≤999999999)∧∀ t∈x.ta,0≤t∧t<l.length
def qfX (l:List Tab) (t:Int):List UInt8:=(tb l t.toNat).name
def wsT (l:List Tab) (x:Trp):List (List UInt8):=qdb :: Zo x.pl.toNat :: Zo x.st.toNat :: x.ta.map (qfX l)
open Classical in
noncomputable def qj4 (l:List Tab) (xs:List Trp):List UInt8:=if ∀ x∈xs,OkT l x then txt (xs.map fun x=>Zz (wsT l x)) else []
theorem ValidL.nm {l:List Tab} (hv:ValidL l) {i:Nat} (hi:i<l.length):Qq (tb l i).name:=by
 have hc:=(hv.2 i hi).1;unfold chk at hc;split at hc
 ·cases hc
 ·rename_i h;exact zF3.1 h
theorem ValidL.uniq {l:List Tab} (hv:ValidL l) {i j:Nat} (hi:i<l.length) (hj:j<l.length) (e:(tb l i).name=(tb l j).name):i=j:=by
 rcases zE7 i j with q|q|q
 ·exact absurd ⟨i,q,e⟩ (hv.2 j hj).2
 ·exact q
 ·exact absurd ⟨j,q,e.symm⟩ (hv.2 i hi).2
abbrev kZ (ws:List (List UInt8)) (i:Nat):List UInt8:=ws.getD i default
def wGuest:List UInt8:=[103,117,101,115,116]
def qbo:List UInt8:=[102,114,105,101,110,100]
def qhF:List UInt8:=[102,101,117,100]
def qgd (w:List UInt8):Prop:=w=[45]∨w=[104]∨w=[97]∨w=[104,97]
instance (w:List UInt8):Decidable (qgd w):=inferInstanceAs (Decidable (_∨_))
def qao (w:List UInt8):List UInt8:=if w=[45] then [] else w
def GP (ws:List (List UInt8)):Prop:=8≤ws.length∧qcy (kZ ws 4)∧qcy (kZ ws 5)∧qgd (kZ ws 7)
def qgN (ws:List (List UInt8)):Gu:={ name:=kZ ws 1,rank:=qao (kZ ws 2),court:=qao (kZ ws 3),since:=qdc (kZ ws 4),side:=qdc (kZ ws 5),diet:=qao (kZ ws 6),host:=decide (kZ ws 7=[104]∨kZ ws 7=[104,97]),access:=decide (kZ ws 7=[97]∨kZ ws 7=[104,97]),tg:=ws.drop 8 }
open Classical in
noncomputable def qjH (r:Rl) (ws:List (List UInt8)):Rl×Int :=
 if kZ ws 0=wGuest then (if GP ws then Yx r (qgN ws) else (r,3))
 else if kZ ws 0=qbo∨kZ ws 0=qhF then (if ws.length=3 then ZN r (kZ ws 1) (kZ ws 2) (if kZ ws 0=qbo then 1 else 2) else (r,3))
 else (r,3)
def qjM:List UInt8:=[32,45,32,104,32,97,32,104,97,32]
abbrev trV (x:Tr_):Value:=.agg (eTr x).toArray
abbrev Tr_.trp (x:Tr_):Trp:=⟨x.ta,x.pl,x.st⟩
variable [Flag]
end Go.Proofs.Xx
namespace Go.Proofs.Xx
open Go Go.Proofs
section
variable {P:Program} {X:Extern} {sz:Nat} {L L':Ks} {h:AH} {ops:Array Oper} {os:List Oper} {o:Oper} {R:Ks→AH→Prop}
theorem wrap_u32 {n:Int} (h:0≤n∧n≤4294967295):IntKind.u32.wrap n=n:=Gg (by simpa [IntKind.min,IntKind.max,IntKind.signed,IntKind.bits] using h)
theorem Xf {x y:Operand} {ty ty2:TypeId} {a b:Int} (w:KO P X sz ops os L' h R) (ho:o.op = .binOp .rem ty x y ty2:=by exact rfl) (hg:qo ops L.tree o.guard=some true:=by exact rfl) (hx:kA L x=some (.int .u32 a):=by exact rfl) (hy:kA L y=some (.int .u32 b):=by exact rfl)
 (hb:0≤a∧0<b:=by omega) (hp:qG sz L o.dst (.int .u32 (a % b))=some L':=by exact rfl):KO P X sz ops (o :: os) L h R :=
 zN ho hg hx hy (by
  have h1:¬ b=0:=by omega
  have h2:a.tmod b=a % b:=Int.tmod_eq_emod_of_nonneg hb.1;simp only [jP,decide_true,decide_eq_false h1,h2]) hp w
theorem Xi {x y:Operand} {ty ty2:TypeId} {a b:Int} (w:KO P X sz ops os L' h R) (ho:o.op = .binOp .quo ty x y ty2:=by exact rfl) (hg:qo ops L.tree o.guard=some true:=by exact rfl) (hx:kA L x=some (.int .u32 a):=by exact rfl) (hy:kA L y=some (.int .u32 b):=by exact rfl)
 (hb:0≤a∧a≤4294967295∧0<b:=by omega) (hp:qG sz L o.dst (.int .u32 (a / b))=some L':=by exact rfl):KO P X sz ops (o :: os) L h R :=
 zN ho hg hx hy (by
  have h1:¬ b=0:=by omega
  have h2:a.tdiv b=a / b:=Int.tdiv_eq_ediv_of_nonneg hb.1;have h3:0≤a / b:=Int.ediv_nonneg hb.1 (by omega);have h4:a / b≤a:=Int.ediv_le_self _ hb.1;simp only [jP,decide_true,decide_eq_false h1,h2,wrap_u32 ⟨h3,(by omega:a / b≤4294967295)⟩]) hp w
theorem JH {x y:Operand} {ty ty2:TypeId} {a b:Int} (w:KO P X sz ops os L' h R) (ho:o.op = .binOp .mul ty x y ty2:=by exact rfl) (hg:qo ops L.tree o.guard=some true:=by exact rfl) (hx:kA L x=some (.int .u32 a):=by exact rfl) (hy:kA L y=some (.int .u32 b):=by exact rfl)
 (hb:0≤a*b∧a*b≤4294967295:=by omega) (hp:qG sz L o.dst (.int .u32 (a*b))=some L':=by exact rfl):KO P X sz ops (o :: os) L h R :=
 zN ho hg hx hy (by simp only [jP,decide_true,wrap_u32 hb]) hp w
theorem ZK {x y:Operand} {ty ty2:TypeId} {a b:Int} (w:KO P X sz ops os L' h R) (ho:o.op = .binOp .add ty x y ty2:=by exact rfl) (hg:qo ops L.tree o.guard=some true:=by exact rfl) (hx:kA L x=some (.int .u32 a):=by exact rfl) (hy:kA L y=some (.int .u32 b):=by exact rfl)
 (hb:0≤a+b∧a+b≤4294967295:=by omega) (hp:qG sz L o.dst (.int .u32 (a+b))=some L':=by exact rfl):KO P X sz ops (o :: os) L h R :=
 zN ho hg hx hy (by simp only [jP,decide_true,wrap_u32 hb]) hp w
theorem Gf {x:Operand} {s d:TypeId} {k1 k2:IntKind} {a:Int} (w:KO P X sz ops os L' h R) (ho:o.op = .convert s d x:=by exact rfl) (hg:qo ops L.tree o.guard=some true:=by exact rfl) (hx:kA L x=some (.int k1 a):=by exact rfl) (hs:P.underlying s=some (.int k2):=by exact rfl) (hd:P.underlying d=some (.int .u32):=by exact rfl)
 (hb:0≤a∧a≤4294967295:=by omega) (hp:qG sz L o.dst (.int .u32 a)=some L':=by exact rfl):KO P X sz ops (o :: os) L h R :=
 zo (v:=.int .u32 a) hg (by rw [ho];simp only [zX,qE hx,zY,hs,hd,wrap_u32 hb]) hp w
theorem qhW {x y:Operand} {ty ty2:TypeId} {a b:Int} (w:KO P X sz ops os L' h R) (ho:o.op = .binOp .rem ty x y ty2:=by exact rfl) (hg:qo ops L.tree o.guard=some true:=by exact rfl) (hx:kA L x=some (.int .u64 a):=by exact rfl) (hy:kA L y=some (.int .u64 b):=by exact rfl)
 (hb:0≤a∧0<b:=by omega) (hp:qG sz L o.dst (.int .u64 (a % b))=some L':=by exact rfl):KO P X sz ops (o :: os) L h R :=
 zN ho hg hx hy (by
  have h1:¬ b=0:=by omega
  have h2:a.tmod b=a % b:=Int.tmod_eq_emod_of_nonneg hb.1;simp only [jP,decide_true,decide_eq_false h1,h2]) hp w
theorem qhZ {x y:Operand} {ty ty2:TypeId} {a b:Int} (w:KO P X sz ops os L' h R) (ho:o.op = .binOp .quo ty x y ty2:=by exact rfl) (hg:qo ops L.tree o.guard=some true:=by exact rfl) (hx:kA L x=some (.int .u64 a):=by exact rfl) (hy:kA L y=some (.int .u64 b):=by exact rfl)
 (hb:0≤a∧a≤18446744073709551615∧0<b:=by omega) (hp:qG sz L o.dst (.int .u64 (a / b))=some L':=by exact rfl):KO P X sz ops (o :: os) L h R :=
 zN ho hg hx hy (by
  have h1:¬ b=0:=by omega
  have h2:a.tdiv b=a / b:=Int.tdiv_eq_ediv_of_nonneg hb.1;have h3:0≤a / b:=Int.ediv_nonneg hb.1 (by omega);have h4:a / b≤a:=Int.ediv_le_self _ hb.1;simp only [jP,decide_true,decide_eq_false h1,h2,wrap_u64 ⟨h3,(by omega:a / b≤18446744073709551615)⟩]) hp w
theorem slA {x lo hi:Operand} {vl vr:Value} {ty e' e:TypeId} {b m l r z:Nat} {c:List Value} (hb:h.get b=some (.cells c e none false))
 (w:KO P X sz ops os L' h R) (ho:o.op = .slice ty x (some lo) (some hi) none:=by exact rfl) (hg:qo ops L.tree o.guard=some true:=by exact rfl) (hx:kA L x=some (.pointer (some ⟨b,0,none⟩)):=by exact rfl)
 (h1:kA L lo=some vl:=by exact rfl) (h2:kA L hi=some vr:=by exact rfl) (b1:zi (some vl) 0=some l:=by exact rfl) (hu:P.underlying ty=some (.array m e'):=by exact rfl) (b2:zi (some vr) m=some r:=by exact rfl)
 (hc:l≤r∧r≤m∧l<m:=by omega) (hz:zI P e'=some z:=by exact rfl) (hp:qG sz L o.dst (.slice (some ⟨b,0+l*z,none⟩) (r - l) (m - l))=some L':=by exact rfl):KO P X sz ops (o :: os) L h R:=by
 refine zo (v:=.slice (some ⟨b,0+l*z,none⟩) (r - l) (m - l)) (h':=h) hg ?_ hp w;have hne:Nat.beq l m=false:=by rw [Bool.eq_false_iff];intro q;have:=zA6 q;omega
 rw [ho];simp only [zX,qE hx,jd,qE h1,qE h2,Va,zH,hu,hb,hz,b1,b2,zB3 hc.1,zB3 hc.2.1,zF9,hne,qM]
end
variable [Flag]
theorem qe7 {h0:AH} (hf:Flag.b=true) (n:Nat) (hn:1≤n∧n<18446744073709551616):Fn Tryz.prog Xh 280 [.int .u64 n] h0 (fun v h'=>v = .int .i64 (Lib.nDigits n)∧h'=h0):=by
 refine Jt (v:=.int .i64 (Lib.nDigits n)) (h':=h0) ?_ ⟨rfl,rfl⟩;show (if @Flag.b flagOn=true∧1≤(n:Int)∧(n:Int)<18446744073709551616 then some (Value.int .i64 (Lib.nDigits (n:Int).toNat),h0) else none)=_
 rw [if_pos ⟨rfl,by omega,by omega⟩,zA0]
def qjQ (l:List Value):List Value:=l ++ List.replicate (24 - l.length) (.int .u8 0)
theorem qbK:∀ k,k<100→d100.getD (k*2) 0=UInt8.ofNat (48+k / 10)∧d100.getD (k*2+1) 0=UInt8.ofNat (48+k % 10):=by decide +kernel
section
variable {P:Program} {X:Extern} {sz:Nat} {L L':Ks} {h:AH} {ops:Array Oper} {os:List Oper} {o:Oper} {R:Ks→AH→Prop}
theorem gG {x i:Operand} {ty:TypeId} {ik:IntKind} {a:Int} (k:Nat) (w:KO P X sz ops os L' h R) (ho:o.op = .index ty x i:=by exact rfl) (hg:qo ops L.tree o.guard=some true:=by exact rfl) (hx:kA L x=some (str d100):=by exact rfl) (hi:kA L i=some (.int ik a):=by exact rfl) (hu:P.underlying ty=some .string:=by exact rfl)
 (ha:a=(k:Int)*2∧k<100:=by omega) (hp:qG sz L o.dst (.int .u8 ((48+k / 10:Nat):Int))=some L':=by exact rfl):KO P X sz ops (o :: os) L h R:=by
 have e:(((d100.getD a.toNat 0).toNat:Nat):Int)=((48+k / 10:Nat):Int):=by
  rw [show a.toNat=k*2 by omega,(qbK k ha.2).1,u8t (by omega)]
 rw [← e] at hp;exact ti w ho hg hx hi hu ⟨by omega,by rw [show d100.length=200 by decide +kernel];omega⟩ hp
theorem gz {x i:Operand} {ty:TypeId} {ik:IntKind} {a:Int} (k:Nat) (w:KO P X sz ops os L' h R) (ho:o.op = .index ty x i:=by exact rfl) (hg:qo ops L.tree o.guard=some true:=by exact rfl) (hx:kA L x=some (str d100):=by exact rfl) (hi:kA L i=some (.int ik a):=by exact rfl) (hu:P.underlying ty=some .string:=by exact rfl)
 (ha:a=(k:Int)*2+1∧k<100:=by omega) (hp:qG sz L o.dst (.int .u8 ((48+k % 10:Nat):Int))=some L':=by exact rfl):KO P X sz ops (o :: os) L h R:=by
 have e:(((d100.getD a.toNat 0).toNat:Nat):Int)=((48+k % 10:Nat):Int):=by
  rw [show a.toNat=k*2+1 by omega,(qbK k ha.2).2,u8t (by omega)]
 rw [← e] at hp;exact ti w ho hg hx hi hu ⟨by omega,by rw [show d100.length=200 by decide +kernel];omega⟩ hp
end
abbrev z8 (k:Nat):List Value:=List.replicate k (.int .u8 0)
abbrev jX (k:Nat):Value:=.int .u8 ((k:Nat):Int)
theorem qgZ {h0 h:AH} {rs:List Rs} {b:Nat} (S:Hs h0 h (.blk b (z8 24) 265 :: rs)) (n:Nat) (hn:n<10 ^ 3):Fn Tryz.prog Xh 281 [.slice (some ⟨b,1,none⟩) 3 23,.int .u64 n] h
 (fun _ h'=>Hs h0 h' (.blk b (.int .u8 0 :: jX (48+(n / 100)) :: jX (48+n % 100 / 10) :: jX (48+n % 100 % 10) :: z8 20) 265 :: rs)):=by
 have hn:n<1000:=hn;refine qA (by first|rfl) Tryz.func281 rfl rfl ?_;all_goals (repeat' (first|refine qg ?_|refine ql ?_|(refine qc 0 ?_;refine mv ?_;refine vl ?_;refine mv ?_;refine qf ?_)))
 refine qB (σ:=Unit) (fun _ h'=>Hs h0 h' (.blk b (z8 24) 265 :: rs)) (fun _=>0) (fun _=>[(0,.slice (some ⟨b,1,none⟩) 3 23),(1,.int .u64 n),(4,.int .i64 3)]) () qw ?_ ?_
 ·exact S
 clear S;rintro - h S;all_goals (repeat' (first|refine qg ?_|refine qh rfl ?_|refine qi ?_|refine qy ?_|(refine qc 1 ?_;refine mv ?_;(refine cF ?_)<;>(refine qf ?_))|(refine qc 12 ?_;refine mv ?_;refine Gf ?_;refine mv ?_;refine qf ?_)|(refine qc 13 ?_;refine mv ?_;(refine cF ?_)<;>(refine qf ?_))|(refine qc 20 ?_;refine mv ?_;(refine cT ?_)<;>(refine qf ?_))|(refine qc 21 ?_;refine mv ?_;refine Xf ?_;refine JH ?_;refine mv ?_;refine qf ?_)|(refine qc 22 ?_;refine mv ?_;refine Xi ?_;refine mv ?_;refine qf ?_)))
 (repeat (refine qg ?_))
 refine qF 23 ?_;refine mv ?_;refine mv ?_;refine sb ?_;refine mv ?_;refine mv ?_;refine sb ?_;refine mv ?_;refine ZK ?_;refine gz (n % 100) ?_;refine mv ?_;refine gG (n % 100) ?_;refine vl ?_;(refine sB S rfl rfl ?_;clear S;intro h S);refine vl ?_;(refine sB S rfl rfl ?_;clear S;intro h S);refine qf ?_;all_goals (repeat' (first|refine qg ?_|refine qh rfl ?_|(refine qc 24 ?_;refine mv ?_;refine sb ?_;refine mv ?_;refine qf ?_)|(refine qc 25 ?_;refine mv ?_;(refine cT ?_)<;>(refine qf ?_))|(refine qc 26 ?_;refine mv ?_;refine mv ?_;refine ZK ?_;refine cU ?_;refine vl ?_;(first|(refine sB S rfl rfl ?_;clear S;intro h S));refine qf ?_)))
 refine ⟨_,rfl,?_⟩;exact S
theorem qiB {n:Nat} (h:100≤n∧n<1000):[48+(n / 100),48+n % 100 / 10,48+n % 100 % 10].map UInt8.ofNat=Zo n:=by
 rw [jM (show ¬ n<10 by omega)];rw [jM (show ¬ n / 10<10 by omega)];rw [VI (show n / 10 / 10<10 by omega)];rw [show 48+(n / 100)=48+n / 10 / 10 by omega];rw [show 48+n % 100 / 10=48+n / 10 % 10 by omega];rw [show 48+n % 100 % 10=48+n % 10 by omega];rfl
theorem qjl {n:Nat} (h:100≤n∧n<1000):Lib.nDigits n=3:=by
 rw [Lib.nDigits,dif_neg (by omega),Lib.nDigits,dif_neg (by omega),Lib.nDigits,dif_pos (by omega)]
theorem qgY {h0 h:AH} {rs:List Rs} {b:Nat} (S:Hs h0 h (.blk b (z8 24) 265 :: rs)) (n:Nat) (hn:n<10 ^ 4):Fn Tryz.prog Xh 281 [.slice (some ⟨b,1,none⟩) 4 23,.int .u64 n] h
 (fun _ h'=>Hs h0 h' (.blk b (.int .u8 0 :: jX (48+(n % 10000) / 100 / 10) :: jX (48+(n % 10000) / 100 % 10) :: jX (48+(n % 10000) % 100 / 10) :: jX (48+(n % 10000) % 100 % 10) :: z8 19) 265 :: rs)):=by
 have hn:n<10000:=hn;refine qA (by first|rfl) Tryz.func281 rfl rfl ?_;all_goals (repeat' (first|refine qg ?_|refine ql ?_|(refine qc 0 ?_;refine mv ?_;refine vl ?_;refine mv ?_;refine qf ?_)))
 refine qB (σ:=Unit) (fun _ h'=>Hs h0 h' (.blk b (z8 24) 265 :: rs)) (fun _=>0) (fun _=>[(0,.slice (some ⟨b,1,none⟩) 4 23),(1,.int .u64 n),(4,.int .i64 4)]) () qw ?_ ?_
 ·exact S
 clear S;rintro - h S;all_goals (repeat' (first|refine qg ?_|refine qh rfl ?_|refine qy ?_|(refine qc 1 ?_;refine mv ?_;(refine cF ?_)<;>(refine qf ?_))|(refine qc 12 ?_;refine mv ?_;refine Gf ?_;refine mv ?_;refine qf ?_)|(refine qc 13 ?_;refine mv ?_;(refine cT ?_)<;>(refine qf ?_))|(refine qc 14 ?_;refine mv ?_;refine Xf ?_;refine mv ?_;refine qf ?_)|(refine qc 15 ?_;refine mv ?_;refine Xi ?_;refine mv ?_;refine qf ?_)|(refine qc 16 ?_;refine mv ?_;refine Xi ?_;refine JH ?_;refine mv ?_;refine Xf ?_;refine JH ?_;refine mv ?_;refine mv ?_;refine qf ?_)))
 (repeat (refine qg ?_))
 refine qF 17 ?_;refine mv ?_;refine mv ?_;refine sb ?_;refine mv ?_;refine mv ?_;refine sb ?_;refine mv ?_;refine ZK ?_;refine gz (n % 10000 % 100) ?_;refine mv ?_;refine gG (n % 10000 % 100) ?_;refine vl ?_;(refine sB S rfl rfl ?_;clear S;intro h S);refine vl ?_;(refine sB S rfl rfl ?_;clear S;intro h S);refine qf ?_;(repeat (refine qg ?_));refine qF 18 ?_;refine mv ?_;refine mv ?_;refine sb ?_;refine mv ?_;refine mv ?_;refine sb ?_;refine mv ?_;refine ZK ?_;refine gz (n % 10000 / 100) ?_;refine mv ?_;refine gG (n % 10000 / 100) ?_;refine vl ?_;(refine sB S rfl rfl ?_;clear S;intro h S);refine vl ?_;(refine sB S rfl rfl ?_;clear S;intro h S);refine qf ?_;all_goals (repeat' (first|refine qg ?_|refine qh rfl ?_|refine qi ?_|(refine qc 19 ?_;refine mv ?_;refine sb ?_;refine mv ?_;refine qf ?_)|(refine qc 20 ?_;refine mv ?_;(refine cF ?_)<;>(refine qf ?_))|(refine qc 25 ?_;refine mv ?_;(refine cF ?_)<;>(refine qf ?_))))
 refine ⟨_,rfl,?_⟩;exact S
theorem qiA {n:Nat} (h:1000≤n∧n<10000):[48+(n % 10000) / 100 / 10,48+(n % 10000) / 100 % 10,48+(n % 10000) % 100 / 10,48+(n % 10000) % 100 % 10].map UInt8.ofNat=Zo n:=by
 rw [jM (show ¬ n<10 by omega)];rw [jM (show ¬ n / 10<10 by omega)];rw [jM (show ¬ n / 10 / 10<10 by omega)];rw [VI (show n / 10 / 10 / 10<10 by omega)];rw [show 48+(n % 10000) / 100 / 10=48+n / 10 / 10 / 10 by omega];rw [show 48+(n % 10000) / 100 % 10=48+n / 10 / 10 % 10 by omega];rw [show 48+(n % 10000) % 100 / 10=48+n / 10 % 10 by omega];rw [show 48+(n % 10000) % 100 % 10=48+n % 10 by omega];rfl
theorem qjk {n:Nat} (h:1000≤n∧n<10000):Lib.nDigits n=4:=by
 rw [Lib.nDigits,dif_neg (by omega),Lib.nDigits,dif_neg (by omega),Lib.nDigits,dif_neg (by omega),Lib.nDigits,dif_pos (by omega)]
theorem qgX {h0 h:AH} {rs:List Rs} {b:Nat} (S:Hs h0 h (.blk b (z8 24) 265 :: rs)) (n:Nat) (hn:n<10 ^ 5):Fn Tryz.prog Xh 281 [.slice (some ⟨b,1,none⟩) 5 23,.int .u64 n] h
 (fun _ h'=>Hs h0 h' (.blk b (.int .u8 0 :: jX (48+(n / 10000)) :: jX (48+(n % 10000) / 100 / 10) :: jX (48+(n % 10000) / 100 % 10) :: jX (48+(n % 10000) % 100 / 10) :: jX (48+(n % 10000) % 100 % 10) :: z8 18) 265 :: rs)):=by
 have hn:n<100000:=hn;refine qA (by first|rfl) Tryz.func281 rfl rfl ?_;all_goals (repeat' (first|refine qg ?_|refine ql ?_|(refine qc 0 ?_;refine mv ?_;refine vl ?_;refine mv ?_;refine qf ?_)))
 refine qB (σ:=Unit) (fun _ h'=>Hs h0 h' (.blk b (z8 24) 265 :: rs)) (fun _=>0) (fun _=>[(0,.slice (some ⟨b,1,none⟩) 5 23),(1,.int .u64 n),(4,.int .i64 5)]) () qw ?_ ?_
 ·exact S
 clear S;rintro - h S;all_goals (repeat' (first|refine qg ?_|refine qh rfl ?_|refine qy ?_|(refine qc 1 ?_;refine mv ?_;(refine cF ?_)<;>(refine qf ?_))|(refine qc 12 ?_;refine mv ?_;refine Gf ?_;refine mv ?_;refine qf ?_)|(refine qc 13 ?_;refine mv ?_;(refine cT ?_)<;>(refine qf ?_))|(refine qc 14 ?_;refine mv ?_;refine Xf ?_;refine mv ?_;refine qf ?_)|(refine qc 15 ?_;refine mv ?_;refine Xi ?_;refine mv ?_;refine qf ?_)|(refine qc 16 ?_;refine mv ?_;refine Xi ?_;refine JH ?_;refine mv ?_;refine Xf ?_;refine JH ?_;refine mv ?_;refine mv ?_;refine qf ?_)))
 (repeat (refine qg ?_))
 refine qF 17 ?_;refine mv ?_;refine mv ?_;refine sb ?_;refine mv ?_;refine mv ?_;refine sb ?_;refine mv ?_;refine ZK ?_;refine gz (n % 10000 % 100) ?_;refine mv ?_;refine gG (n % 10000 % 100) ?_;refine vl ?_;(refine sB S rfl rfl ?_;clear S;intro h S);refine vl ?_;(refine sB S rfl rfl ?_;clear S;intro h S);refine qf ?_;(repeat (refine qg ?_));refine qF 18 ?_;refine mv ?_;refine mv ?_;refine sb ?_;refine mv ?_;refine mv ?_;refine sb ?_;refine mv ?_;refine ZK ?_;refine gz (n % 10000 / 100) ?_;refine mv ?_;refine gG (n % 10000 / 100) ?_;refine vl ?_;(refine sB S rfl rfl ?_;clear S;intro h S);refine vl ?_;(refine sB S rfl rfl ?_;clear S;intro h S);refine qf ?_;all_goals (repeat' (first|refine qg ?_|refine qh rfl ?_|refine qi ?_|(refine qc 19 ?_;refine mv ?_;refine sb ?_;refine mv ?_;refine qf ?_)|(refine qc 20 ?_;refine mv ?_;(refine cF ?_)<;>(refine qf ?_))|(refine qc 25 ?_;refine mv ?_;(refine cT ?_)<;>(refine qf ?_))|(refine qc 26 ?_;refine mv ?_;refine mv ?_;refine ZK ?_;refine cU ?_;refine vl ?_;(first|(refine sB S rfl rfl ?_;clear S;intro h S));refine qf ?_)))
 refine ⟨_,rfl,?_⟩;exact S
theorem qiz {n:Nat} (h:10000≤n∧n<100000):[48+(n / 10000),48+(n % 10000) / 100 / 10,48+(n % 10000) / 100 % 10,48+(n % 10000) % 100 / 10,48+(n % 10000) % 100 % 10].map UInt8.ofNat=Zo n:=by
 rw [jM (show ¬ n<10 by omega)];rw [jM (show ¬ n / 10<10 by omega)];rw [jM (show ¬ n / 10 / 10<10 by omega)];rw [jM (show ¬ n / 10 / 10 / 10<10 by omega)];rw [VI (show n / 10 / 10 / 10 / 10<10 by omega)];rw [show 48+(n / 10000)=48+n / 10 / 10 / 10 / 10 by omega];rw [show 48+(n % 10000) / 100 / 10=48+n / 10 / 10 / 10 % 10 by omega];rw [show 48+(n % 10000) / 100 % 10=48+n / 10 / 10 % 10 by omega];rw [show 48+(n % 10000) % 100 / 10=48+n / 10 % 10 by omega];rw [show 48+(n % 10000) % 100 % 10=48+n % 10 by omega];rfl
theorem qjj {n:Nat} (h:10000≤n∧n<100000):Lib.nDigits n=5:=by
 rw [Lib.nDigits,dif_neg (by omega),Lib.nDigits,dif_neg (by omega),Lib.nDigits,dif_neg (by omega),Lib.nDigits,dif_neg (by omega),Lib.nDigits,dif_pos (by omega)]
theorem qgW {h0 h:AH} {rs:List Rs} {b:Nat} (S:Hs h0 h (.blk b (z8 24) 265 :: rs)) (n:Nat) (hn:n<10 ^ 6):Fn Tryz.prog Xh 281 [.slice (some ⟨b,1,none⟩) 6 23,.int .u64 n] h
 (fun _ h'=>Hs h0 h' (.blk b (.int .u8 0 :: jX (48+(n / 10000) % 100 / 10) :: jX (48+(n / 10000) % 100 % 10) :: jX (48+(n % 10000) / 100 / 10) :: jX (48+(n % 10000) / 100 % 10) :: jX (48+(n % 10000) % 100 / 10) :: jX (48+(n % 10000) % 100 % 10) :: z8 17) 265 :: rs)):=by
 have hn:n<1000000:=hn;refine qA (by first|rfl) Tryz.func281 rfl rfl ?_;all_goals (repeat' (first|refine qg ?_|refine ql ?_|(refine qc 0 ?_;refine mv ?_;refine vl ?_;refine mv ?_;refine qf ?_)))
 refine qB (σ:=Unit) (fun _ h'=>Hs h0 h' (.blk b (z8 24) 265 :: rs)) (fun _=>0) (fun _=>[(0,.slice (some ⟨b,1,none⟩) 6 23),(1,.int .u64 n),(4,.int .i64 6)]) () qw ?_ ?_
 ·exact S
 clear S;rintro - h S;all_goals (repeat' (first|refine qg ?_|refine qh rfl ?_|refine qy ?_|(refine qc 1 ?_;refine mv ?_;(refine cF ?_)<;>(refine qf ?_))|(refine qc 12 ?_;refine mv ?_;refine Gf ?_;refine mv ?_;refine qf ?_)|(refine qc 13 ?_;refine mv ?_;(refine cT ?_)<;>(refine qf ?_))|(refine qc 14 ?_;refine mv ?_;refine Xf ?_;refine mv ?_;refine qf ?_)|(refine qc 15 ?_;refine mv ?_;refine Xi ?_;refine mv ?_;refine qf ?_)|(refine qc 16 ?_;refine mv ?_;refine Xi ?_;refine JH ?_;refine mv ?_;refine Xf ?_;refine JH ?_;refine mv ?_;refine mv ?_;refine qf ?_)))
 (repeat (refine qg ?_))
 refine qF 17 ?_;refine mv ?_;refine mv ?_;refine sb ?_;refine mv ?_;refine mv ?_;refine sb ?_;refine mv ?_;refine ZK ?_;refine gz (n % 10000 % 100) ?_;refine mv ?_;refine gG (n % 10000 % 100) ?_;refine vl ?_;(refine sB S rfl rfl ?_;clear S;intro h S);refine vl ?_;(refine sB S rfl rfl ?_;clear S;intro h S);refine qf ?_;(repeat (refine qg ?_));refine qF 18 ?_;refine mv ?_;refine mv ?_;refine sb ?_;refine mv ?_;refine mv ?_;refine sb ?_;refine mv ?_;refine ZK ?_;refine gz (n % 10000 / 100) ?_;refine mv ?_;refine gG (n % 10000 / 100) ?_;refine vl ?_;(refine sB S rfl rfl ?_;clear S;intro h S);refine vl ?_;(refine sB S rfl rfl ?_;clear S;intro h S);refine qf ?_;all_goals (repeat' (first|refine qg ?_|refine qh rfl ?_|(refine qc 19 ?_;refine mv ?_;refine sb ?_;refine mv ?_;refine qf ?_)|(refine qc 20 ?_;refine mv ?_;(refine cT ?_)<;>(refine qf ?_))|(refine qc 21 ?_;refine mv ?_;refine Xf ?_;refine JH ?_;refine mv ?_;refine qf ?_)|(refine qc 22 ?_;refine mv ?_;refine Xi ?_;refine mv ?_;refine qf ?_)))
 (repeat (refine qg ?_))
 refine qF 23 ?_;refine mv ?_;refine mv ?_;refine sb ?_;refine mv ?_;refine mv ?_;refine sb ?_;refine mv ?_;refine ZK ?_;refine gz (n / 10000 % 100) ?_;refine mv ?_;refine gG (n / 10000 % 100) ?_;refine vl ?_;(refine sB S rfl rfl ?_;clear S;intro h S);refine vl ?_;(refine sB S rfl rfl ?_;clear S;intro h S);refine qf ?_;all_goals (repeat' (first|refine qg ?_|refine qh rfl ?_|refine qi ?_|(refine qc 24 ?_;refine mv ?_;refine sb ?_;refine mv ?_;refine qf ?_)|(refine qc 25 ?_;refine mv ?_;(refine cF ?_)<;>(refine qf ?_))))
 refine ⟨_,rfl,?_⟩;exact S
theorem qiy {n:Nat} (h:100000≤n∧n<1000000):[48+(n / 10000) % 100 / 10,48+(n / 10000) % 100 % 10,48+(n % 10000) / 100 / 10,48+(n % 10000) / 100 % 10,48+(n % 10000) % 100 / 10,48+(n % 10000) % 100 % 10].map UInt8.ofNat=Zo n:=by
 rw [jM (show ¬ n<10 by omega)];rw [jM (show ¬ n / 10<10 by omega)];rw [jM (show ¬ n / 10 / 10<10 by omega)];rw [jM (show ¬ n / 10 / 10 / 10<10 by omega)];rw [jM (show ¬ n / 10 / 10 / 10 / 10<10 by omega)];rw [VI (show n / 10 / 10 / 10 / 10 / 10<10 by omega)];rw [show 48+(n / 10000) % 100 / 10=48+n / 10 / 10 / 10 / 10 / 10 by omega];rw [show 48+(n / 10000) % 100 % 10=48+n / 10 / 10 / 10 / 10 % 10 by omega];rw [show 48+(n % 10000) / 100 / 10=48+n / 10 / 10 / 10 % 10 by omega];rw [show 48+(n % 10000) / 100 % 10=48+n / 10 / 10 % 10 by omega];rw [show 48+(n % 10000) % 100 / 10=48+n / 10 % 10 by omega];rw [show 48+(n % 10000) % 100 % 10=48+n % 10 by omega];rfl
theorem qji {n:Nat} (h:100000≤n∧n<1000000):Lib.nDigits n=6:=by
 rw [Lib.nDigits,dif_neg (by omega),Lib.nDigits,dif_neg (by omega),Lib.nDigits,dif_neg (by omega),Lib.nDigits,dif_neg (by omega),Lib.nDigits,dif_neg (by omega),Lib.nDigits,dif_pos (by omega)]
theorem qgV {h0 h:AH} {rs:List Rs} {b:Nat} (S:Hs h0 h (.blk b (z8 24) 265 :: rs)) (n:Nat) (hn:n<10 ^ 7):Fn Tryz.prog Xh 281 [.slice (some ⟨b,1,none⟩) 7 23,.int .u64 n] h
 (fun _ h'=>Hs h0 h' (.blk b (.int .u8 0 :: jX (48+((n / 10000) / 100)) :: jX (48+(n / 10000) % 100 / 10) :: jX (48+(n / 10000) % 100 % 10) :: jX (48+(n % 10000) / 100 / 10) :: jX (48+(n % 10000) / 100 % 10) :: jX (48+(n % 10000) % 100 / 10) :: jX (48+(n % 10000) % 100 % 10) :: z8 16) 265 :: rs)):=by
 have hn:n<10000000:=hn;refine qA (by first|rfl) Tryz.func281 rfl rfl ?_;all_goals (repeat' (first|refine qg ?_|refine ql ?_|(refine qc 0 ?_;refine mv ?_;refine vl ?_;refine mv ?_;refine qf ?_)))
 refine qB (σ:=Unit) (fun _ h'=>Hs h0 h' (.blk b (z8 24) 265 :: rs)) (fun _=>0) (fun _=>[(0,.slice (some ⟨b,1,none⟩) 7 23),(1,.int .u64 n),(4,.int .i64 7)]) () qw ?_ ?_
 ·exact S
 clear S;rintro - h S;all_goals (repeat' (first|refine qg ?_|refine qh rfl ?_|refine qy ?_|(refine qc 1 ?_;refine mv ?_;(refine cF ?_)<;>(refine qf ?_))|(refine qc 12 ?_;refine mv ?_;refine Gf ?_;refine mv ?_;refine qf ?_)|(refine qc 13 ?_;refine mv ?_;(refine cT ?_)<;>(refine qf ?_))|(refine qc 14 ?_;refine mv ?_;refine Xf ?_;refine mv ?_;refine qf ?_)|(refine qc 15 ?_;refine mv ?_;refine Xi ?_;refine mv ?_;refine qf ?_)|(refine qc 16 ?_;refine mv ?_;refine Xi ?_;refine JH ?_;refine mv ?_;refine Xf ?_;refine JH ?_;refine mv ?_;refine mv ?_;refine qf ?_)))
 (repeat (refine qg ?_))
 refine qF 17 ?_;refine mv ?_;refine mv ?_;refine sb ?_;refine mv ?_;refine mv ?_;refine sb ?_;refine mv ?_;refine ZK ?_;refine gz (n % 10000 % 100) ?_;refine mv ?_;refine gG (n % 10000 % 100) ?_;refine vl ?_;(refine sB S rfl rfl ?_;clear S;intro h S);refine vl ?_;(refine sB S rfl rfl ?_;clear S;intro h S);refine qf ?_;(repeat (refine qg ?_));refine qF 18 ?_;refine mv ?_;refine mv ?_;refine sb ?_;refine mv ?_;refine mv ?_;refine sb ?_;refine mv ?_;refine ZK ?_;refine gz (n % 10000 / 100) ?_;refine mv ?_;refine gG (n % 10000 / 100) ?_;refine vl ?_;(refine sB S rfl rfl ?_;clear S;intro h S);refine vl ?_;(refine sB S rfl rfl ?_;clear S;intro h S);refine qf ?_;all_goals (repeat' (first|refine qg ?_|refine qh rfl ?_|(refine qc 19 ?_;refine mv ?_;refine sb ?_;refine mv ?_;refine qf ?_)|(refine qc 20 ?_;refine mv ?_;(refine cT ?_)<;>(refine qf ?_))|(refine qc 21 ?_;refine mv ?_;refine Xf ?_;refine JH ?_;refine mv ?_;refine qf ?_)|(refine qc 22 ?_;refine mv ?_;refine Xi ?_;refine mv ?_;refine qf ?_)))
 (repeat (refine qg ?_))
 refine qF 23 ?_;refine mv ?_;refine mv ?_;refine sb ?_;refine mv ?_;refine mv ?_;refine sb ?_;refine mv ?_;refine ZK ?_;refine gz (n / 10000 % 100) ?_;refine mv ?_;refine gG (n / 10000 % 100) ?_;refine vl ?_;(refine sB S rfl rfl ?_;clear S;intro h S);refine vl ?_;(refine sB S rfl rfl ?_;clear S;intro h S);refine qf ?_;all_goals (repeat' (first|refine qg ?_|refine qh rfl ?_|(refine qc 24 ?_;refine mv ?_;refine sb ?_;refine mv ?_;refine qf ?_)|(refine qc 25 ?_;refine mv ?_;(refine cT ?_)<;>(refine qf ?_))|(refine qc 26 ?_;refine mv ?_;refine mv ?_;refine ZK ?_;refine cU ?_;refine vl ?_;(first|(refine sB S rfl rfl ?_;clear S;intro h S));refine qf ?_)))
 refine ⟨_,rfl,?_⟩;exact S
theorem qix {n:Nat} (h:1000000≤n∧n<10000000):[48+((n / 10000) / 100),48+(n / 10000) % 100 / 10,48+(n / 10000) % 100 % 10,48+(n % 10000) / 100 / 10,48+(n % 10000) / 100 % 10,48+(n % 10000) % 100 / 10,48+(n % 10000) % 100 % 10].map UInt8.ofNat=Zo n:=by
 rw [jM (show ¬ n<10 by omega)];rw [jM (show ¬ n / 10<10 by omega)];rw [jM (show ¬ n / 10 / 10<10 by omega)];rw [jM (show ¬ n / 10 / 10 / 10<10 by omega)];rw [jM (show ¬ n / 10 / 10 / 10 / 10<10 by omega)];rw [jM (show ¬ n / 10 / 10 / 10 / 10 / 10<10 by omega)];rw [VI (show n / 10 / 10 / 10 / 10 / 10 / 10<10 by omega)];rw [show 48+((n / 10000) / 100)=48+n / 10 / 10 / 10 / 10 / 10 / 10 by omega];rw [show 48+(n / 10000) % 100 / 10=48+n / 10 / 10 / 10 / 10 / 10 % 10 by omega];rw [show 48+(n / 10000) % 100 % 10=48+n / 10 / 10 / 10 / 10 % 10 by omega];rw [show 48+(n % 10000) / 100 / 10=48+n / 10 / 10 / 10 % 10 by omega];rw [show 48+(n % 10000) / 100 % 10=48+n / 10 / 10 % 10 by omega];rw [show 48+(n % 10000) % 100 / 10=48+n / 10 % 10 by omega];rw [show 48+(n % 10000) % 100 % 10=48+n % 10 by omega];rfl
theorem qjh {n:Nat} (h:1000000≤n∧n<10000000):Lib.nDigits n=7:=by
 rw [Lib.nDigits,dif_neg (by omega),Lib.nDigits,dif_neg (by omega),Lib.nDigits,dif_neg (by omega),Lib.nDigits,dif_neg (by omega),Lib.nDigits,dif_neg (by omega),Lib.nDigits,dif_neg (by omega),Lib.nDigits,dif_pos (by omega)]
theorem qgU {h0 h:AH} {rs:List Rs} {b:Nat} (S:Hs h0 h (.blk b (z8 24) 265 :: rs)) (n:Nat) (hn:n<10 ^ 8):Fn Tryz.prog Xh 281 [.slice (some ⟨b,1,none⟩) 8 23,.int .u64 n] h
 (fun _ h'=>Hs h0 h' (.blk b (.int .u8 0 :: jX (48+(n % 100000000 / 10000) / 100 / 10) :: jX (48+(n % 100000000 / 10000) / 100 % 10) :: jX (48+(n % 100000000 / 10000) % 100 / 10) :: jX (48+(n % 100000000 / 10000) % 100 % 10) :: jX (48+(n % 100000000 % 10000) / 100 / 10) :: jX (48+(n % 100000000 % 10000) / 100 % 10) :: jX (48+(n % 100000000 % 10000) % 100 / 10) :: jX (48+(n % 100000000 % 10000) % 100 % 10) :: z8 15) 265 :: rs)):=by
 have hn:n<100000000:=hn;refine qA (by first|rfl) Tryz.func281 rfl rfl ?_;all_goals (repeat' (first|refine qg ?_|refine ql ?_|(refine qc 0 ?_;refine mv ?_;refine vl ?_;refine mv ?_;refine qf ?_)))
 refine qB (σ:=Bool) (fun c h'=>Hs h0 h' (.blk b (if c then (z8 1 ++ [jX (48+(n % 100000000 / 10000) / 100 / 10),jX (48+(n % 100000000 / 10000) / 100 % 10),jX (48+(n % 100000000 / 10000) % 100 / 10),jX (48+(n % 100000000 / 10000) % 100 % 10),jX (48+(n % 100000000 % 10000) / 100 / 10),jX (48+(n % 100000000 % 10000) / 100 % 10),jX (48+(n % 100000000 % 10000) % 100 / 10),jX (48+(n % 100000000 % 10000) % 100 % 10)] ++ z8 15) else z8 24) 265 :: rs)) (fun c=>if c then 0 else 1) (fun c=>[(0,.slice (some ⟨b,1,none⟩) 8 23),(1,.int .u64 (if c then (n:Int) / 100000000 else n)),(4,.int .i64 (if c then 0 else 8))]) false qw ?_ ?_
 ·exact S
 clear S;rintro c h S;cases c
 ·replace S:Hs h0 h (.blk b (z8 24) 265 :: rs):=S;simp only [if_false,zD9,if_true];all_goals (repeat' (first|refine qg ?_|refine qh rfl ?_|refine qi ?_|refine ql ?_|(refine qc 1 ?_;refine mv ?_;(refine cT ?_)<;>(refine qf ?_))))
  (repeat (refine qg ?_));refine qc 2 ?_;refine mv ?_;refine qhW ?_;refine Gf ?_;refine mv ?_;refine qf ?_;(repeat (refine qg ?_));refine qc 3 ?_;refine mv ?_;refine qhZ ?_;refine mv ?_;refine qf ?_;all_goals (repeat' (first|refine qg ?_|(refine qc 4 ?_;refine mv ?_;refine Xi ?_;refine mv ?_;refine Xf ?_;refine mv ?_;refine mv ?_;refine qf ?_)|(refine qc 5 ?_;refine mv ?_;refine Xi ?_;refine JH ?_;refine mv ?_;refine Xf ?_;refine JH ?_;refine mv ?_;refine mv ?_;refine qf ?_)|(refine qc 6 ?_;refine mv ?_;refine Xi ?_;refine JH ?_;refine mv ?_;refine Xf ?_;refine JH ?_;refine mv ?_;refine mv ?_;refine qf ?_)))
  (repeat (refine qg ?_))
  refine qF 7 ?_;refine mv ?_;refine mv ?_;refine sb ?_;refine mv ?_;refine mv ?_;refine sb ?_;refine mv ?_;refine ZK ?_;refine gz ((n % 100000000 % 10000) % 100) ?_;refine mv ?_;refine gG ((n % 100000000 % 10000) % 100) ?_;refine vl ?_;(refine sB S rfl rfl ?_;clear S;intro h S);refine vl ?_;(refine sB S rfl rfl ?_;clear S;intro h S);refine qf ?_;(repeat (refine qg ?_));refine qF 8 ?_;refine mv ?_;refine mv ?_;refine sb ?_;refine mv ?_;refine mv ?_;refine sb ?_;refine mv ?_;refine ZK ?_;refine gz ((n % 100000000 % 10000) / 100) ?_;refine mv ?_;refine gG ((n % 100000000 % 10000) / 100) ?_;refine vl ?_;(refine sB S rfl rfl ?_;clear S;intro h S);refine vl ?_;(refine sB S rfl rfl ?_;clear S;intro h S);refine qf ?_;(repeat (refine qg ?_));refine qF 9 ?_;refine mv ?_;refine mv ?_;refine sb ?_;refine mv ?_;refine mv ?_;refine sb ?_;refine mv ?_;refine ZK ?_;refine gz ((n % 100000000 / 10000) % 100) ?_;refine mv ?_;refine gG ((n % 100000000 / 10000) % 100) ?_;refine vl ?_;(refine sB S rfl rfl ?_;clear S;intro h S);refine vl ?_;(refine sB S rfl rfl ?_;clear S;intro h S);refine qf ?_;(repeat (refine qg ?_));refine qF 10 ?_;refine mv ?_;refine mv ?_;refine sb ?_;refine mv ?_;refine mv ?_;refine sb ?_;refine mv ?_;refine ZK ?_;refine gz ((n % 100000000 / 10000) / 100) ?_;refine mv ?_;refine gG ((n % 100000000 / 10000) / 100) ?_;refine vl ?_;(refine sB S rfl rfl ?_;clear S;intro h S);refine vl ?_;(refine sB S rfl rfl ?_;clear S;intro h S);refine qf ?_;all_goals (repeat' (first|(refine qc 11 ?_;refine mv ?_;refine sb ?_;refine mv ?_;refine qf ?_)))
  refine ⟨true,?_,?_,qw⟩
  ·exact Nat.zero_lt_one
  ·exact S
 replace S:Hs h0 h (.blk b (z8 1 ++ [jX (48+(n % 100000000 / 10000) / 100 / 10),jX (48+(n % 100000000 / 10000) / 100 % 10),jX (48+(n % 100000000 / 10000) % 100 / 10),jX (48+(n % 100000000 / 10000) % 100 % 10),jX (48+(n % 100000000 % 10000) / 100 / 10),jX (48+(n % 100000000 % 10000) / 100 % 10),jX (48+(n % 100000000 % 10000) % 100 / 10),jX (48+(n % 100000000 % 10000) % 100 % 10)] ++ z8 15) 265 :: rs):=S;simp only [if_true];all_goals (repeat' (first|refine qg ?_|refine qh rfl ?_|refine qi ?_|refine qy ?_|(refine qc 1 ?_;refine mv ?_;(refine cF ?_)<;>(refine qf ?_))|(refine qc 12 ?_;refine mv ?_;refine Gf ?_;refine mv ?_;refine qf ?_)|(refine qc 13 ?_;refine mv ?_;(refine cF ?_)<;>(refine qf ?_))|(refine qc 20 ?_;refine mv ?_;(refine cF ?_)<;>(refine qf ?_))|(refine qc 25 ?_;refine mv ?_;(refine cF ?_)<;>(refine qf ?_))))
 refine ⟨_,rfl,?_⟩;exact S
theorem qiw {n:Nat} (h:10000000≤n∧n<100000000):[48+(n % 100000000 / 10000) / 100 / 10,48+(n % 100000000 / 10000) / 100 % 10,48+(n % 100000000 / 10000) % 100 / 10,48+(n % 100000000 / 10000) % 100 % 10,48+(n % 100000000 % 10000) / 100 / 10,48+(n % 100000000 % 10000) / 100 % 10,48+(n % 100000000 % 10000) % 100 / 10,48+(n % 100000000 % 10000) % 100 % 10].map UInt8.ofNat=Zo n:=by
 rw [jM (show ¬ n<10 by omega)];rw [jM (show ¬ n / 10<10 by omega)];rw [jM (show ¬ n / 10 / 10<10 by omega)];rw [jM (show ¬ n / 10 / 10 / 10<10 by omega)];rw [jM (show ¬ n / 10 / 10 / 10 / 10<10 by omega)];rw [jM (show ¬ n / 10 / 10 / 10 / 10 / 10<10 by omega)];rw [jM (show ¬ n / 10 / 10 / 10 / 10 / 10 / 10<10 by omega)];rw [VI (show n / 10 / 10 / 10 / 10 / 10 / 10 / 10<10 by omega)];rw [show 48+(n % 100000000 / 10000) / 100 / 10=48+n / 10 / 10 / 10 / 10 / 10 / 10 / 10 by omega];rw [show 48+(n % 100000000 / 10000) / 100 % 10=48+n / 10 / 10 / 10 / 10 / 10 / 10 % 10 by omega];rw [show 48+(n % 100000000 / 10000) % 100 / 10=48+n / 10 / 10 / 10 / 10 / 10 % 10 by omega];rw [show 48+(n % 100000000 / 10000) % 100 % 10=48+n / 10 / 10 / 10 / 10 % 10 by omega];rw [show 48+(n % 100000000 % 10000) / 100 / 10=48+n / 10 / 10 / 10 % 10 by omega];rw [show 48+(n % 100000000 % 10000) / 100 % 10=48+n / 10 / 10 % 10 by omega];rw [show 48+(n % 100000000 % 10000) % 100 / 10=48+n / 10 % 10 by omega];rw [show 48+(n % 100000000 % 10000) % 100 % 10=48+n % 10 by omega];rfl
theorem qjg {n:Nat} (h:10000000≤n∧n<100000000):Lib.nDigits n=8:=by
 rw [Lib.nDigits,dif_neg (by omega),Lib.nDigits,dif_neg (by omega),Lib.nDigits,dif_neg (by omega),Lib.nDigits,dif_neg (by omega),Lib.nDigits,dif_neg (by omega),Lib.nDigits,dif_neg (by omega),Lib.nDigits,dif_neg (by omega),Lib.nDigits,dif_pos (by omega)]
theorem qgT {h0 h:AH} {rs:List Rs} {b:Nat} (S:Hs h0 h (.blk b (z8 24) 265 :: rs)) (n:Nat) (hn:n<10 ^ 9):Fn Tryz.prog Xh 281 [.slice (some ⟨b,1,none⟩) 9 23,.int .u64 n] h
 (fun _ h'=>Hs h0 h' (.blk b (.int .u8 0 :: jX (48+n / 100000000) :: jX (48+(n % 100000000 / 10000) / 100 / 10) :: jX (48+(n % 100000000 / 10000) / 100 % 10) :: jX (48+(n % 100000000 / 10000) % 100 / 10) :: jX (48+(n % 100000000 / 10000) % 100 % 10) :: jX (48+(n % 100000000 % 10000) / 100 / 10) :: jX (48+(n % 100000000 % 10000) / 100 % 10) :: jX (48+(n % 100000000 % 10000) % 100 / 10) :: jX (48+(n % 100000000 % 10000) % 100 % 10) :: z8 14) 265 :: rs)):=by
 have hn:n<1000000000:=hn;refine qA (by first|rfl) Tryz.func281 rfl rfl ?_;all_goals (repeat' (first|refine qg ?_|refine ql ?_|(refine qc 0 ?_;refine mv ?_;refine vl ?_;refine mv ?_;refine qf ?_)))
 refine qB (σ:=Bool) (fun c h'=>Hs h0 h' (.blk b (if c then (z8 1 ++ z8 1 ++ [jX (48+(n % 100000000 / 10000) / 100 / 10),jX (48+(n % 100000000 / 10000) / 100 % 10),jX (48+(n % 100000000 / 10000) % 100 / 10),jX (48+(n % 100000000 / 10000) % 100 % 10),jX (48+(n % 100000000 % 10000) / 100 / 10),jX (48+(n % 100000000 % 10000) / 100 % 10),jX (48+(n % 100000000 % 10000) % 100 / 10),jX (48+(n % 100000000 % 10000) % 100 % 10)] ++ z8 14) else z8 24) 265 :: rs)) (fun c=>if c then 0 else 1) (fun c=>[(0,.slice (some ⟨b,1,none⟩) 9 23),(1,.int .u64 (if c then (n:Int) / 100000000 else n)),(4,.int .i64 (if c then 1 else 9))]) false qw ?_ ?_
 ·exact S
 clear S;rintro c h S;cases c
 ·replace S:Hs h0 h (.blk b (z8 24) 265 :: rs):=S;simp only [if_false,zD9,if_true];all_goals (repeat' (first|refine qg ?_|refine qh rfl ?_|refine qi ?_|refine ql ?_|(refine qc 1 ?_;refine mv ?_;(refine cT ?_)<;>(refine qf ?_))))
  (repeat (refine qg ?_));refine qc 2 ?_;refine mv ?_;refine qhW ?_;refine Gf ?_;refine mv ?_;refine qf ?_;(repeat (refine qg ?_));refine qc 3 ?_;refine mv ?_;refine qhZ ?_;refine mv ?_;refine qf ?_;all_goals (repeat' (first|refine qg ?_|(refine qc 4 ?_;refine mv ?_;refine Xi ?_;refine mv ?_;refine Xf ?_;refine mv ?_;refine mv ?_;refine qf ?_)|(refine qc 5 ?_;refine mv ?_;refine Xi ?_;refine JH ?_;refine mv ?_;refine Xf ?_;refine JH ?_;refine mv ?_;refine mv ?_;refine qf ?_)|(refine qc 6 ?_;refine mv ?_;refine Xi ?_;refine JH ?_;refine mv ?_;refine Xf ?_;refine JH ?_;refine mv ?_;refine mv ?_;refine qf ?_)))
  (repeat (refine qg ?_))
  refine qF 7 ?_;refine mv ?_;refine mv ?_;refine sb ?_;refine mv ?_;refine mv ?_;refine sb ?_;refine mv ?_;refine ZK ?_;refine gz ((n % 100000000 % 10000) % 100) ?_;refine mv ?_;refine gG ((n % 100000000 % 10000) % 100) ?_;refine vl ?_;(refine sB S rfl rfl ?_;clear S;intro h S);refine vl ?_;(refine sB S rfl rfl ?_;clear S;intro h S);refine qf ?_;(repeat (refine qg ?_));refine qF 8 ?_;refine mv ?_;refine mv ?_;refine sb ?_;refine mv ?_;refine mv ?_;refine sb ?_;refine mv ?_;refine ZK ?_;refine gz ((n % 100000000 % 10000) / 100) ?_;refine mv ?_;refine gG ((n % 100000000 % 10000) / 100) ?_;refine vl ?_;(refine sB S rfl rfl ?_;clear S;intro h S);refine vl ?_;(refine sB S rfl rfl ?_;clear S;intro h S);refine qf ?_;(repeat (refine qg ?_));refine qF 9 ?_;refine mv ?_;refine mv ?_;refine sb ?_;refine mv ?_;refine mv ?_;refine sb ?_;refine mv ?_;refine ZK ?_;refine gz ((n % 100000000 / 10000) % 100) ?_;refine mv ?_;refine gG ((n % 100000000 / 10000) % 100) ?_;refine vl ?_;(refine sB S rfl rfl ?_;clear S;intro h S);refine vl ?_;(refine sB S rfl rfl ?_;clear S;intro h S);refine qf ?_;(repeat (refine qg ?_));refine qF 10 ?_;refine mv ?_;refine mv ?_;refine sb ?_;refine mv ?_;refine mv ?_;refine sb ?_;refine mv ?_;refine ZK ?_;refine gz ((n % 100000000 / 10000) / 100) ?_;refine mv ?_;refine gG ((n % 100000000 / 10000) / 100) ?_;refine vl ?_;(refine sB S rfl rfl ?_;clear S;intro h S);refine vl ?_;(refine sB S rfl rfl ?_;clear S;intro h S);refine qf ?_;all_goals (repeat' (first|(refine qc 11 ?_;refine mv ?_;refine sb ?_;refine mv ?_;refine qf ?_)))
  refine ⟨true,?_,?_,qw⟩
  ·exact Nat.zero_lt_one
  ·exact S
 replace S:Hs h0 h (.blk b (z8 1 ++ z8 1 ++ [jX (48+(n % 100000000 / 10000) / 100 / 10),jX (48+(n % 100000000 / 10000) / 100 % 10),jX (48+(n % 100000000 / 10000) % 100 / 10),jX (48+(n % 100000000 / 10000) % 100 % 10),jX (48+(n % 100000000 % 10000) / 100 / 10),jX (48+(n % 100000000 % 10000) / 100 % 10),jX (48+(n % 100000000 % 10000) % 100 / 10),jX (48+(n % 100000000 % 10000) % 100 % 10)] ++ z8 14) 265 :: rs):=S;simp only [if_true];all_goals (repeat' (first|refine qg ?_|refine qh rfl ?_|refine qi ?_|refine qy ?_|(refine qc 1 ?_;refine mv ?_;(refine cF ?_)<;>(refine qf ?_))|(refine qc 12 ?_;refine mv ?_;refine Gf ?_;refine mv ?_;refine qf ?_)|(refine qc 13 ?_;refine mv ?_;(refine cF ?_)<;>(refine qf ?_))|(refine qc 20 ?_;refine mv ?_;(refine cF ?_)<;>(refine qf ?_))|(refine qc 25 ?_;refine mv ?_;(refine cT ?_)<;>(refine qf ?_))|(refine qc 26 ?_;refine mv ?_;refine mv ?_;refine ZK ?_;refine cU ?_;refine vl ?_;(first|(refine sB S rfl rfl ?_;clear S;intro h S));refine qf ?_)))
 refine ⟨_,rfl,?_⟩;exact S
theorem qiv {n:Nat} (h:100000000≤n∧n<1000000000):[48+n / 100000000,48+(n % 100000000 / 10000) / 100 / 10,48+(n % 100000000 / 10000) / 100 % 10,48+(n % 100000000 / 10000) % 100 / 10,48+(n % 100000000 / 10000) % 100 % 10,48+(n % 100000000 % 10000) / 100 / 10,48+(n % 100000000 % 10000) / 100 % 10,48+(n % 100000000 % 10000) % 100 / 10,48+(n % 100000000 % 10000) % 100 % 10].map UInt8.ofNat=Zo n:=by
 rw [jM (show ¬ n<10 by omega)];rw [jM (show ¬ n / 10<10 by omega)];rw [jM (show ¬ n / 10 / 10<10 by omega)];rw [jM (show ¬ n / 10 / 10 / 10<10 by omega)];rw [jM (show ¬ n / 10 / 10 / 10 / 10<10 by omega)];rw [jM (show ¬ n / 10 / 10 / 10 / 10 / 10<10 by omega)];rw [jM (show ¬ n / 10 / 10 / 10 / 10 / 10 / 10<10 by omega)];rw [jM (show ¬ n / 10 / 10 / 10 / 10 / 10 / 10 / 10<10 by omega)];rw [VI (show n / 10 / 10 / 10 / 10 / 10 / 10 / 10 / 10<10 by omega)];rw [show 48+n / 100000000=48+n / 10 / 10 / 10 / 10 / 10 / 10 / 10 / 10 by omega];rw [show 48+(n % 100000000 / 10000) / 100 / 10=48+n / 10 / 10 / 10 / 10 / 10 / 10 / 10 % 10 by omega];rw [show 48+(n % 100000000 / 10000) / 100 % 10=48+n / 10 / 10 / 10 / 10 / 10 / 10 % 10 by omega];rw [show 48+(n % 100000000 / 10000) % 100 / 10=48+n / 10 / 10 / 10 / 10 / 10 % 10 by omega];rw [show 48+(n % 100000000 / 10000) % 100 % 10=48+n / 10 / 10 / 10 / 10 % 10 by omega];rw [show 48+(n % 100000000 % 10000) / 100 / 10=48+n / 10 / 10 / 10 % 10 by omega];rw [show 48+(n % 100000000 % 10000) / 100 % 10=48+n / 10 / 10 % 10 by omega];rw [show 48+(n % 100000000 % 10000) % 100 / 10=48+n / 10 % 10 by omega];rw [show 48+(n % 100000000 % 10000) % 100 % 10=48+n % 10 by omega];rfl
theorem qjf {n:Nat} (h:100000000≤n∧n<1000000000):Lib.nDigits n=9:=by
 rw [Lib.nDigits,dif_neg (by omega),Lib.nDigits,dif_neg (by omega),Lib.nDigits,dif_neg (by omega),Lib.nDigits,dif_neg (by omega),Lib.nDigits,dif_neg (by omega),Lib.nDigits,dif_neg (by omega),Lib.nDigits,dif_neg (by omega),Lib.nDigits,dif_neg (by omega),Lib.nDigits,dif_pos (by omega)]
theorem qfs {h0:AH} (w:WfH h0) (hf:Flag.b=true) (n:Nat) (hn:n<1000000000):Fn Tryz.prog Xh 192 [.int .i64 n,.int .i64 10] h0 (fun v h'=>v=str (Zo n)∧Hs h0 h' []):=by
 have S:=Hs.start w;refine qA (by first|rfl) Tryz.func192 rfl rfl ?_;all_goals (repeat' (first|refine qg ?_|refine qh rfl ?_|refine qi ?_|(refine qc 0 ?_;refine mv ?_;refine qf ?_)|(refine qc 1 ?_;refine mv ?_;(refine cT ?_)<;>(refine qf ?_))|(refine qc 2 ?_;refine mv ?_;(refine cT ?_)<;>(refine mv ?_;refine mv ?_;(first|(first|(refine cS ?_ ?_<;>intro hc)))<;>(refine vl ?_;refine qf ?_)))|(refine qc 4 ?_;(refine al S ?_;clear S;intro b h S);refine qf ?_)|(refine qc 5 ?_;refine mv ?_;refine cW ?_;refine mv ?_;refine qf ?_)|(refine qc 6 ?_;refine mv ?_;(refine cF ?_)<;>(refine qf ?_))))
 ·all_goals (repeat' (first|(refine qc 3 ?_;refine mv ?_)))
  (refine qm rfl rfl rfl rfl rfl ((qds S.wf n (by omega)).mono ?_);rintro _ h ⟨rfl,x⟩)<;>(replace S:=S.qx x;clear x;refine mv ?_;refine qf ?_)
  all_goals (repeat' (fail))
  refine qj ⟨_,rfl,?_⟩;exact ⟨rfl,S⟩
 ·skip
  all_goals (repeat' (fail))
  obtain ⟨bb,hnm⟩:∃ x,x=b:=⟨_,rfl⟩;subst hnm;all_goals (repeat' (first|(refine qc 8 ?_;refine mv ?_)))
  (refine qm rfl rfl rfl rfl rfl ((qe7 hf n (by omega)).mono ?_);rintro _ h2 ⟨rfl,rfl⟩)<;>(refine mv ?_;refine qf ?_)
  rcases (show n<1000∨(1000≤n∧n<10000)∨(10000≤n∧n<100000)∨(100000≤n∧n<1000000)∨(1000000≤n∧n<10000000)∨(10000000≤n∧n<100000000)∨(100000000≤n∧n<1000000000) by omega) with q|q|q|q|q|q|q
  ·rw [qjl (by omega)];(repeat (refine qg ?_));refine qc 9 ?_;refine mv ?_;refine ad ?_;refine slA (l:=1) (r:=4) (m:=24) S.gB ?_;refine mv ?_;(refine qm rfl rfl rfl rfl rfl ((qgZ S n (by omega)).mono ?_);rintro _ h S2)<;>(replace S:=S2;clear S2;refine qf ?_)
   all_goals (repeat' (first|refine qg ?_|refine qh rfl ?_|refine qi ?_|(refine qc 10 ?_;refine mv ?_;(refine cF ?_)<;>(refine qf ?_))))
   (repeat (refine qg ?_));refine qc 13 ?_;refine mv ?_;refine ad ?_;refine slA (l:=1) (r:=4) (m:=24) S.gB ?_;have r:zl h (.slice (some ⟨bb,1,none⟩) 3 23) 1 eU [48+(n / 100),48+n % 100 / 10,48+n % 100 % 10]:=.inr ⟨bb,1,23,_,_,none,false,rfl,S.gB,rfl⟩;refine bS r ?_;rw [qiB (by omega)];refine mv ?_;refine qf ?_;all_goals (repeat' (fail))
   refine qj ⟨_,rfl,?_⟩;exact ⟨rfl,S.drop⟩
  ·rw [qjk (by omega)];(repeat (refine qg ?_));refine qc 9 ?_;refine mv ?_;refine ad ?_;refine slA (l:=1) (r:=5) (m:=24) S.gB ?_;refine mv ?_;(refine qm rfl rfl rfl rfl rfl ((qgY S n (by omega)).mono ?_);rintro _ h S2)<;>(replace S:=S2;clear S2;refine qf ?_)
   all_goals (repeat' (first|refine qg ?_|refine qh rfl ?_|refine qi ?_|(refine qc 10 ?_;refine mv ?_;(refine cF ?_)<;>(refine qf ?_))))
   (repeat (refine qg ?_));refine qc 13 ?_;refine mv ?_;refine ad ?_;refine slA (l:=1) (r:=5) (m:=24) S.gB ?_;have r:zl h (.slice (some ⟨bb,1,none⟩) 4 23) 1 eU [48+(n % 10000) / 100 / 10,48+(n % 10000) / 100 % 10,48+(n % 10000) % 100 / 10,48+(n % 10000) % 100 % 10]:=.inr ⟨bb,1,23,_,_,none,false,rfl,S.gB,rfl⟩;refine bS r ?_;rw [qiA (by omega)];refine mv ?_;refine qf ?_;all_goals (repeat' (fail))
   refine qj ⟨_,rfl,?_⟩;exact ⟨rfl,S.drop⟩
  ·rw [qjj (by omega)];(repeat (refine qg ?_));refine qc 9 ?_;refine mv ?_;refine ad ?_;refine slA (l:=1) (r:=6) (m:=24) S.gB ?_;refine mv ?_;(refine qm rfl rfl rfl rfl rfl ((qgX S n (by omega)).mono ?_);rintro _ h S2)<;>(replace S:=S2;clear S2;refine qf ?_)
   all_goals (repeat' (first|refine qg ?_|refine qh rfl ?_|refine qi ?_|(refine qc 10 ?_;refine mv ?_;(refine cF ?_)<;>(refine qf ?_))))
   (repeat (refine qg ?_));refine qc 13 ?_;refine mv ?_;refine ad ?_;refine slA (l:=1) (r:=6) (m:=24) S.gB ?_;have r:zl h (.slice (some ⟨bb,1,none⟩) 5 23) 1 eU [48+(n / 10000),48+(n % 10000) / 100 / 10,48+(n % 10000) / 100 % 10,48+(n % 10000) % 100 / 10,48+(n % 10000) % 100 % 10]:=.inr ⟨bb,1,23,_,_,none,false,rfl,S.gB,rfl⟩;refine bS r ?_;rw [qiz (by omega)];refine mv ?_;refine qf ?_;all_goals (repeat' (fail))
   refine qj ⟨_,rfl,?_⟩;exact ⟨rfl,S.drop⟩
  ·rw [qji (by omega)];(repeat (refine qg ?_));refine qc 9 ?_;refine mv ?_;refine ad ?_;refine slA (l:=1) (r:=7) (m:=24) S.gB ?_;refine mv ?_;(refine qm rfl rfl rfl rfl rfl ((qgW S n (by omega)).mono ?_);rintro _ h S2)<;>(replace S:=S2;clear S2;refine qf ?_)
   all_goals (repeat' (first|refine qg ?_|refine qh rfl ?_|refine qi ?_|(refine qc 10 ?_;refine mv ?_;(refine cF ?_)<;>(refine qf ?_))))
   (repeat (refine qg ?_));refine qc 13 ?_;refine mv ?_;refine ad ?_;refine slA (l:=1) (r:=7) (m:=24) S.gB ?_;have r:zl h (.slice (some ⟨bb,1,none⟩) 6 23) 1 eU [48+(n / 10000) % 100 / 10,48+(n / 10000) % 100 % 10,48+(n % 10000) / 100 / 10,48+(n % 10000) / 100 % 10,48+(n % 10000) % 100 / 10,48+(n % 10000) % 100 % 10]:=.inr ⟨bb,1,23,_,_,none,false,rfl,S.gB,rfl⟩;refine bS r ?_;rw [qiy (by omega)];refine mv ?_;refine qf ?_;all_goals (repeat' (fail))
   refine qj ⟨_,rfl,?_⟩;exact ⟨rfl,S.drop⟩
  ·rw [qjh (by omega)];(repeat (refine qg ?_));refine qc 9 ?_;refine mv ?_;refine ad ?_;refine slA (l:=1) (r:=8) (m:=24) S.gB ?_;refine mv ?_;(refine qm rfl rfl rfl rfl rfl ((qgV S n (by omega)).mono ?_);rintro _ h S2)<;>(replace S:=S2;clear S2;refine qf ?_)
   all_goals (repeat' (first|refine qg ?_|refine qh rfl ?_|refine qi ?_|(refine qc 10 ?_;refine mv ?_;(refine cF ?_)<;>(refine qf ?_))))
   (repeat (refine qg ?_));refine qc 13 ?_;refine mv ?_;refine ad ?_;refine slA (l:=1) (r:=8) (m:=24) S.gB ?_;have r:zl h (.slice (some ⟨bb,1,none⟩) 7 23) 1 eU [48+((n / 10000) / 100),48+(n / 10000) % 100 / 10,48+(n / 10000) % 100 % 10,48+(n % 10000) / 100 / 10,48+(n % 10000) / 100 % 10,48+(n % 10000) % 100 / 10,48+(n % 10000) % 100 % 10]:=.inr ⟨bb,1,23,_,_,none,false,rfl,S.gB,rfl⟩;refine bS r ?_;rw [qix (by omega)];refine mv ?_;refine qf ?_;all_goals (repeat' (fail))
   refine qj ⟨_,rfl,?_⟩;exact ⟨rfl,S.drop⟩
  ·rw [qjg (by omega)];(repeat (refine qg ?_));refine qc 9 ?_;refine mv ?_;refine ad ?_;refine slA (l:=1) (r:=9) (m:=24) S.gB ?_;refine mv ?_;(refine qm rfl rfl rfl rfl rfl ((qgU S n (by omega)).mono ?_);rintro _ h S2)<;>(replace S:=S2;clear S2;refine qf ?_)
   all_goals (repeat' (first|refine qg ?_|refine qh rfl ?_|refine qi ?_|(refine qc 10 ?_;refine mv ?_;(refine cF ?_)<;>(refine qf ?_))))
   (repeat (refine qg ?_));refine qc 13 ?_;refine mv ?_;refine ad ?_;refine slA (l:=1) (r:=9) (m:=24) S.gB ?_;have r:zl h (.slice (some ⟨bb,1,none⟩) 8 23) 1 eU [48+(n % 100000000 / 10000) / 100 / 10,48+(n % 100000000 / 10000) / 100 % 10,48+(n % 100000000 / 10000) % 100 / 10,48+(n % 100000000 / 10000) % 100 % 10,48+(n % 100000000 % 10000) / 100 / 10,48+(n % 100000000 % 10000) / 100 % 10,48+(n % 100000000 % 10000) % 100 / 10,48+(n % 100000000 % 10000) % 100 % 10]:=.inr ⟨bb,1,23,_,_,none,false,rfl,S.gB,rfl⟩;refine bS r ?_;rw [qiw (by omega)];refine mv ?_;refine qf ?_;all_goals (repeat' (fail))
   refine qj ⟨_,rfl,?_⟩;exact ⟨rfl,S.drop⟩
  ·rw [qjf (by omega)];(repeat (refine qg ?_));refine qc 9 ?_;refine mv ?_;refine ad ?_;refine slA (l:=1) (r:=10) (m:=24) S.gB ?_;refine mv ?_;(refine qm rfl rfl rfl rfl rfl ((qgT S n (by omega)).mono ?_);rintro _ h S2)<;>(replace S:=S2;clear S2;refine qf ?_)
   all_goals (repeat' (first|refine qg ?_|refine qh rfl ?_|refine qi ?_|(refine qc 10 ?_;refine mv ?_;(refine cF ?_)<;>(refine qf ?_))))
   (repeat (refine qg ?_));refine qc 13 ?_;refine mv ?_;refine ad ?_;refine slA (l:=1) (r:=10) (m:=24) S.gB ?_;have r:zl h (.slice (some ⟨bb,1,none⟩) 9 23) 1 eU [48+n / 100000000,48+(n % 100000000 / 10000) / 100 / 10,48+(n % 100000000 / 10000) / 100 % 10,48+(n % 100000000 / 10000) % 100 / 10,48+(n % 100000000 / 10000) % 100 % 10,48+(n % 100000000 % 10000) / 100 / 10,48+(n % 100000000 % 10000) / 100 % 10,48+(n % 100000000 % 10000) % 100 / 10,48+(n % 100000000 % 10000) % 100 % 10]:=.inr ⟨bb,1,23,_,_,none,false,rfl,S.gB,rfl⟩;refine bS r ?_;rw [qiv (by omega)];refine mv ?_;refine qf ?_;all_goals (repeat' (fail))
   refine qj ⟨_,rfl,?_⟩;exact ⟨rfl,S.drop⟩
theorem qfg {h0:AH} (w:WfH h0) (hf:Flag.b=true) (n:Nat) (hn:n<1000000000):Fn Tryz.prog Xh 80 [.int .i64 n] h0 (fun v h'=>v=str (Zo n)∧Hs h0 h' []):=by
 have S:=Hs.start w;have two:∀ {h1:AH} (w:WfH h1),Fn Tryz.prog Xh 135 [.int .i64 n] h1 (fun v h'=>v=str (Zo n)∧Hs h1 h' []):=fun {h1} w=>by
  have S:=Hs.start w;refine qA (by first|rfl) Tryz.func135 rfl rfl ?_;all_goals (repeat' (first|refine qg ?_|(refine qc 0 ?_;refine mv ?_;refine qf ?_)|(refine qc 1 ?_;refine mv ?_)))
  (refine qm rfl rfl rfl rfl rfl ((qfs S.wf hf n hn).mono ?_);rintro _ h ⟨rfl,x⟩)<;>(replace S:=S.qx x;clear x;refine mv ?_;refine qf ?_)
  all_goals (repeat' (fail))
  refine qj ⟨_,rfl,?_⟩;exact ⟨rfl,S⟩
 refine qA (by first|rfl) Tryz.func80 rfl rfl ?_;all_goals (repeat' (first|refine qg ?_|(refine qc 0 ?_;refine mv ?_;refine qf ?_)|(refine qc 1 ?_;refine mv ?_)))
 (refine qm rfl rfl rfl rfl rfl ((two S.wf).mono ?_);rintro _ h ⟨rfl,x⟩)<;>(replace S:=S.qx x;clear x;refine mv ?_;refine qf ?_)
 all_goals (repeat' (fail))
 refine qj ⟨_,rfl,?_⟩;exact ⟨rfl,S⟩
end Go.Proofs.Xx
namespace Go.Proofs.Xx
open Go Go.Proofs
abbrev trL (xs:List Tr_):List Trp:=xs.map fun x=>x.trp
theorem qd6 {ws:List (List UInt8)} (h:ws≠[]) (w:List UInt8):Zz (ws ++ [w])=Zz ws ++ [32] ++ w:=by
 match ws,h with
 | a :: r,_=>rw [zC6,VE,VE,GY];simp
def lnP (l:List Tab) (x:Trp) (j:Nat):List UInt8:=Zz (qdb :: Zo x.pl.toNat :: Zo x.st.toNat :: (x.ta.take j).map (qfX l))
def OkJ (l:List Tab) (x:Trp) (j:Nat):Prop:=x.ta≠[]∧(0≤x.pl∧x.pl≤999999999)∧(0≤x.st∧x.st≤999999999)∧∀ t∈x.ta.take j,0≤t∧t<l.length
def qjX (l:List Tab) (xs:List Trp) (i:Nat):List UInt8:=txt ((xs.take i).map fun x=>Zz (wsT l x))
variable [Flag]
theorem P5 {h0 h:AH} {rs:List Rs} {bb:Nat} {q:Value} (S:Hs h0 h (bst bb q (.slice none 0 0) :: rs)):Fn Tryz.prog Xh 71 [.pointer (some ⟨bb,0,none⟩)] h (fun r h'=>r=str []∧Hs h0 h' (bst bb q (.slice none 0 0) :: rs)):=by
 refine qA (by first|rfl) Tryz.func71 rfl rfl ?_;all_goals (repeat' (first|refine qg ?_|(refine qc 0 ?_;refine mv ?_;refine qf ?_)))
 refine qF 1 ?_;refine mv ?_;refine vl ?_;refine vl ?_;refine lB S rfl rfl ?_;refine vl ?_;refine mv ?_;refine vl ?_;refine vl ?_;refine lB S rfl rfl ?_;refine vl ?_;refine vl ?_;refine mv ?_;refine qf ?_;all_goals (repeat' (fail))
 refine qj ⟨_,rfl,?_⟩;exact ⟨rfl,S⟩
theorem PH {h0:AH} (w:WfH h0) (hf:Flag.b=true) (z:Int) (hz:0≤z∧z≤999999999):Fn Tryz.prog Xh 80 [.int .i64 z] h0 (fun v h'=>v=str (Zo z.toNat)∧Hs h0 h' []):=by
 obtain ⟨n,rfl⟩:=zH3 hz.1;exact qfg w hf n (by omega)
end Go.Proofs.Xx
namespace Go.Proofs.Xx
open Go Go.Proofs
variable [Flag]
theorem Za {h0:AH} (w:WfH h0) (v:Value) (ws:List (List UInt8)) (rv:zl h0 v 1 eS ws) (hl:ws.length≤100) (hw:∀ u∈ws,u.length≤100):Fn Tryz.prog Xh 112 [v] h0 (fun r h'=>r=str (Zz ws ++ [10])∧Hs h0 h' []):=by
 have S:=Hs.start w;have hjl:∀ i,(Zz (ws.take i)).length≤10100:=fun i=>by
  have:=PG (n:=100) (ws:=ws.take i) fun u hu=>hw u (List.mem_of_mem_take hu);have h2:(ws.take i).length≤100:=by rw [zA9];omega
  omega
 refine qA (by first|rfl) Tryz.func112 rfl rfl ?_;all_goals (repeat' (first|refine qg ?_|refine ql ?_|(refine qc 0 ?_;refine mv ?_;refine qf ?_)|(refine qc 1 ?_;refine mv ?_;refine qf ?_)|(refine qc 2 ?_;refine mv ?_;refine qf ?_)))
 refine qB (σ:=Nat) (fun i h'=>Hs h0 h' []∧i≤ws.length) (fun i=>ws.length - i) (fun i=>[(0,v),(3,str (Zz (ws.take i))),(4,.int .i64 i)]) 0 qw ?_ ?_
 ·exact ⟨S,zB0 _⟩
 clear S;rintro i h ⟨S,h1⟩;have hj:=hjl i;have hj1:=hjl (i+1);all_goals (repeat' (first|refine qg ?_|refine qh rfl ?_|refine qi ?_|refine qy ?_|refine ql ?_|(refine qc 3 ?_;refine mv ?_;refine mv ?_;refine jc S ?_;(first|(refine cS ?_ ?_<;>intro hc))<;>(refine qf ?_))|(refine qc 5 ?_;refine mv ?_;(first|(refine cS ?_ ?_<;>intro hc))<;>(refine qf ?_))))
 ·have hi:i<ws.length:=by omega
  have hx0:ws.getD (i:Int).toNat default=ws.getD i default:=rfl;have hwi:=hw _ (qK hi);have e:Zz (ws.take i) ++ [32] ++ ws.getD i default=Zz (ws.take (i+1)):=by
   rw [qY hi,qd6 fun q=>by have:=congrArg List.length q;rw [zA9,List.length_nil] at this;omega]
  all_goals (repeat' (first|(refine qc 4 ?_;refine mv ?_;refine ad ?_;refine mv ?_;refine qf ?_)|(refine qc 6 ?_;refine mv ?_;refine tc ?_;refine mv ?_;refine qf ?_)|(refine qc 7 ?_;(iterate 3 refine mv ?_);refine zT S ?_;refine zQ S ?_;refine tc ?_;refine mv ?_;refine qf ?_)))
  rw [hx0,e];refine ⟨i+1,?_,?_,qw⟩
  ·show ws.length - (i+1)<ws.length - i;omega
  ·exact ⟨S,by (try dsimp only);omega⟩
 ·have hi:i<ws.length:=by omega
  have hx0:ws.getD (i:Int).toNat default=ws.getD i default:=rfl;have hwi:=hw _ (qK hi);obtain rfl:i=0:=by omega
  have e:Zz (ws.take 0) ++ ws.getD 0 default=Zz (ws.take (0+1)):=by
   rw [qY hi];simp [Zz]
  all_goals (repeat' (first|(refine qc 4 ?_;refine mv ?_;refine ad ?_;refine mv ?_;refine qf ?_)|(refine qc 7 ?_;(iterate 3 refine mv ?_);refine zT S ?_;refine zQ S ?_;refine tc ?_;refine mv ?_;refine qf ?_)))
  rw [hx0,e];refine ⟨1,?_,?_,qw⟩
  ·show ws.length - 1<ws.length - 0;omega
  ·exact ⟨S,by (try dsimp only);omega⟩
 ·obtain rfl:i=ws.length:=by omega
  rw [zF8 (zA3 _)] at hj ⊢;all_goals (repeat' (first|(refine qc 8 ?_;refine mv ?_;refine tc ?_;refine mv ?_;refine qf ?_)))
  refine qj ⟨_,rfl,?_⟩;exact ⟨rfl,S⟩
end Go.Proofs.Xx
namespace Go.Proofs.Xx
open Go Go.Proofs
variable [Flag]
def LastT (l:List Tab) (n:List UInt8) (t:Nat) (a:Int):Prop:=(a = -1∧∀ j,j<t→(tb l j).name≠n)∨∃ m:Nat,a=m∧m<t∧(tb l m).name=n
theorem LastT.s {l:List Tab} {n:List UInt8} {t:Nat} {a:Int} (h:LastT l n t a) (ht:(tb l t).name≠n):LastT l n (t+1) a:=by
 rcases h with ⟨h1,h2⟩|⟨m,h1,h2,h3⟩
 ·exact .inl ⟨h1,Qb h2 ht⟩
 ·exact .inr ⟨m,h1,by omega,h3⟩
theorem LastT.tix {l:List Tab} (hv:ValidL l) {n:List UInt8} {a:Int} (h:LastT l n l.length a) (ha:0≤a):Jb l n∧a=(tix l n:Nat):=by
 rcases h with ⟨h1,h2⟩|⟨m,h1,h2,h3⟩
 ·omega
 ·refine ⟨⟨m,h2,h3⟩,?_⟩;rw [h1,gq h2 h3 fun j hj e=>by have:=hv.uniq (show j<l.length by omega) h2 (e.trans h3.symm);omega]
end Go.Proofs.Xx
namespace Go.Proofs.Xx
open Go Go.Proofs
section
variable {l m:List Tab} (h:l.map (·.toC)=m.map (·.toC))
include h
end
variable [Flag]
end Go.Proofs.Xx
namespace Go.Proofs.Xx
open Go Go.Proofs
variable [Flag]
end Go.Proofs.Xx
namespace Go.Proofs.Xx
open Go Go.Proofs
theorem qa4 {n:Nat} {x:Int} (h:0≤x∧x<n):PW n x=x:=if_pos h
theorem qei {n:Nat}:∀ {l:List Int},(∀ x∈l,0≤x∧x<(n:Int))→l.flatMap (eQ n)=l.flatMap eI
 | [],_=>rfl
 | x :: l,h=>by
  have e:eQ n x=eI x:=by unfold eQ;rw [qa4 (h x (by simp))];rfl
  rw [zG2,zG2,e,qei fun y hy=>h y (List.mem_cons_of_mem _ hy)]
theorem Hs.toQ {h0 h:AH} {rs:List Rs} {v:Value} {e:TypeId} {n:Nat} {l:List Int} (S:Hs h0 h (.sl v e 1 eI l :: rs)) (hl:∀ x∈l,0≤x∧x<(n:Int)):Hs h0 h (.sl v e 1 (eQ n) l :: rs):=S.conv fun fp k=>by
 rcases k with k|⟨b,o,cc,slk,cap,k1,k2,k3,k4,k5⟩
 ·exact .inl k
 ·exact .inr ⟨b,o,cc,slk,cap,k1,k2,k3,by rw [qei hl];exact k4,k5⟩
theorem Hs.ofQ {h0 h:AH} {rs:List Rs} {v:Value} {e:TypeId} {n:Nat} {l:List Int} (S:Hs h0 h (.sl v e 1 (eQ n) l :: rs)) (hl:∀ x∈l,0≤x∧x<(n:Int)):Hs h0 h (.sl v e 1 eI l :: rs):=S.conv fun fp k=>by
 rcases k with k|⟨b,o,cc,slk,cap,k1,k2,k3,k4,k5⟩
 ·exact .inl k
 ·exact .inr ⟨b,o,cc,slk,cap,k1,k2,k3,by rw [qei hl] at k4;exact k4,k5⟩
def Ju (n:Nat):List Int:=(List.range n).map Int.ofNat
theorem qdd (n:Nat):Ju (n+1)=Ju n ++ [(n:Int)]:=by unfold Ju;rw [List.range_succ,zC9];rfl
theorem Yh {n:Nat} {x:Int} (h:x∈Ju n):0≤x∧x<(n:Int):=by
 obtain ⟨k,hk,rfl⟩:=zF1.1 h;have:=zE3.1 hk;exact ⟨Int.natCast_nonneg _,by show (k:Int)<n;omega⟩
theorem XF (n:Nat):(Ju n).length=n:=by unfold Ju;simp
variable [Flag]
theorem wJ {h0:AH} (w:WfH h0) (pv:PbV) (p:Pb) (H:PbOk h0 pv p) (hn:p.us.length≤64) {g:Nat} {cap:List Value} {key:Int→Int} [C:CmpK h0 g cap p.us.length key] :
 Fn Tryz.prog Xh 67 [pv.val,Zk g cap] h0 (fun u h'=>∃ l:List Int,Sw 0 p.us.length (Ju p.us.length) l∧Srt (jG p.us.length key) 0 p.us.length l∧Hs h0 h' [.sl u 3 1 eI l]):=by
 have S:=Hs.start w;have h2:=H.rol.rg;have e2:pv.rl.gs.length=p.us.length:=H.rol.len;have e3:pv.gs.length=p.us.length:=H.rol.len;unfold PbV.val;refine qA (by first|rfl) Tryz.func67 rfl rfl ?_;all_goals (repeat' (first|refine qg ?_|refine ql ?_|(refine qc 0 ?_;(refine bx S ?_;clear S;intro b h S);refine mv ?_;refine qf ?_)|(refine qc 1 ?_;refine mv ?_;refine qf ?_)|(refine qc 2 ?_;refine vl ?_;refine lB S rfl rfl ?_;refine jc S ?_;refine mv ?_;refine qf ?_)))
 obtain ⟨b2,hnm⟩:∃ x,x=b:=⟨_,rfl⟩;subst hnm;replace S:Hs h0 h [.sl (.slice none 0 0) 3 1 eI [],.blk b2 pv.cs 28]:=S.ZF;refine qB (σ:=Nat×Value) (fun (i,vo) h'=>Hs h0 h' [.sl vo 3 1 eI (Ju i),.blk b2 pv.cs 28]∧i≤p.us.length) (fun (i,vo)=>p.us.length - i) (fun (i,vo)=>[(1,Zk g cap),(2,.pointer (some ⟨b2,0,none⟩)),(5,vo),(9,.int .i64 p.us.length),(10,.int .i64 i)]) (0,.slice none 0 0) qw ?_ ?_
 ·exact ⟨S,zB0 _⟩
 clear S;rintro ⟨i,vo⟩ h ⟨S,g1⟩;have hul:=XF i;all_goals (repeat' (first|refine qg ?_|refine qh rfl ?_|refine qi ?_|refine qy ?_|refine ql ?_|(refine qc 3 ?_;(first|(refine cS ?_ ?_<;>intro hc))<;>(refine qf ?_))))
 ·all_goals (repeat' (first|(refine qc 4 ?_;refine mv ?_;refine mv ?_;refine qf ?_)|(refine qc 5 ?_;refine mv ?_;refine mv ?_;(refine one 1 S ?_;clear S;intro u h S))))
  refine app (y0:=(i:Int)) S rfl rfl ?_;clear S;intro v h S;refine mv ?_;refine qf ?_;all_goals (repeat' (first|(refine qc 6 ?_;refine ad ?_;refine mv ?_;refine qf ?_)))
  refine ⟨(i+1,v),?_,?_,qw⟩
  ·show p.us.length - (i+1)<p.us.length - i;omega
  ·exact ⟨by rw [qdd];exact S,by (try dsimp only);omega⟩
 ·obtain rfl:i=p.us.length:=by omega
  have S:=S.toQ (n:=p.us.length) fun x hx=>Yh hx;all_goals (repeat' (first|(refine qc 7 ?_;refine mv ?_;refine mv ?_)))
  (refine qm rfl rfl rfl rfl rfl ((qgr S (by omega)).mono ?_);rintro _ h ⟨l,k1,k2,S2⟩)<;>(replace S:=S2;clear S2;refine qf ?_)
  rw [hul] at k1 k2;have hin:∀ x∈l,0≤x∧x<(p.us.length:Int):=fun x hx=>Yh (k1.perm.mem_iff.1 hx);have S:=S.ofQ hin;all_goals (repeat' (first|refine qg ?_|(refine qc 8 ?_;refine mv ?_;refine mv ?_;refine qf ?_)))
  refine qj ⟨_,rfl,?_⟩;exact ⟨l,k1,k2,S.only .here⟩
end Go.Proofs.Xx
namespace Go.Proofs.Xx
open Go Go.Proofs
theorem qbM {n:Nat} (hn:0<n) (x:Int):0≤PW n x∧PW n x<n:=by
 unfold PW;split
 ·assumption
 ·omega
variable [Flag]
theorem qa7 {h0:AH} {b:Nat} {vq:Value} {q:List Int} {n:Nat} (hb:h0.get b=some (.cells [vq] 25 none false)) (rq:zl h0 vq 1 eI q) (hw:WfH h0) (hq:q.length=n) (hn:0<n) (hqb:∀ i,i<q.length→-1≤q.getD i default∧q.getD i default≤1000000) (hq6:n≤1000000) :
 CmpK h0 72 [.pointer (some ⟨b,0,none⟩)] n (fun x=>q.getD x.toNat default):=by
 refine ⟨fun {h} e w x y=>?_⟩;have S:=Hs.start w;have g:=e.get hw hb;have r:=rq.ext hw e;have bx:=qbM hn x;have by_:=qbM hn y;have k1:=hqb (PW n x).toNat (by omega);have k2:=hqb (PW n y).toNat (by omega);refine qA (by first|rfl|exact KX.no _ _ _ (by decide) rfl) Tryz.func72 rfl rfl ?_;all_goals (repeat' (first|refine qg ?_|refine qh rfl ?_|refine qi ?_|refine qy ?_|refine ql ?_|refine jD ?_|refine jE ?_|(refine qc 0 ?_;refine mv ?_;refine qf ?_)|(refine qF 1 ?_;(first|refine lB S rfl rfl ?_|refine zu S rfl rfl ?_|refine zQ S ?_|refine lH S ?_);refine mv ?_;(first|refine zT S ?_|refine qR S rfl rfl ?_);(first|refine lB S rfl rfl ?_|refine zu S rfl rfl ?_|refine zQ S ?_|refine lH S ?_);(first|refine lB S rfl rfl ?_|refine zu S rfl rfl ?_|refine zQ S ?_|refine lH S ?_);refine mv ?_;(first|refine zT S ?_|refine qR S rfl rfl ?_);(first|refine lB S rfl rfl ?_|refine zu S rfl rfl ?_|refine zQ S ?_|refine lH S ?_);(first|refine sb ?_|refine vl ?_);refine mv ?_;refine qf ?_)))
 refine qj ⟨_,rfl,?_⟩;unfold jG;rcases Int.lt_or_le (q.getD (PW n x).toNat default) (q.getD (PW n y).toNat default) with z|z
 ·exact ⟨_,rfl,.inl ⟨by omega,z⟩,S⟩
 ·exact ⟨_,rfl,.inr ⟨by omega,(show ¬ q.getD (PW n x).toNat default<q.getD (PW n y).toNat default by omega)⟩,S⟩
end Go.Proofs.Xx
namespace Go.Proofs.Xx
open Go Go.Proofs
noncomputable def xO (nm:Nat→List UInt8) (n:Nat) (x:Int):Int:=by
 classical exact ((((List.range n).filter fun j=>decide (jv (nm j) (nm x.toNat))).length:Nat):Int)
theorem pV {nm:Nat→List UInt8} {n:Nat} {x y:Int} (hx:0≤x∧x<n) (hy:0≤y∧y<n):xO nm n x<xO nm n y↔jv (nm x.toNat) (nm y.toNat):=by
 classical
 have mono:∀ a b:Nat,a<n→jv (nm a) (nm b)→((List.range n).filter fun j=>decide (jv (nm j) (nm a))).length<((List.range n).filter fun j=>decide (jv (nm j) (nm b))).length:=fun a b ha h=>by
  have key:∀ l:List Nat,((l.filter fun j=>decide (jv (nm j) (nm a))).length≤(l.filter fun j=>decide (jv (nm j) (nm b))).length)∧(a∈l→(l.filter fun j=>decide (jv (nm j) (nm a))).length<(l.filter fun j=>decide (jv (nm j) (nm b))).length):=by
   intro l;induction l with
   | nil=>exact ⟨zA3 _,fun q=>by cases q⟩
   | cons j l ih =>
    rw [zD8,zD8];by_cases q1:jv (nm j) (nm a)
    ·have q2:jv (nm j) (nm b):=Qj q1 h;rw [if_pos (by simpa using q1),if_pos (by simpa using q2)];simp only [zC4];refine ⟨by omega,fun m=>?_⟩;rcases zE8.1 m with rfl|m
     ·exact absurd q1 (zG _)
     ·have:=ih.2 m;omega
    ·rw [if_neg (by simpa using q1)];by_cases q2:jv (nm j) (nm b)
     ·rw [if_pos (by simpa using q2)];simp only [zC4];exact ⟨by omega,fun m=>by omega⟩
     ·rw [if_neg (by simpa using q2)];refine ⟨ih.1,fun m=>?_⟩;rcases zE8.1 m with rfl|m
      ·exact absurd h q2
      ·exact ih.2 m
  exact (key _).2 (zE3.2 ha)
 have hx':x.toNat<n:=by omega
 have hy':y.toNat<n:=by omega
 constructor
 ·intro h;rcases ZQ (nm x.toNat) (nm y.toNat) with q|q|q
  ·exact q
  ·unfold xO at h;rw [q] at h;exact absurd h (Int.lt_irrefl _)
  ·have:=mono _ _ hy' q;unfold xO at h;omega
 ·intro h;have:=mono _ _ hx' h;unfold xO;omega
variable [Flag]
theorem kw {h0:AH} (w:WfH h0) (x:List UInt8):Fn Tryz.prog Xh 126 [str x] h0 (fun v h'=>v = .bool false∧Hs h0 h' []):=by
 have S:=Hs.start w;refine qA (by first|rfl) Tryz.func126 rfl rfl ?_;all_goals (repeat' (first|refine qg ?_|(refine qc 0 ?_;refine mv ?_;refine qf ?_)|(refine qc 1 ?_;refine mv ?_;refine mv ?_;(refine tS ?_ ?_<;>intro hc)<;>(refine mv ?_;refine qf ?_))))
 all_goals first|exact absurd rfl (by assumption)|skip
 refine qj ⟨_,rfl,?_⟩;exact ⟨rfl,S⟩
theorem qfE {h0:AH} (w:WfH h0) (x y:List UInt8):Fn Tryz.prog Xh 62 [str x,str y] h0 (fun v h'=>∃ d,v = .int .i64 d∧((d<0∧jv x y)∨(0≤d∧¬ jv x y))∧Hs h0 h' []):=by
 have S:=Hs.start w;refine qA (by first|rfl) Tryz.func62 rfl rfl ?_;all_goals (repeat' (first|refine qg ?_|(refine qc 0 ?_;refine mv ?_;refine qf ?_)|(refine qc 1 ?_;refine mv ?_)))
 (refine qm rfl rfl rfl rfl rfl ((kw S.wf x).mono ?_);rintro _ h ⟨rfl,x_⟩)<;>(replace S:=S.qx x_;clear x_;refine mv ?_;refine qf ?_)
 all_goals (repeat' (first|refine qg ?_|(refine qc 2 ?_;refine mv ?_)))
 (refine qm rfl rfl rfl rfl rfl ((kw S.wf y).mono ?_);rintro _ h ⟨rfl,x_⟩)<;>(replace S:=S.qx x_;clear x_;refine mv ?_;refine qf ?_)
 all_goals (repeat' (first|refine qg ?_|refine qh rfl ?_|refine qi ?_|(refine qc 3 ?_;refine mv ?_;refine qf ?_)|(refine qc 7 ?_;refine mv ?_;refine qf ?_)|(refine qc 9 ?_;refine mv ?_;refine mv ?_;(refine tO ?_ ?_<;>intro hc)<;>(refine qf ?_))|(refine qc 10 ?_;refine mv ?_;refine qf ?_)))
 ·refine qj ⟨_,rfl,?_⟩;exact ⟨-1,rfl,.inl ⟨by omega,by assumption⟩,S⟩
 all_goals (repeat' (first|refine qg ?_|refine qh rfl ?_|refine qi ?_|(refine qc 11 ?_;refine mv ?_;refine mv ?_;(refine tO ?_ ?_<;>intro hc)<;>(refine qf ?_))|(refine qc 12 ?_;refine mv ?_;refine qf ?_)))
 ·refine qj ⟨_,rfl,?_⟩;exact ⟨1,rfl,.inr ⟨by omega,by assumption⟩,S⟩
 ·all_goals (repeat' (first|(refine qc 13 ?_;refine mv ?_;refine qf ?_)))
  refine qj ⟨_,rfl,?_⟩;exact ⟨0,rfl,.inr ⟨by omega,by assumption⟩,S⟩
theorem qaU {h0:AH} {b:Nat} (pv:PbV) (p:Pb) (H:PbOk h0 pv p) (hb:h0.get b=some (.cells pv.cs 28 none false)) (hw:WfH h0) (hn:0<p.us.length) :
 CmpK h0 68 [.pointer (some ⟨b,0,none⟩)] p.us.length (xO (fun j=>(pv.gs.getD j default).name) p.us.length):=by
 refine ⟨fun {h} e w x y=>?_⟩;have S:=Hs.start w;have g:=e.get hw hb;have r0:zl h0 pv.vg.val 9 eG pv.gs:=H.rol.rg;have r:=r0.ext hw e;have hl:pv.gs.length=p.us.length:=H.rol.len;have bx:=qbM hn x;have by_:=qbM hn y;refine qA (by first|rfl) Tryz.func68 rfl rfl ?_;all_goals (repeat' (first|refine qg ?_|(refine qc 0 ?_;refine mv ?_;refine qf ?_)|(refine qF 1 ?_;refine vl ?_;refine lH S ?_;refine mv ?_;refine zT S ?_;refine fB S ?_;refine zQ S ?_;refine vl ?_;refine lH S ?_;refine mv ?_;refine zT S ?_;refine fB S ?_;refine zQ S ?_)))
 (refine qm rfl rfl rfl rfl rfl ((qfE S.wf (pv.gs.getD (PW p.us.length x).toNat default).name (pv.gs.getD (PW p.us.length y).toNat default).name).mono ?_);rintro _ h ⟨d,rfl,hd,q⟩)<;>(replace S:=S.qx q;clear q;refine mv ?_;refine qf ?_)
 all_goals (repeat' (fail))
 refine qj ⟨_,rfl,?_⟩;refine ⟨d,rfl,?_,S⟩;unfold jG;rw [pV bx by_];exact hd
end Go.Proofs.Xx
