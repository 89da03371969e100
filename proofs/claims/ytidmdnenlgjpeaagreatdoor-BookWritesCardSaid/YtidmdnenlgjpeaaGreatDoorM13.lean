/-
  Words of a written roll: dashes,digits below a hundred.
-/
import Derived.Test.YtidmdnenlgjpeaaGreatDoorM12
import Derived.Test.YtidmdnenlgjpeaaGreatDoorM11
import Derived.Test.YtidmdnenlgjpeaaGreatDoorM10
set_option linter.unusedSimpArgs false
set_option linter.unusedVariables false
set_option linter.unusedSectionVars false
set_option maxRecDepth 100000
set_option maxHeartbeats 4000000
namespace Go.Proofs.Xx
open Go Go.Proofs
def Zn (s:List UInt8):List UInt8:=if s=[] then [45] else s
def JX (n:Nat):List UInt8:=if h:n<10 then [UInt8.ofNat (48+n)] else JX (n / 10) ++ [UInt8.ofNat (48+n % 10)]
termination_by n
decreasing_by omega
theorem yu {n:Nat} (h:n<10):JX n=[UInt8.ofNat (48+n)]:=by rw [JX,dif_pos h]
theorem yt {n:Nat} (h:¬ n<10):JX n=JX (n / 10) ++ [UInt8.ofNat (48+n % 10)]:=by rw [JX,dif_neg h]
theorem qc8:∀ n:Nat,(JX n).length≤n+1:=by
 intro n;induction n using Nat.strongRecOn with
 | _ n ih =>
 by_cases h:n<10
 ·rw [yu h];simp
 ·rw [yt h,zB2];have:=ih (n / 10) (by omega);simp only [zD5];omega
def d36:List UInt8:=[48,49,50,51,52,53,54,55,56,57,97,98,99,100,101,102,103,104,105,106,107,108,109,110,111,112,113,114,115,116,117,118,119,120,121,122]
def d100:List UInt8:=[48,48,48,49,48,50,48,51,48,52,48,53,48,54,48,55,48,56,48,57,49,48,49,49,49,50,49,51,49,52,49,53,49,54,49,55,49,56,49,57,50,48,50,49,50,50,50,51,50,52,50,53,50,54,50,55,50,56,50,57,51,48,51,49,51,50,51,51,51,52,51,53,51,54,51,55,51,56,51,57,52,48,52,49,52,50,52,51,52,52,52,53,52,54,52,55,52,56,52,57,53,48,53,49,53,50,53,51,53,52,53,53,53,54,53,55,53,56,53,57,54,48,54,49,54,50,54,51,54,52,54,53,54,54,54,55,54,56,54,57,55,48,55,49,55,50,55,51,55,52,55,53,55,54,55,55,55,56,55,57,56,48,56,49,56,50,56,51,56,52,56,53,56,54,56,55,56,56,56,57,57,48,57,49,57,50,57,51,57,52,57,53,57,54,57,55,57,56,57,57]
theorem qed:∀ n,n<10→(d36.drop n).take (n+1 - n)=[UInt8.ofNat (48+n)]:=by decide +kernel
theorem qc9:∀ n,n<100→(d100.drop (n*2)).take (n*2+2 - n*2)=[UInt8.ofNat (48+n / 10)] ++ [UInt8.ofNat (48+n % 10)]:=by decide +kernel
variable [Flag]
theorem YK {h0:AH} (w:WfH h0) (s:List UInt8):Fn Tryz.prog Xh 111 [str s] h0 (fun v h'=>v=str (Zn s)∧Hs h0 h' []):=by
 have S:=Hs.start w;refine zB rfl Tryz.func111 rfl rfl ?_;all_goals (repeat' (first|refine qA ?_|refine qw rfl ?_|refine qx ?_|refine qy ?_|refine qi ?_|refine qj ?_|refine qo ?_|(refine qf 0 ?_;refine mv ?_;refine qg ?_)|(refine qf 1 ?_;refine mv ?_;(refine tS ?_ ?_<;>intro hc)<;>(refine qg ?_))|(refine qf 2 ?_;refine mv ?_;refine qg ?_)|(refine qf 3 ?_;refine mv ?_;refine mv ?_;refine qg ?_)))
 ·refine qE ⟨_,rfl,?_⟩;rw [show Zn s=[45] by unfold Zn;rw [if_pos hc]];exact ⟨rfl,S⟩
 ·refine qE ⟨_,rfl,?_⟩;rw [show Zn s=s by unfold Zn;rw [if_neg hc]];exact ⟨rfl,S⟩
theorem WN {h0:AH} (w:WfH h0) (s:List UInt8):Fn Tryz.prog Xh 116 [str s] h0 (fun v h'=>v=str (Zn s)∧Hs h0 h' []):=by
 have S:=Hs.start w;refine zB rfl Tryz.func116 rfl rfl ?_;all_goals (repeat' (first|refine qA ?_|refine qw rfl ?_|refine qx ?_|refine qy ?_|refine qi ?_|refine qj ?_|refine qo ?_|(refine qf 0 ?_;refine mv ?_;refine qg ?_)|(refine qf 1 ?_;refine mv ?_;(refine tS ?_ ?_<;>intro hc)<;>(refine qg ?_))|(refine qf 2 ?_;refine mv ?_;refine qg ?_)|(refine qf 3 ?_;refine mv ?_;refine mv ?_;refine qg ?_)))
 ·refine qE ⟨_,rfl,?_⟩;rw [show Zn s=[45] by unfold Zn;rw [if_pos hc]];exact ⟨rfl,S⟩
 ·refine qE ⟨_,rfl,?_⟩;rw [show Zn s=s by unfold Zn;rw [if_neg hc]];exact ⟨rfl,S⟩
theorem qbh {h0:AH} (w:WfH h0) (n:Nat) (hn:n<100):Fn Tryz.prog Xh 202 [.int .i64 n] h0 (fun v h'=>v=str (JX n)∧Hs h0 h' []):=by
 have S:=Hs.start w;refine zB rfl Tryz.func202 rfl rfl ?_;all_goals (repeat' (first|refine qA ?_|refine qw rfl ?_|refine qx ?_|refine qy ?_|refine qi ?_|refine qj ?_|refine qo ?_|(refine qf 0 ?_;refine mv ?_;refine qg ?_)|(refine qf 1 ?_;refine mv ?_;(first|refine cT ?_|refine cF ?_|(refine cS ?_ ?_<;>intro hc))<;>(refine qg ?_))))
 ·all_goals (repeat' (first|refine qA ?_|refine qw rfl ?_|refine qx ?_|refine qy ?_|refine qi ?_|refine qj ?_|refine qo ?_|(refine qf 2 ?_;refine mv ?_;refine mv ?_;(first|refine ad ?_|refine vl ?_))))
  rw [show ((n:Int)+1)=((n+1:Nat):Int) by omega];refine tsl (l:=d36) (a:=n) (b:=n+1) ?_ rfl rfl rfl rfl rfl rfl rfl rfl ⟨by omega,by rw [show d36.length=36 from rfl];omega⟩;rw [show (d36.drop n).take (n+1 - n)=JX n by rw [yu (by omega)];exact qed n (by omega)];(refine mv ?_;refine qg ?_);all_goals (repeat' (first|refine qA ?_|refine qw rfl ?_|refine qx ?_|refine qy ?_|refine qi ?_|refine qj ?_|refine qo ?_|(refine qf 0 ?_;refine mv ?_;refine qg ?_)|(refine qf 1 ?_;refine mv ?_;(first|refine cT ?_|refine cF ?_|(refine cS ?_ ?_<;>intro hc))<;>(refine qg ?_))|(refine qf 2 ?_;refine mv ?_;refine mv ?_;(first|refine ad ?_|refine vl ?_))|(refine qf 3 ?_;refine mv ?_;(first|refine ml ?_|refine vl ?_);refine mv ?_;(first|refine ml ?_|refine vl ?_);(first|refine ad ?_|refine vl ?_))))
  refine qE ⟨_,rfl,?_⟩;exact ⟨rfl,S⟩
 ·all_goals (repeat' (first|refine qA ?_|refine qw rfl ?_|refine qx ?_|refine qy ?_|refine qi ?_|refine qj ?_|refine qo ?_|(refine qf 3 ?_;refine mv ?_;(first|refine ml ?_|refine vl ?_);refine mv ?_;(first|refine ml ?_|refine vl ?_);(first|refine ad ?_|refine vl ?_))))
  rw [show ((n:Int)*2+2)=((n*2+2:Nat):Int) by omega,show ((n:Int)*2)=((n*2:Nat):Int) by omega];refine tsl (l:=d100) (a:=n*2) (b:=n*2+2) ?_ rfl rfl rfl rfl rfl rfl rfl rfl ⟨by omega,by rw [show d100.length=200 by decide +kernel];omega⟩;rw [show (d100.drop (n*2)).take (n*2+2 - n*2)=JX n by rw [yt (by omega),yu (by omega)];exact qc9 n hn];(refine mv ?_;refine qg ?_);all_goals (repeat' (first|refine qA ?_|refine qw rfl ?_|refine qx ?_|refine qy ?_|refine qi ?_|refine qj ?_|refine qo ?_))
  refine qE ⟨_,rfl,?_⟩;exact ⟨rfl,S⟩
end Go.Proofs.Xx
namespace Go.Proofs.Xx
open Go Go.Proofs
section
variable {P:Program} {X:Extern} {ops:Array Oper} {os:List Oper} {o:Oper} {sz:Nat} {h h0:AH} {rs:List Rs} {R:Ks→AH→Prop}
inductive HSteps (P:Program) (ops:Array Oper) (sz:Nat) (h:AH):Ks→List Nat→Ks→Prop where
 | nil {L:Ks}:HSteps P ops sz h L [] L
 | cons {L L1 L':Ks} {k:Nat} {ks:List Nat} {ok:Oper} {v:Value} {h':AH} (hok:ops[k]? = some ok) (hg:qC ops L.tree ok.guard=some true) (ha:ja P L.tree h ok.op=some (.val v h')) (hd:qM sz L ok.dst v=some L1) (r:HSteps P ops sz h L1 ks L'):HSteps P ops sz h L (k :: ks) L'
theorem HSteps.mv {L L1 L':Ks} {k:Nat} {ks:List Nat} {ok:Oper} {v:Value} {x:Operand} (hok:ops[k]? = some ok) (hm:ok.op = .move x) (hx:kA L x=some v) (hg:qC ops L.tree ok.guard=some true) (hd:qM sz L ok.dst v=some L1) (r:HSteps P ops sz h L1 ks L'):HSteps P ops sz h L (k :: ks) L' :=
 .cons (h':=h) hok hg (by rw [hm];simp only [ja,qF hx,qO]) hd r
theorem HSteps.bin {L L1 L':Ks} {k:Nat} {ks:List Nat} {ok:Oper} {op:BinOp} {x y:Operand} {ty ty2:TypeId} {a b v:Value} (hv:Qj P op ty a b=some v) (hok:ops[k]? = some ok) (hm:ok.op = .binOp op ty x y ty2) (hx:kA L x=some a) (hy:kA L y=some b) (hg:qC ops L.tree ok.guard=some true) (hd:qM sz L ok.dst v=some L1) (r:HSteps P ops sz h L1 ks L'):HSteps P ops sz h L (k :: ks) L' :=
 .cons (h':=h) hok hg (by rw [hm];simp only [ja,qF hx,qF hy,hv,qO]) hd r
theorem HSteps.cU {L L1 L':Ks} {k:Nat} {ks:List Nat} {ok:Oper} {x:Operand} {s d:TypeId} {k1 k2:IntKind} {a:Int} (hb:0≤a∧a≤255) (hok:ops[k]? = some ok) (hm:ok.op = .convert s d x) (hx:kA L x=some (.int k1 a)) (hs:P.underlying s=some (.int k2)) (hd':P.underlying d=some (.int .u8)) (hg:qC ops L.tree ok.guard=some true) (hd:qM sz L ok.dst (.int .u8 a)=some L1) (r:HSteps P ops sz h L1 ks L'):HSteps P ops sz h L (k :: ks) L' :=
 .cons (h':=h) hok hg (by rw [hm];simp only [ja,qF hx,zT,hs,hd',wrap_u8 hb]) hd r
theorem HSteps.run {L L':Ks} {ks:List Nat} (s:HSteps P ops sz h L ks L'):∀ {t:Tr Value},Kn t L→Kn (ks.foldl (yI P ops sz h) t) L':=by
 induction s with
 | nil=>intro t hk;exact hk
 | @cons _ _ _ k _ _ _ _ hok hg ha hd r ih =>
  intro t hk;obtain ⟨t1,e1,k1⟩:=XC hk hd;rw [List.foldl_cons];have:yI P ops sz h t k=t1:=by
   unfold yI;simp only [hok,jG hk.tle hg,Vp hk.tle ha,e1]
  rw [this];exact ih k1
theorem HintOk.many {L L':Ks} {j:Nat} {ks:List Nat} {o:Oper} {x:Option Nat} {c:List Value} {e:TypeId} (hp:wF ops (masks ops.toList []) j=ks) (ho:ops[j]? = some o) (s:HSteps P ops sz h L ks L') (hf:jU P L'.tree o.op=some (x,c,e)):HintOk P ops sz L h j c e:=fun t hk=>by
 unfold XF;rw [ho,hp];simp only [XM (s.run hk).tle hf]
theorem qcH {ty:TypeId} {a b:Int} (h1:0≤a) (h2:0<b):Qj P .rem ty (.int .i64 a) (.int .i64 b)=some (.int .i64 (a % b)):=by
 have h3:¬ b=0:=by omega
 have h4:a.tmod b=a % b:=Int.tmod_eq_emod_of_nonneg h1;simp only [Qj,decide_true,decide_eq_false h3,h4]
end
variable [Flag]
theorem qaS:∀ (n:Nat) {h0:AH} (w:WfH h0) (hn:n≤9223372036854775807),Fn Tryz.prog Xh 117 [.int .i64 n] h0 (fun v h'=>v=str (JX n)∧Hs h0 h' []):=by
 intro n;induction n using Nat.strongRecOn with
 | _ n ih =>
 intro h0 w hn;have S:=Hs.start w;refine zB rfl Tryz.func117 rfl rfl ?_;all_goals (repeat' (first|refine qA ?_|refine qw rfl ?_|refine qx ?_|refine qy ?_|refine qi ?_|refine qj ?_|refine qo ?_|(refine qf 0 ?_;refine mv ?_;refine qg ?_)|(refine qf 1 ?_;refine mv ?_;(first|refine cT ?_|refine cF ?_|(refine cS ?_ ?_<;>intro hc))<;>(refine qg ?_))))
 ·all_goals (repeat' (first|refine qA ?_|refine qw rfl ?_|refine qx ?_|refine qy ?_|refine qi ?_|refine qj ?_|refine qo ?_|(refine qf 2 ?_;refine mv ?_;(first|refine ad ?_|refine vl ?_);(first|refine cU ?_|refine vl ?_);(refine one 1 S ?_;clear S;intro u h S))))
  have r:Qy h u 1 eU [48+n]:=by
   have:=Rd.JW (enc:=Ym) S .here;exact this
  refine bS r ?_;(refine mv ?_;refine qg ?_);all_goals (repeat' (first|refine qA ?_|refine qw rfl ?_|refine qx ?_|refine qy ?_|refine qi ?_|refine qj ?_|refine qo ?_|(refine qf 0 ?_;refine mv ?_;refine qg ?_)|(refine qf 1 ?_;refine mv ?_;(first|refine cT ?_|refine cF ?_|(refine cS ?_ ?_<;>intro hc))<;>(refine qg ?_))|(refine qf 2 ?_;refine mv ?_;(first|refine ad ?_|refine vl ?_);(first|refine cU ?_|refine vl ?_);(refine one 1 S ?_;clear S;intro u h S))))
  refine qE ⟨_,rfl,?_⟩;rw [yu (by omega)];exact ⟨rfl,S.drop⟩
 ·(repeat (refine qA ?_));refine qcq (id:=3) (j1:=7) (rd:=[(6,(0,1)),(7,(0,1)),(8,(0,1))]) (fun b1=>[none,some b1,some b1]) S (by exact HintOk.many (ks:=[3,4,5,6]) (by decide +kernel) rfl (.mv rfl rfl rfl rfl rfl (.bin (qcH (by omega) (by omega)) rfl rfl rfl rfl rfl rfl (.bin (qag rfl (by omega) (by omega)) rfl rfl rfl rfl rfl rfl (.cU (by omega) rfl rfl rfl rfl rfl rfl rfl .nil)))) rfl) ?_;clear S;intro b1 h S;refine qB ?_;(first|(refine mv ?_<;>refine qg ⟨⟨by (first|exact True.intro|exact Or.inl rfl|exact Or.inr rfl|exact Or.inr (congrArg some (qh _ _ _ _))|exact ⟨Or.inl rfl,rfl⟩|exact ⟨Or.inr rfl,rfl⟩),rfl⟩,?_⟩));refine qB ?_;(first|(refine qu ?_<;>refine qg ⟨⟨by (first|exact True.intro|exact Or.inl rfl|exact Or.inr rfl|exact Or.inr (congrArg some (qh _ _ _ _))|exact ⟨Or.inl rfl,rfl⟩|exact ⟨Or.inr rfl,rfl⟩),rfl⟩,?_⟩)|(refine vl ?_<;>refine qg ⟨⟨by (first|exact True.intro|exact Or.inl rfl|exact Or.inr rfl|exact Or.inr (congrArg some (qh _ _ _ _))|exact ⟨Or.inl rfl,rfl⟩|exact ⟨Or.inr rfl,rfl⟩),rfl⟩,?_⟩));rw [show ((n:Int) / 10)=((n / 10:Nat):Int) by omega];replace S:Hs h0 h (.blk b1 [.int .u8 (48+(n:Int) % 10)] 5 :: []):=S;((refine qB ?_;first|refine qI rfl rfl rfl rfl rfl ((ih (n / 10) (by omega) S.wf (by omega)).mono ?_));rintro _ h ⟨rfl,x⟩)<;>((refine qg ⟨⟨True.intro,?_⟩,?_⟩;(focus ((show keepsX _ _ _ _ _;simp only [keepsX];(repeat' (first|exact True.intro|refine And.intro ?_ ?_));all_goals (intro hw;first|exact True.intro|exact rfl|exact absurd hw (by decide +kernel)|exact x.ext.old _ S.bB|exact x.ext.old _ (S.bR (by first|omega|grind))|exact x.ext.old _ (S.bX (by assumption) (by assumption) (by first|omega|grind))|exact x.ext.old _ (S.bY (by assumption) (by assumption))|(refine x.ext.old _ ?_;assumption)|exact absurd hw (by decide +kernel))))));replace S:=S.zk x;clear x;refine qB ?_;(first|(refine mv ?_<;>refine qg ⟨⟨by (first|exact True.intro|exact Or.inl rfl|exact Or.inr rfl|exact Or.inr (congrArg some (qh _ _ _ _))|exact ⟨Or.inl rfl,rfl⟩|exact ⟨Or.inr rfl,rfl⟩),rfl⟩,?_⟩));refine qB ?_;(first|(refine rm ?_<;>refine qg ⟨⟨by (first|exact True.intro|exact Or.inl rfl|exact Or.inr rfl|exact Or.inr (congrArg some (qh _ _ _ _))|exact ⟨Or.inl rfl,rfl⟩|exact ⟨Or.inr rfl,rfl⟩),rfl⟩,?_⟩)|(refine vl ?_<;>refine qg ⟨⟨by (first|exact True.intro|exact Or.inl rfl|exact Or.inr rfl|exact Or.inr (congrArg some (qh _ _ _ _))|exact ⟨Or.inl rfl,rfl⟩|exact ⟨Or.inr rfl,rfl⟩),rfl⟩,?_⟩));refine qB ?_;(first|(refine ad ?_<;>refine qg ⟨⟨by (first|exact True.intro|exact Or.inl rfl|exact Or.inr rfl|exact Or.inr (congrArg some (qh _ _ _ _))|exact ⟨Or.inl rfl,rfl⟩|exact ⟨Or.inr rfl,rfl⟩),rfl⟩,?_⟩)|(refine vl ?_<;>refine qg ⟨⟨by (first|exact True.intro|exact Or.inl rfl|exact Or.inr rfl|exact Or.inr (congrArg some (qh _ _ _ _))|exact ⟨Or.inl rfl,rfl⟩|exact ⟨Or.inr rfl,rfl⟩),rfl⟩,?_⟩));refine qB ?_;(first|(refine cU ?_<;>refine qg ⟨⟨by (first|exact True.intro|exact Or.inl rfl|exact Or.inr rfl|exact Or.inr (congrArg some (qh _ _ _ _))|exact ⟨Or.inl rfl,rfl⟩|exact ⟨Or.inr rfl,rfl⟩),rfl⟩,?_⟩)|(refine vl ?_<;>refine qg ⟨⟨by (first|exact True.intro|exact Or.inl rfl|exact Or.inr rfl|exact Or.inr (congrArg some (qh _ _ _ _))|exact ⟨Or.inl rfl,rfl⟩|exact ⟨Or.inr rfl,rfl⟩),rfl⟩,?_⟩));refine fl S rfl rfl S.gB ?_)
  have hdl:=qc8 (n / 10);have hl1:([48+n % 10].map UInt8.ofNat).length=1:=rfl;have r:Qy h (Ql (some 1) b1) 1 eU [48+n % 10]:=.inr ⟨b1,0,1,_,_,none,_,rfl,JH S .here,rfl⟩;refine qB ?_;refine bS r ?_;refine qg ⟨⟨by (first|exact True.intro|exact Or.inl rfl|exact Or.inr rfl|exact Or.inr (congrArg some (qh _ _ _ _))|exact ⟨Or.inl rfl,rfl⟩|exact ⟨Or.inr rfl,rfl⟩),rfl⟩,?_⟩;(refine qB ?_;(first|(refine tc ?_<;>refine qg ⟨⟨by (first|exact True.intro|exact Or.inl rfl|exact Or.inr rfl|exact Or.inr (congrArg some (qh _ _ _ _))|exact ⟨Or.inl rfl,rfl⟩|exact ⟨Or.inr rfl,rfl⟩),rfl⟩,?_⟩));refine qB ?_;(first|(refine mv ?_<;>refine qg ⟨⟨by (first|exact True.intro|exact Or.inl rfl|exact Or.inr rfl|exact Or.inr (congrArg some (qh _ _ _ _))|exact ⟨Or.inl rfl,rfl⟩|exact ⟨Or.inr rfl,rfl⟩),rfl⟩,?_⟩));refine Xw ?_);all_goals (repeat' (first|refine qA ?_|refine qw rfl ?_|refine qx ?_|refine qy ?_|refine qi ?_|refine qj ?_|refine qo ?_))
  refine qE ⟨_,rfl,?_⟩;rw [yt (by omega)];exact ⟨rfl,S.drop⟩
theorem xG {h0:AH} (w:WfH h0) {z:Int} (n:Nat) (hz:z=n) (hn:n≤9223372036854775807):Fn Tryz.prog Xh 117 [.int .i64 z] h0 (fun v h'=>v=str (JX n)∧Hs h0 h' []):=by
 subst hz;exact qaS n w hn
end Go.Proofs.Xx
namespace Go.Proofs.Xx
open Go Go.Proofs
def xh:List (List UInt8)→List UInt8
 | []=>[]
 | [w]=>w
 | w :: u :: r=>w ++ 32 :: xh (u :: r)
theorem qbg:∀ {ws:List (List UInt8)},ws≠[]→(∀ w∈ws,(32:UInt8) ∉ w)→jv 32 (xh ws)=ws
 | [],h,_=>absurd rfl h
 | [w],_,k=>Xc (k w (by simp))
 | w :: u :: r,_,k=>by
  rw [xh,Wh (k w (by simp)),qbg (by simp) (fun x hx=>k x (List.mem_cons_of_mem _ hx))]
theorem PY {c:UInt8} (hc:c≠32):∀ {ws:List (List UInt8)},(∀ w∈ws,c ∉ w)→c ∉ xh ws
 | [],_=>by simp [xh]
 | [w],k=>k w (by simp)
 | w :: u :: r,k=>by
  have h1:=k w (by simp);have h2:=PY hc (ws:=u :: r) fun x hx=>k x (List.mem_cons_of_mem _ hx);rw [xh,zB8,zE7];rintro (q|q|q)
  ·exact h1 q
  ·exact hc q
  ·exact h2 q
theorem qbI {n:Nat}:∀ {ws:List (List UInt8)},(∀ w∈ws,w.length≤n)→(xh ws).length≤(n+1)*ws.length
 | [],_=>by simp [xh]
 | [w],k=>by have:=k w (by simp);simp [xh];omega
 | w :: u :: r,k=>by
  have h1:=k w (by simp);have h2:=qbI (ws:=u :: r) fun x hx=>k x (List.mem_cons_of_mem _ hx);rw [xh,zB2,zC4,zC4 (a:=w),Nat.mul_add];omega
def gW (w:List UInt8):Prop:=w≠[]∧∀ x∈w,45≤x.toNat
theorem gW.free {w:List UInt8} (h:gW w) {c:UInt8} (hc:c.toNat<45):c ∉ w:=fun q=>by have:=h.2 c q;omega
theorem PU {ws:List (List UInt8)} (h:ws≠[]) (k:∀ w∈ws,gW w):(10:UInt8) ∉ xh ws∧xh ws≠[]∧∀ r,Zd r (xh ws ++ [10])=QD r ws:=by
 have e:=qbg h fun w hw=>(k w hw).free (by decide);refine ⟨PY (by decide) fun w hw=>(k w hw).free (by decide),fun q=>?_,fun r=>?_⟩
 ·rw [q] at e;have:([]:List UInt8)∈ws:=by rw [← e];simp [jv]
  exact (k _ this).1 rfl
 ·rw [qdh (by rw [e];exact fun q=>(k _ q).1 rfl),e]
theorem nameP.low {s:List UInt8} (h:nameP s):∀ x∈s,VW x:=fun x hx=>by
 obtain ⟨i,hi,rfl⟩:=qN.1 hx;exact h.2.2 i hi
theorem nameP.gW {s:List UInt8} (h:nameP s):gW s:=⟨fun q=>by have:=h.1;rw [q] at this;simp at this,fun x hx=>by have:=h.low x hx;unfold VW at this;omega⟩
theorem WE {s:List UInt8} (h:XX s):Xx.gW (Zn s)∧(Zn s).length≤12∧QA (Zn s)=s:=by
 rcases h with rfl|h
 ·refine ⟨⟨by decide,by decide⟩,by decide,by decide⟩
 ·have hn:s≠[]:=h.gW.1;have e:Zn s=s:=by unfold Zn;rw [if_neg hn]
  rw [e];refine ⟨h.gW,h.2.1,?_⟩;unfold QA;rw [if_neg];rintro rfl;have:=h.low 45 (by simp);unfold VW at this;exact absurd this (by decide)
theorem u8t {n:Nat} (h:n<256):(UInt8.ofNat n).toNat=n:=by rw [UInt8.toNat_ofNat',Nat.mod_eq_of_lt h]
theorem wY:∀ n:Nat,(∀ x∈JX n,YS x)∧ZY (JX n)=n∧1≤(JX n).length∧(n≠0→(JX n).getD 0 default≠48):=by
 intro n;induction n using Nat.strongRecOn with
 | _ n ih =>
 by_cases h:n<10
 ·have e:=u8t (show 48+n<256 by omega);rw [yu h];refine ⟨fun x hx=>?_,?_,by simp,fun h0 q=>?_⟩
  ·rw [zB5.1 hx];unfold YS;rw [e];omega
  ·show 10*0+((UInt8.ofNat (48+n)).toNat - 48)=n
   rw [e];omega
  ·have:=congrArg UInt8.toNat (show UInt8.ofNat (48+n)=48 from q);rw [e] at this;have h8:(48:UInt8).toNat=48:=rfl;omega
 ·obtain ⟨i1,i2,i3,i4⟩:=ih (n / 10) (by omega);have e:=u8t (show 48+n % 10<256 by omega);rw [yt h];refine ⟨fun x hx=>?_,?_,by simp,fun h0 q=>?_⟩
  ·rcases zB8.1 hx with hx|hx
   ·exact i1 x hx
   ·rw [zB5.1 hx];unfold YS;rw [e];omega
  ·rw [yE,i2,e];omega
  ·refine i4 (by omega) ?_;rw [zA2,zH7 (by omega),← zA2] at q;exact q
theorem qbW:∀ (k n:Nat),n<10 ^ (k+1)→(JX n).length≤k+1
 | 0,n,h=>by rw [yu (by omega)];simp
 | k+1,n,h=>by
  by_cases q:n<10
  ·rw [yu q];simp
  ·rw [yt q,zB2,zD5];have:=qbW k (n / 10) (by rw [Nat.pow_succ] at h;omega);omega
theorem P9 {n:Nat} (h:n<10000):qbx (JX n)∧(JX n).length≤4∧gW (JX n):=by
 obtain ⟨i1,i2,i3,i4⟩:=wY n;have hl:=qbW 3 n (by omega);refine ⟨⟨i3,by omega,fun h1=>i4 fun q=>?_,fun i hi=>i1 _ (qK hi)⟩,hl,fun q=>by rw [q] at i3;simp at i3,fun x hx=>?_⟩
 ·rw [q,yu (by omega)] at h1;simp at h1
 ·have:=i1 x hx;unfold YS at this;omega
def VX (g:Gu):List UInt8:=(if g.host then [104] else []) ++ (if g.access then [97] else [])
theorem qd8 (g:Gu):gW (Zn (VX g))∧(Zn (VX g)).length≤12∧VO (Zn (VX g))∧decide (Zn (VX g)=[104]∨Zn (VX g)=[104,97])=g.host∧decide (Zn (VX g)=[97]∨Zn (VX g)=[104,97])=g.access:=by
 unfold VX gW;cases g.host<;>cases g.access<;>decide
def YJ (g:Gu):List (List UInt8):=Q9 :: g.name :: Zn g.rank :: Zn g.court :: JX g.since.toNat :: JX g.side.toNat :: Zn g.diet :: Zn (VX g) :: g.tg
theorem qa7:gW Q9∧gW jV∧gW JR:=by refine ⟨⟨by decide,by decide⟩,⟨by decide,by decide⟩,by decide,by decide⟩
theorem pG {g:Gu} (hc:Qb g=0):(∀ w∈YJ g,gW w∧w.length≤12)∧GP (YJ g)∧JC (YJ g)=g∧(YJ g).length≤12:=by
 obtain ⟨⟨n1,n2,n3,n4⟩,⟨s1,s2⟩,⟨d1,d2⟩,t1,t2⟩:=Zp hc;obtain ⟨f1,f2,f3,f4,f5⟩:=qd8 g;obtain ⟨r1,r2,r3⟩:=WE n2;obtain ⟨c1,c2,c3⟩:=WE n3;obtain ⟨e1,e2,e3⟩:=WE n4;obtain ⟨x1,x2,x3⟩:=P9 (show g.since.toNat<10000 by omega);obtain ⟨y1,y2,y3⟩:=P9 (show g.side.toNat<10000 by omega);refine ⟨fun w hw=>?_,⟨by simp only [YJ,zC4];omega,x1,y1,f3⟩,?_,by simp only [YJ,zC4];omega⟩
 ·simp only [YJ,zE7] at hw;rcases hw with rfl|rfl|rfl|rfl|rfl|rfl|rfl|rfl|hw
  ·exact ⟨qa7.1,by decide⟩
  ·exact ⟨n1.gW,n1.2.1⟩
  ·exact ⟨r1,r2⟩
  ·exact ⟨c1,c2⟩
  ·exact ⟨x3,by omega⟩
  ·exact ⟨y3,by omega⟩
  ·exact ⟨e1,e2⟩
  ·exact ⟨f1,f2⟩
  ·obtain ⟨i,hi,rfl⟩:=qN.1 hw;exact ⟨(t2 i hi).1.gW,(t2 i hi).1.2.1⟩
 ·obtain ⟨nm,rk,ct,sn,sd,dt,ho,ac,tg⟩:=g;show Gu.mk nm (QA (Zn rk)) (QA (Zn ct)) (ZY (JX sn.toNat)) (ZY (JX sd.toNat)) (QA (Zn dt)) (decide _) (decide _) tg=_
  dsimp only at *;have q1:=(wY sn.toNat).2.1;have q2:=(wY sd.toNat).2.1;rw [r3,c3,e3,q1,q2];congr 1
  ·omega
  ·omega
def Jl (g:Gu):List UInt8:=xh (YJ g)
def tws (t:Ti):List (List UInt8):=[if t.k=1 then jV else JR,t.a,t.b]
def Yh (t:Ti):List UInt8:=xh (tws t)
def txt (l:List (List UInt8)):List UInt8:=(l.map (· ++ [10])).flatten
def PT (r:Rl):List (List UInt8):=r.us.map Jl ++ r.ts.map Yh
def fmt (r:Rl):List UInt8:=txt (PT r)
theorem Wu (w:List UInt8) (l:List (List UInt8)):txt (w :: l)=w ++ 10 :: txt l:=by simp [txt]
theorem PN:∀ {l:List (List UInt8)},(∀ w∈l,(10:UInt8) ∉ w)→jv 10 (txt l)=l ++ [[]]
 | [],_=>rfl
 | w :: l,k=>by
  rw [Wu,Wh (k w (by simp)),PN fun x hx=>k x (List.mem_cons_of_mem _ hx)];rfl
theorem Y2 {n:Nat}:∀ {l:List (List UInt8)},(∀ w∈l,w.length+1≤n)→(txt l).length≤n*l.length
 | [],_=>by simp [txt]
 | w :: l,k=>by
  have h1:=k w (by simp);have h2:=Y2 (l:=l) fun x hx=>k x (List.mem_cons_of_mem _ hx);rw [Wu,zB2,zC4,zC4,Nat.mul_add];omega
theorem Yi {g:Gu} (hc:Qb g=0):(10:UInt8) ∉ Jl g∧Jl g≠[]∧(Jl g).length≤156∧∀ r,Zd r (Jl g ++ [10])=JI r g:=by
 obtain ⟨h1,h2,h3,h4⟩:=pG hc;obtain ⟨l1,l2,l3⟩:=PU (ws:=YJ g) (by simp [YJ]) fun w hw=>(h1 w hw).1;have h5:=qbI (n:=12) (ws:=YJ g) fun w hw=>(h1 w hw).2;refine ⟨l1,l2,by unfold Jl;omega,fun r=>?_⟩;rw [Jl,l3,VL rfl h2,h3]
theorem WX {t:Ti} (ha:nameP t.a) (hb:nameP t.b) (hk:t.k=1∨t.k=2):(10:UInt8) ∉ Yh t∧Yh t≠[]∧(Yh t).length≤39∧∀ r,Zd r (Yh t ++ [10])=QL r t.a t.b t.k:=by
 have h1:∀ w∈tws t,gW w∧w.length≤12:=fun w hw=>by
  simp only [tws,zE7,List.not_mem_nil,or_false] at hw;rcases hw with rfl|rfl|rfl
  ·split
   ·exact ⟨qa7.2.1,by decide⟩
   ·exact ⟨qa7.2.2,by decide⟩
  ·exact ⟨ha.gW,ha.2.1⟩
  ·exact ⟨hb.gW,hb.2.1⟩
 obtain ⟨l1,l2,l3⟩:=PU (ws:=tws t) (by simp [tws]) fun w hw=>(h1 w hw).1;have h5:=qbI (n:=12) (ws:=tws t) fun w hw=>(h1 w hw).2;refine ⟨l1,l2,by unfold Yh;simp only [tws,zC4,List.length_nil] at h5 ⊢;omega,fun r=>?_⟩;rw [Yh,l3];rcases hk with hk|hk
 ·rw [YH (by show (if t.k=1 then jV else JR)=_;rw [if_pos hk]) rfl,hk];rfl
 ·rw [WY (by show (if t.k=1 then jV else JR)=_;rw [if_neg (by omega)]) rfl,hk];rfl
theorem qbo:∀ (us us0:List Gu) (i:Nat) (l:List (List UInt8)),(∀ g∈us,Qb g=0)→((us0 ++ us).map (·.name)).Nodup→(us0 ++ us).length≤64→Xi ⟨us0,[]⟩ i (us.map (fun g=>Jl g ++ [10]) ++ l)=Xi ⟨us0 ++ us,[]⟩ (i+us.length) l
 | [],us0,i,l,_,_,_=>by simp
 | g :: us,us0,i,l,h1,h2,h3=>by
  have e:Zd ⟨us0,[]⟩ (Jl g ++ [10])=(⟨us0 ++ [g],[]⟩,0):=by
   rw [(Yi (h1 g (by simp))).2.2.2];refine xI (h1 g (by simp)) (Qh.2 fun x hx q=>?_) (by show ¬ 64≤us0.length;simp at h3;omega);rw [zC9,zG3] at h2;exact h2.2.2 x.name (zF0.2 ⟨x,hx,rfl⟩) g.name (by simp) q
  rw [List.map_cons,zC6,wE (by rw [e]),e];have k:=qbo us (us0 ++ [g]) (i+1) l (fun x hx=>h1 x (List.mem_cons_of_mem _ hx)) (by simpa using h2) (by simpa using h3);rw [k];simp only [zF1,List.singleton_append,zC4];congr 1
  omega
theorem qbp (us:List Gu):∀ (ts ts0:List Ti) (i:Nat),TS (ts0 ++ ts)→(ts0 ++ ts).length≤256→(∀ t∈ts,ji t.a t.b∧(t.k=1∨t.k=2)∧nameP t.a∧nameP t.b) →
 ((∀ t∈ts,gat us t.a≠none∧gat us t.b≠none)∧Xi ⟨us,ts0⟩ i (ts.map fun t=>Yh t ++ [10]) = .ok ⟨us,ts0 ++ ts⟩)∨((∃ t∈ts,gat us t.a=none∨gat us t.b=none)∧∃ j,Xi ⟨us,ts0⟩ i (ts.map fun t=>Yh t ++ [10]) = .bad j 6)
 | [],ts0,i,_,_,_=>.inl ⟨fun t ht=>(by cases ht),(by simp [Xi])⟩
 | t :: ts,ts0,i,h1,h2,h3=>by
  obtain ⟨z1,z2,z3,z4⟩:=h3 t (by simp);have e:=(WX z3 z4 z2).2.2.2 ⟨us,ts0⟩;have n1:¬ ((t.k≠1∧t.k≠2)∨t.a=t.b):=by
   rintro (q|q)
   ·omega
   ·rw [q] at z1;exact zH _ z1
  by_cases q:gat us t.a=none∨gat us t.b=none
  ·refine .inr ⟨⟨t,by simp,q⟩,i,?_⟩;rw [vS n1 q] at e;rw [List.map_cons,Kr (by rw [e];show (6:Int)≠0;decide),e]
  ·have hs:=h1;rw [TS,List.pairwise_append] at hs;have hb:∀ x∈ts0,Ze x t:=fun x hx=>hs.2.2 x hx t (by simp);have n3:¬ tied ts0 t.a t.b:=by
    rw [gp z1];rintro ⟨x,hx,e1,e2⟩;rcases hb x hx with k|k
    ·rw [e1] at k;exact zH _ k
    ·rw [e2] at k;exact zH _ k.2
   have n4:¬ 256≤ts0.length:=by simp at h2;omega
   have e5:yg ts0 (Qe t.a t.b t.k)=ts0 ++ [t]:=by
    have:Qe t.a t.b t.k=t:=by unfold Qe;rw [Zi z1,Zj z1]
    rw [this,Xg (i:=ts0.length) ⟨zA3 _,fun j hj=>hb _ (qK hj),fun j k1 k2=>by omega⟩];simp
   rw [Wv n1 q n3 n4] at e;dsimp only at e;rw [e5] at e;rw [List.map_cons,wE (by rw [e]),e];dsimp only;have ha:ts0 ++ t :: ts=(ts0 ++ [t]) ++ ts:=by simp
   rw [ha] at h1 h2 ⊢;rcases qbp us ts (ts0 ++ [t]) (i+1) h1 h2 fun x hx=>h3 x (List.mem_cons_of_mem _ hx) with ⟨k1,k2⟩|⟨⟨x,hx,k1⟩,k2⟩
   ·refine .inl ⟨fun x hx=>?_,k2⟩;rcases zE7.1 hx with rfl|hx
    ·exact ⟨fun w=>q (.inl w),fun w=>q (.inr w)⟩
    ·exact k1 x hx
   ·exact .inr ⟨⟨x,List.mem_cons_of_mem _ hx,k1⟩,k2⟩
theorem RO.names {r:Rl} (H:RO r):(r.us.map (·.name)).Nodup:=by
 rw [List.Nodup,List.pairwise_map,zD2];intro i j hi hj hij;have:=H.nd i j hij hj;rw [zA2,zA2,zA4 hj,zA4 hi] at this;exact this
theorem RO.tn {r:Rl} (H:RO r) {t:Ti} (ht:t∈r.ts):nameP t.a∧nameP t.b:=by
 obtain ⟨z1,z2,z3,z4⟩:=H.tt t ht;obtain ⟨g,hg,e⟩:=XG.1 z3;obtain ⟨g',hg',e'⟩:=XG.1 z4;rw [← e,← e'];exact ⟨(Zp (H.chk g hg)).1.1,(Zp (H.chk g' hg')).1.1⟩
theorem RO.lines {r:Rl} (H:RO r):∀ w∈PT r,(10:UInt8) ∉ w∧w≠[]∧w.length≤156:=fun w hw=>by
 rcases zB8.1 hw with hw|hw
 ·obtain ⟨g,hg,rfl⟩:=zF0.1 hw;obtain ⟨k1,k2,k3,-⟩:=Yi (H.chk g hg);exact ⟨k1,k2,k3⟩
 ·obtain ⟨t,ht,rfl⟩:=zF0.1 hw;obtain ⟨k1,k2,k3,-⟩:=WX (H.tn ht).1 (H.tn ht).2 (H.tt t ht).2.1;exact ⟨k1,k2,by omega⟩
theorem RO.qcO {r:Rl} (H:RO r):(PT r).length≤320:=by
 have h1:=H.l64;have h2:=H.l256;simp [PT];omega
theorem RO.qcX {r:Rl} (H:RO r):(fmt r).length≤50240:=by
 have h1:=Y2 (n:=157) (l:=PT r) fun w hw=>by have:=(H.lines w hw).2.2;omega
 have h2:=H.qcO;unfold fmt;omega
theorem qaz {l:List (List UInt8)} (h:∀ w∈l,(10:UInt8) ∉ w) (hl:(txt l).length≤65536):Z4 (txt l)=Xi ⟨[],[]⟩ 0 (l.map (· ++ [10])):=by
 unfold Z4;rw [if_neg (by omega),PN h,Y6]
theorem RO.parse {r:Rl} (H:RO r):Z4 (fmt r) = .ok r:=by
 rw [fmt,qaz (fun w hw=>(H.lines w hw).1) (by have:=H.qcX;unfold fmt at this;omega),PT,zC9,List.map_map,List.map_map];have k:=qbo r.us [] 0 (r.ts.map fun t=>Yh t ++ [10]) H.chk (by simpa using H.names) (by simpa using H.l64);refine k.trans ?_;rcases qbp r.us r.ts [] (0+r.us.length) (by simpa using H.ts) (by simpa using H.l256) fun t ht=>⟨(H.tt t ht).1,(H.tt t ht).2.1,(H.tn ht).1,(H.tn ht).2⟩ with ⟨-,k2⟩|⟨⟨t,ht,k1⟩,-⟩
 ·exact k2
 ·rcases k1 with k1|k1
  ·exact absurd k1 (H.tt t ht).2.2.1
  ·exact absurd k1 (H.tt t ht).2.2.2
abbrev bst (bb:Nat) (q v:Value):Rs:=.blk bb [q,v] 160
abbrev kU (v:Value) (l:List UInt8):Rs:=.sl v 5 1 eU (l.map UInt8.toNat)
def QP (bb:Nat) (q:Value):Prop:=q = .pointer none∨q = .pointer (some ⟨bb,0,none⟩)
def yG (r:List (List UInt8)):List UInt8:=r.flatMap fun w=>32 :: w
theorem xg (w:List UInt8):∀ r:List (List UInt8),xh (w :: r)=w ++ yG r
 | []=>by simp [xh,yG]
 | u :: r=>by
  rw [xh,xg u r];simp [yG]
theorem kY (r:List (List UInt8)) (w:List UInt8):yG (r ++ [w])=yG r ++ [32] ++ w:=by simp [yG]
theorem Gx:∀ {r:List (List UInt8)},(∀ w∈r,w.length≤1000)→(yG r).length≤1001*r.length
 | [],_=>by simp [yG]
 | w :: r,k=>by
  have h1:=k w (by simp);have h2:=Gx (r:=r) fun x hx=>k x (List.mem_cons_of_mem _ hx);have e:yG (w :: r)=32 :: (w ++ yG r):=by simp [yG]
  rw [e,zC4,zB2,zC4];omega
variable [Flag]
theorem qbz {h0:AH} (v:Value):Fn Tryz.prog Xh 182 [v] h0 (fun r h'=>r=v∧h'=h0):=QJ rfl ⟨rfl,rfl⟩
theorem vH {h0 h:AH} {rs:List Rs} {bb:Nat} {q v:Value} (S:Hs h0 h (bst bb q v :: rs)) (hq:QP bb q):Fn Tryz.prog Xh 144 [.pointer (some ⟨bb,0,none⟩)] h (fun r h'=>Hs h0 h' (bst bb (.pointer (some ⟨bb,0,none⟩)) v :: rs)):=by
 rcases hq with rfl|rfl
 ·refine zB rfl Tryz.func144 rfl rfl ?_;all_goals (repeat' (first|refine qA ?_|refine qw rfl ?_|refine qx ?_|refine qy ?_|refine qi ?_|refine qj ?_|refine qo ?_|(refine qf 0 ?_;refine mv ?_;refine vl ?_;(first|refine vl ?_|refine fB S ?_|refine fS S rfl rfl ?_|refine fA ?_);(first|refine lB S rfl rfl ?_|refine qH S rfl rfl ?_|refine qZ S ?_|refine lH S ?_);refine vl ?_;refine qg ?_)))
  refine qf 1 ?_;refine mv ?_;refine mv ?_;refine pU1 (b:=bb) (c:=[.pointer none,v]) (e:=160) S.gB ?_;(refine qI rfl rfl rfl rfl rfl ((qbz _).mono ?_);rintro _ h ⟨rfl,rfl⟩)<;>(refine pU2 (b:=bb) (c:=[.pointer none,v]) (e:=160) S.gB ?_ (hc:=by kernel_rfl);((refine vl ?_;(first|refine vl ?_|refine fB S ?_|refine fS S rfl rfl ?_|refine fA ?_);(first|(refine sB S rfl rfl ?_;clear S;intro h S)|(refine JU S rfl rfl ?_;clear S;intro h S));refine qg ?_)))
  all_goals (repeat' (first|refine qA ?_|refine qw rfl ?_|refine qx ?_|refine qy ?_|refine qi ?_|refine qj ?_|refine qo ?_|(refine qf 0 ?_;refine mv ?_;refine vl ?_;(first|refine vl ?_|refine fB S ?_|refine fS S rfl rfl ?_|refine fA ?_);(first|refine lB S rfl rfl ?_|refine qH S rfl rfl ?_|refine qZ S ?_|refine lH S ?_);refine vl ?_;refine qg ?_)|(refine qf 1 ?_;refine mv ?_;refine mv ?_)|(refine qf 2 ?_;refine mv ?_;refine vl ?_;(first|refine vl ?_|refine fB S ?_|refine fS S rfl rfl ?_|refine fA ?_);(first|refine lB S rfl rfl ?_|refine qH S rfl rfl ?_|refine qZ S ?_|refine lH S ?_);refine mv ?_;refine vl ?_;refine qg ?_)))
  refine ⟨_,rfl,?_⟩;exact S
 ·refine zB rfl Tryz.func144 rfl rfl ?_;all_goals (repeat' (first|refine qA ?_|refine qw rfl ?_|refine qx ?_|refine qy ?_|refine qi ?_|refine qj ?_|refine qo ?_|(refine qf 0 ?_;refine mv ?_;refine vl ?_;(first|refine vl ?_|refine fB S ?_|refine fS S rfl rfl ?_|refine fA ?_);(first|refine lB S rfl rfl ?_|refine qH S rfl rfl ?_|refine qZ S ?_|refine lH S ?_);refine vl ?_;refine qg ?_)))
  refine qf 2 ?_;refine mv ?_;refine vl ?_;refine vl ?_;refine lB S rfl rfl ?_;refine mv ?_;refine pN ?_;refine qg ?_;all_goals (repeat' (first|refine qA ?_|refine qw rfl ?_|refine qx ?_|refine qy ?_|refine qi ?_|refine qj ?_|refine qo ?_|(refine qf 2 ?_;refine mv ?_;refine vl ?_;(first|refine vl ?_|refine fB S ?_|refine fS S rfl rfl ?_|refine fA ?_);(first|refine lB S rfl rfl ?_|refine qH S rfl rfl ?_|refine qZ S ?_|refine lH S ?_);refine mv ?_;refine vl ?_;refine qg ?_)))
  refine ⟨_,rfl,?_⟩;exact S
theorem Zt {h0 h:AH} {rs:List Rs} {bb:Nat} {q v:Value} {l:List UInt8} (s:List UInt8) (S:Hs h0 h (bst bb q v :: kU v l :: rs)) (hq:QP bb q) (hl:l.length+s.length≤1000000):Fn Tryz.prog Xh 113 [.pointer (some ⟨bb,0,none⟩),str s] h
 (fun r h'=>∃ v',Hs h0 h' (bst bb (.pointer (some ⟨bb,0,none⟩)) v' :: kU v' (l ++ s) :: rs)):=by
 have hl':(l.map UInt8.toNat).length+s.length≤1000000:=by simpa using hl
 refine zB rfl Tryz.func113 rfl rfl ?_;all_goals (repeat' (first|refine qA ?_|refine qw rfl ?_|refine qx ?_|refine qy ?_|refine qi ?_|refine qj ?_|refine qo ?_|(refine qf 0 ?_;refine mv ?_;refine mv ?_;refine qg ?_)|(refine qf 1 ?_;refine mv ?_)))
 (refine qI rfl rfl rfl rfl rfl ((vH S hq).mono ?_);rintro _ h S2)<;>(replace S:=S2;clear S2;refine qg ?_)
 refine qA ?_;refine qf 2 ?_;refine mv ?_;refine mv ?_;refine vl ?_;refine vl ?_;refine lB S rfl rfl ?_;refine mv ?_;refine apS S rfl rfl ?_;clear S;intro v2 h S;obtain ⟨sv,rfl⟩:=(Rd.JW S .here).qbJ;refine vl ?_;(first|refine vl ?_|refine fB S ?_|refine fS S rfl rfl ?_|refine fA ?_);(first|(refine sB S rfl rfl ?_;clear S;intro h S)|(refine JU S rfl rfl ?_;clear S;intro h S));refine qg ?_;all_goals (repeat' (first|refine qA ?_|refine qw rfl ?_|refine qx ?_|refine qy ?_|refine qi ?_|refine qj ?_|refine qo ?_|(refine qf 3 ?_;refine mv ?_;refine tl ?_;refine mv ?_;refine mv ?_;refine qg ?_)))
 refine qE ⟨_,rfl,?_⟩;rw [← zC9] at S;exact ⟨_,S.front (.there .here)⟩
theorem qae {h0 h:AH} {rs:List Rs} {bb:Nat} {q v:Value} {l:List UInt8} (S:Hs h0 h (bst bb q v :: kU v l :: rs)) (hl:0<l.length∧l.length≤1000000):Fn Tryz.prog Xh 115 [.pointer (some ⟨bb,0,none⟩)] h (fun r h'=>r=str l∧Hs h0 h' (bst bb q v :: rs)):=by
 have hl':(l.map UInt8.toNat).length=l.length:=by simp
 have hl2:(l.map UInt8.toNat).map UInt8.ofNat=l:=by
  rw [List.map_map];exact (List.map_congr_left fun a _=>by simp).trans (List.map_id _)
 refine zB rfl Tryz.func115 rfl rfl ?_;all_goals (repeat' (first|refine qA ?_|refine qw rfl ?_|refine qx ?_|refine qy ?_|refine qi ?_|refine qj ?_|refine qo ?_|(refine qf 0 ?_;refine mv ?_;refine qg ?_)))
 refine zG 1 ?_;refine mv ?_;refine vl ?_;refine vl ?_;refine lB S rfl rfl ?_;refine usd S (by omega) rfl rfl ?_;rintro b o cap rfl;refine mv ?_;refine vl ?_;refine vl ?_;refine lB S rfl rfl ?_;refine XD S rfl rfl ?_;refine uns (l:=l.map UInt8.toNat) (cap:=cap) S ⟨by omega,by omega⟩ rfl rfl ?_;clear S;intro h S;rw [hl2];refine mv ?_;refine qg ?_;all_goals (repeat' (first|refine qA ?_|refine qw rfl ?_|refine qx ?_|refine qy ?_|refine qi ?_|refine qj ?_|refine qo ?_|(refine qf 0 ?_;refine mv ?_;refine qg ?_)|(refine zG 1 ?_;refine mv ?_;refine vl ?_;(first|refine vl ?_|refine fB S ?_|refine fS S rfl rfl ?_|refine fA ?_);(first|refine lB S rfl rfl ?_|refine qH S rfl rfl ?_|refine qZ S ?_|refine lH S ?_))))
 refine qE ⟨_,rfl,?_⟩;exact ⟨rfl,S⟩
theorem qbM {h0 h:AH} {rs:List Rs} {bb:Nat} {q:Value} (S:Hs h0 h (bst bb q (.slice none 0 0) :: rs)) (n:Nat) (hn:n≤1000000):Fn Tryz.prog Xh 183 [.pointer (some ⟨bb,0,none⟩),.int .i64 n] h (fun r h'=>∃ v',Hs h0 h' (bst bb q v' :: kU v' [] :: rs)):=by
 have hb:h.get bb=some (.cells [q,.slice none 0 0] 160 none false):=S.gB;have S1:Hs h0 (h.add (.cells [] 5 (some 1) false)) (kU (.slice (some ⟨h.next,0,none⟩) 0 0) [] :: bst bb q (.slice none 0 0) :: rs):=S.grow (fp:=fun b=>b=h.next) ((Ext.refl S.wf).add _) (.inr ⟨h.next,0,[],some 1,0,rfl,by rw [AH.qX,if_pos rfl],rfl,rfl,⟨zA3 _,zA3 _⟩,.inr rfl⟩) fun b hb=>by subst hb;exact ⟨zA3 _,zF9 _⟩
 have S2:=(S1.front (.there .here)).put (c':=[q,.slice (some ⟨h.next,0,none⟩) 0 0]) .here;have hk:Nat.ble n 281474976710656=true:=zB3 (by omega);refine QJ (v:=.tuple #[]) (h':=(h.add (.cells [] 5 (some 1) false)).put bb (.cells [q,.slice (some ⟨h.next,0,none⟩) 0 0] 160 none false)) ?_ ⟨_,S2⟩;show Z9 _ 183 183 [.pointer (some ⟨bb,0,none⟩),.int .i64 (Int.ofNat n)] h=_
 unfold Z9;rw [show Nat.beq 183 183=true from rfl];simp only [hb,hk]
theorem qdu {h0 h:AH} {rs:List Rs} {bb:Nat} (S:Hs h0 h (bst bb (.pointer none) (.slice none 0 0) :: rs)) (n:Nat) (hn:1≤n∧n≤1000000):Fn Tryz.prog Xh 145 [.pointer (some ⟨bb,0,none⟩),.int .i64 n] h (fun r h'=>∃ v',Hs h0 h' (bst bb (.pointer (some ⟨bb,0,none⟩)) v' :: kU v' [] :: rs)):=by
 refine zB rfl Tryz.func145 rfl rfl ?_;all_goals (repeat' (first|refine qA ?_|refine qw rfl ?_|refine qx ?_|refine qy ?_|refine qi ?_|refine qj ?_|refine qo ?_|(refine qf 0 ?_;refine mv ?_)))
 (refine qI rfl rfl rfl rfl rfl ((vH S (.inl rfl)).mono ?_);rintro _ h S2)<;>(replace S:=S2;clear S2;refine qg ?_)
 all_goals (repeat' (first|refine qA ?_|refine qw rfl ?_|refine qx ?_|refine qy ?_|refine qi ?_|refine qj ?_|refine qo ?_|(refine qf 1 ?_;refine mv ?_;(first|refine cT ?_|refine cF ?_|(refine cS ?_ ?_<;>intro hc))<;>(refine qg ?_))))
 refine zG 3 ?_;refine mv ?_;refine vl ?_;refine vl ?_;refine lB S rfl rfl ?_;refine vl ?_;refine mv ?_;refine vl ?_;refine vl ?_;refine lB S rfl rfl ?_;refine vl ?_;(first|refine sb ?_|refine vl ?_);refine mv ?_;(first|refine cT ?_|refine cF ?_|(refine cS ?_ ?_<;>intro hc))<;>(refine qg ?_)
 all_goals (repeat' (first|refine qA ?_|refine qw rfl ?_|refine qx ?_|refine qy ?_|refine qi ?_|refine qj ?_|refine qo ?_|(refine qf 4 ?_;refine mv ?_;refine mv ?_)))
 (refine qI rfl rfl rfl rfl rfl ((qbM S n (by omega)).mono ?_);rintro _ h ⟨v',S2⟩)<;>(replace S:=S2;clear S2;refine qg ?_)
 all_goals (repeat' (first|refine qA ?_|refine qw rfl ?_|refine qx ?_|refine qy ?_|refine qi ?_|refine qj ?_|refine qo ?_))
 refine ⟨_,rfl,?_⟩;exact ⟨_,S⟩
theorem qbj {h0:AH} (w:WfH h0) {v:Value} {l:List (List UInt8)} (r:Qy h0 v 1 eS l) (hcp:Q7 v) (hl:2≤l.length∧l.length≤20) (hw:∀ u∈l,u.length≤1000):Fn Tryz.prog Xh 114 [v,str [32]] h0 (fun u h'=>u=str (xh l)∧Hs h0 h' []):=by
 have S:=Hs.start w;have hwi:∀ i,i<l.length→(l.getD i default).length≤1000:=fun i hi=>hw _ (qK hi);have hq:(1:Int)<9223372036854775807 / ((l.length:Int) - 1):=by
  have:(2:Int)≤9223372036854775807 / ((l.length:Int) - 1):=Int.le_ediv_of_mul_le (by omega) (by omega);omega
 refine zB rfl Tryz.func114 rfl rfl ?_;all_goals (repeat' (first|refine qA ?_|refine qw rfl ?_|refine qx ?_|refine qy ?_|refine qi ?_|refine qj ?_|refine qo ?_|(refine qf 0 ?_;refine mv ?_;refine qg ?_)|(refine qf 1 ?_;refine mv ?_;(first|refine ZH S ?_|refine XD S rfl rfl ?_);refine qg ?_)|(refine qf 2 ?_;(first|refine cT ?_|refine cF ?_|(refine cS ?_ ?_<;>intro hc))<;>(refine mv ?_;refine qg ?_))|(refine qf 4 ?_;(first|refine cT ?_|refine cF ?_|(refine cS ?_ ?_<;>intro hc))<;>(refine mv ?_;refine qg ?_))|(refine qf 6 ?_;refine mv ?_;refine qg ?_)|(refine qf 7 ?_;refine mv ?_;refine tl ?_;(first|refine cT ?_|refine cF ?_|(refine cS ?_ ?_<;>intro hc))<;>(refine qg ?_))|(refine qf 8 ?_;refine mv ?_;refine tl ?_;refine mv ?_;(first|refine ZH S ?_|refine XD S rfl rfl ?_);(first|refine sb ?_|refine vl ?_);(first|refine qu ?_|refine vl ?_);(first|refine cT ?_|refine cF ?_|(refine cS ?_ ?_<;>intro hc))<;>(refine qg ?_))|(refine qf 10 ?_;refine mv ?_;refine mv ?_;refine tl ?_;refine mv ?_;(first|refine ZH S ?_|refine XD S rfl rfl ?_);(first|refine sb ?_|refine vl ?_);(first|refine ml ?_|refine vl ?_);(first|refine ad ?_|refine vl ?_);refine mv ?_;refine qg ?_)|(refine qf 11 ?_;refine mv ?_;(first|refine ZH S ?_|refine XD S rfl rfl ?_);refine mv ?_;refine qg ?_)))
 all_goals rw [show ((([32]:List UInt8).length:Nat):Int)=1 from rfl] at *
 all_goals (first|(exfalso;omega)|skip)
 refine zL (σ:=Nat×Nat) (fun (i,s) h'=>Hs h0 h' []∧i≤l.length∧1≤s∧s≤30+1000*i) (fun (i,s)=>l.length - i) (fun (i,s)=>[(0,v),(1,str [32]),(5,.int .i64 s),(39,v),(40,.int .i64 l.length),(41,.int .i64 i)]) (0,l.length - 1) zh ?_ ?_
 ·exact ⟨S,zB0 _,by omega,by omega⟩
 clear S;rintro ⟨i,s⟩ h ⟨S,i1,i2,i3⟩;all_goals (repeat' (first|refine qA ?_|refine qw rfl ?_|refine qx ?_|refine qy ?_|refine qi ?_|refine qj ?_|refine qo ?_|(refine qf 12 ?_;(first|refine cT ?_|refine cF ?_|(refine cS ?_ ?_<;>intro hc))<;>(refine qg ?_))))
 ·have hwq:=hwi i (by omega);all_goals (repeat' (first|refine qA ?_|refine qw rfl ?_|refine qx ?_|refine qy ?_|refine qi ?_|refine qj ?_|refine qo ?_|(refine qf 13 ?_;(first|refine Qd S ?_|refine zZ S rfl rfl ?_);(first|refine lB S rfl rfl ?_|refine qH S rfl rfl ?_|refine qZ S ?_|refine lH S ?_);refine mv ?_;refine qg ?_)|(refine qf 14 ?_;refine mv ?_;refine tl ?_;refine mv ?_;(first|refine sb ?_|refine vl ?_);(first|refine cT ?_|refine cF ?_|(refine cS ?_ ?_<;>intro hc))<;>(refine qg ?_))))
  all_goals (try simp only [zA0] at *)
  all_goals (first|(exfalso;omega)|skip)
  all_goals (repeat' (first|refine qA ?_|refine qw rfl ?_|refine qx ?_|refine qy ?_|refine qi ?_|refine qj ?_|refine qo ?_|(refine qf 16 ?_;refine mv ?_;refine mv ?_;refine tl ?_;(first|refine ad ?_|refine vl ?_);refine mv ?_;refine qg ?_)|(refine qf 17 ?_;(first|refine ad ?_|refine vl ?_);refine mv ?_;refine qg ?_)))
  refine ⟨(i+1,s+(l.getD i default).length),?_,?_,zh⟩
  ·show l.length - (i+1)<l.length - i;omega
  ·exact ⟨S,by omega,by omega,by omega⟩
 ·skip
  all_goals (repeat' (first|refine qA ?_|refine qw rfl ?_|refine qx ?_|refine qy ?_|refine qi ?_|refine qj ?_|refine qo ?_|(refine qf 18 ?_;(refine al S ?_;clear S;intro b h S);refine qg ?_)))
  obtain ⟨bb,hnm⟩:∃ x,x=b:=⟨_,rfl⟩;subst hnm;all_goals (repeat' (first|refine qA ?_|refine qw rfl ?_|refine qx ?_|refine qy ?_|refine qi ?_|refine qj ?_|refine qo ?_|(refine qf 19 ?_;refine mv ?_)))
  (refine qI rfl rfl rfl rfl rfl ((qdu S s (by omega)).mono ?_);rintro _ h ⟨v1,S2⟩)<;>(replace S:=S2;clear S2;refine qg ?_)
  all_goals (repeat' (first|refine qA ?_|refine qw rfl ?_|refine qx ?_|refine qy ?_|refine qi ?_|refine qj ?_|refine qo ?_|(refine qf 20 ?_;refine mv ?_;(first|refine Qd S ?_|refine zZ S rfl rfl ?_);(first|refine lB S rfl rfl ?_|refine qH S rfl rfl ?_|refine qZ S ?_|refine lH S ?_))))
  have hb1:([]:List UInt8).length+(l.getD 0 default).length≤1000000:=by have:=hwi 0 (by omega);simp only [List.length_nil];omega
  (refine qI rfl rfl rfl rfl rfl ((Zt (l.getD 0 default) S (.inr rfl) hb1).mono ?_);rintro _ h ⟨v2,S2⟩)<;>(replace S:=S2;clear S2;refine qg ?_)
  rw [zC0] at S;(repeat (refine qA ?_));refine qf 21 ?_;refine mv ?_;refine su0 1 l.length S w r hcp ?_;intro vq rq cq;have hlq:((l.drop 1).take (l.length - 1)).length=l.length - 1:=by simp
  (first|refine ZH S ?_|refine XD S rfl rfl ?_);refine mv ?_;refine qg ?_;all_goals (repeat' (first|refine qA ?_|refine qw rfl ?_|refine qx ?_|refine qy ?_|refine qi ?_|refine qj ?_|refine qo ?_|(refine qf 21 ?_;refine mv ?_;(refine dr S rfl rfl ?_;clear S;intro vq S);(first|refine ZH S ?_|refine XD S rfl rfl ?_);refine mv ?_;refine qg ?_)))
  rw [hlq];obtain ⟨q,hqd⟩:∃ q,q=(l.drop 1).take (l.length - 1):=⟨_,rfl⟩
  rw [← hqd] at rq hlq;have hqw:∀ u∈q,u.length≤1000:=fun u hu=>hw u (List.mem_of_mem_drop (List.mem_of_mem_take (hqd ▸ hu)));have hql:q=l.drop 1:=by rw [hqd];exact zF7 (by simp)
  have hl0:l=l.getD 0 default :: q:=by
   rw [hql];match l,hl with
   | a :: t,_=>rfl
  refine zL (σ:=Nat×Value) (fun (i,v3) h'=>Hs h0 h' [bst bb (.pointer (some ⟨bb,0,none⟩)) v3,kU v3 (l.getD 0 default ++ yG (q.take i))]∧i≤q.length) (fun (i,v3)=>q.length - i) (fun (i,v3)=>[(1,str [32]),(8,.pointer (some ⟨bb,0,none⟩)),(63,vq),(64,.int .i64 ((l.length - 1:Nat):Int)),(65,.int .i64 i)]) (0,v2) zh ?_ ?_
  ·exact ⟨by rw [List.take_zero];simpa [yG] using S,zB0 _⟩
  clear S;rintro ⟨i,v3⟩ h ⟨S,i1⟩;have hT:=Gx (r:=q.take i) fun u hu=>hqw u (List.mem_of_mem_take hu);have hT2:(q.take i).length≤20:=by simp;omega
  have h0w:=hwi 0 (by omega);all_goals (repeat' (first|refine qA ?_|refine qw rfl ?_|refine qx ?_|refine qy ?_|refine qi ?_|refine qj ?_|refine qo ?_|(refine qf 22 ?_;(first|refine cT ?_|refine cF ?_|(refine cS ?_ ?_<;>intro hc))<;>(refine qg ?_))))
  ·have hiq:i<q.length:=by omega
   have hwq:=hqw _ (qK hiq);all_goals (repeat' (first|refine qA ?_|refine qw rfl ?_|refine qx ?_|refine qy ?_|refine qi ?_|refine qj ?_|refine qo ?_|(refine qf 23 ?_;(first|refine Qd S ?_|refine zZ S rfl rfl ?_);(first|refine lB S rfl rfl ?_|refine qH S rfl rfl ?_|refine qZ S ?_|refine lH S ?_);refine mv ?_;refine qg ?_)|(refine qf 24 ?_;refine mv ?_)))
   have hb2:(l.getD 0 default ++ yG (q.take i)).length+([32]:List UInt8).length≤1000000:=by rw [zB2];simp only [zC4,List.length_nil];omega
   have hb3:(l.getD 0 default ++ yG (q.take i) ++ [32]).length+(q.getD i default).length≤1000000:=by simp only [zB2,zC4,List.length_nil];omega
   (refine qI rfl rfl rfl rfl rfl ((Zt [32] S (.inr rfl) hb2).mono ?_);rintro _ h ⟨v4,S2⟩)<;>(replace S:=S2;clear S2;refine qg ?_)
   all_goals (repeat' (first|refine qA ?_|refine qw rfl ?_|refine qx ?_|refine qy ?_|refine qi ?_|refine qj ?_|refine qo ?_|(refine qf 25 ?_;refine mv ?_)))
   (refine qI rfl rfl rfl rfl rfl ((Zt (q.getD i default) S (.inr rfl) hb3).mono ?_);rintro _ h ⟨v5,S2⟩)<;>(replace S:=S2;clear S2;refine qg ?_)
   all_goals (repeat' (first|refine qA ?_|refine qw rfl ?_|refine qx ?_|refine qy ?_|refine qi ?_|refine qj ?_|refine qo ?_|(refine qf 26 ?_;(first|refine ad ?_|refine vl ?_);refine mv ?_;refine qg ?_)))
   refine ⟨(i+1,v5),?_,?_,zh⟩
   ·show q.length - (i+1)<q.length - i;omega
   ·refine ⟨?_,by omega⟩;rw [zl hiq,kY,← zF1,← zF1];exact S
  ·obtain rfl:i=q.length:=by omega
   rw [zD4,← xg,← hl0] at S;have hjl:0<(xh l).length:=by
    rw [hl0,xg];cases q with
    | nil=>exfalso;simp only [List.length_nil] at hlq;omega
    | cons a t=>simp only [yG,zG1,zB2,zC4];omega
   have hjm:(xh l).length≤1000000:=by rw [hl0,xg,zB2];rw [zD4] at hT hT2;omega
   all_goals (repeat' (first|refine qA ?_|refine qw rfl ?_|refine qx ?_|refine qy ?_|refine qi ?_|refine qj ?_|refine qo ?_|(refine qf 27 ?_;skip)))
   (refine qI rfl rfl rfl rfl rfl ((qae S ⟨hjl,hjm⟩).mono ?_);rintro _ h ⟨rfl,S2⟩)<;>(replace S:=S2;clear S2;refine mv ?_;refine qg ?_)
   all_goals (repeat' (first|refine qA ?_|refine qw rfl ?_|refine qx ?_|refine qy ?_|refine qi ?_|refine qj ?_|refine qo ?_|(refine qf 27 ?_;skip)))
   refine qE ⟨_,rfl,?_⟩;exact ⟨rfl,S.drop⟩
end Go.Proofs.Xx
namespace Go.Proofs.Xx
open Go Go.Proofs
section
variable {P:Program} {X:Extern} {sz:Nat} {L L':Ks} {h:AH} {ops:Array Oper} {os:List Oper} {o:Oper} {R:Ks→AH→Prop}
theorem wrap_u32 {n:Int} (h:0≤n∧n≤4294967295):IntKind.u32.wrap n=n:=wZ (by simpa [IntKind.min,IntKind.max,IntKind.signed,IntKind.bits] using h)
theorem qdP {x y:Operand} {ty ty2:TypeId} {a b:Int} (w:KO P X sz ops os L' h R) (ho:o.op = .binOp .rem ty x y ty2:=by exact rfl) (hg:qC ops L.tree o.guard=some true:=by exact rfl) (hx:kA L x=some (.int .u32 a):=by exact rfl) (hy:kA L y=some (.int .u32 b):=by exact rfl)
 (hb:0≤a∧0<b:=by omega) (hp:qM sz L o.dst (.int .u32 (a % b))=some L':=by exact rfl):KO P X sz ops (o :: os) L h R :=
 je ho hg hx hy (by
  have h1:¬ b=0:=by omega
  have h2:a.tmod b=a % b:=Int.tmod_eq_emod_of_nonneg hb.1;simp only [Qj,decide_true,decide_eq_false h1,h2]) hp w
theorem qdT {x y:Operand} {ty ty2:TypeId} {a b:Int} (w:KO P X sz ops os L' h R) (ho:o.op = .binOp .quo ty x y ty2:=by exact rfl) (hg:qC ops L.tree o.guard=some true:=by exact rfl) (hx:kA L x=some (.int .u32 a):=by exact rfl) (hy:kA L y=some (.int .u32 b):=by exact rfl)
 (hb:0≤a∧a≤4294967295∧0<b:=by omega) (hp:qM sz L o.dst (.int .u32 (a / b))=some L':=by exact rfl):KO P X sz ops (o :: os) L h R :=
 je ho hg hx hy (by
  have h1:¬ b=0:=by omega
  have h2:a.tdiv b=a / b:=Int.tdiv_eq_ediv_of_nonneg hb.1;have h3:0≤a / b:=Int.ediv_nonneg hb.1 (by omega);have h4:a / b≤a:=Int.ediv_le_self _ hb.1;simp only [Qj,decide_true,decide_eq_false h1,h2,wrap_u32 ⟨h3,(by omega:a / b≤4294967295)⟩]) hp w
theorem qdZ {x y:Operand} {ty ty2:TypeId} {a b:Int} (w:KO P X sz ops os L' h R) (ho:o.op = .binOp .mul ty x y ty2:=by exact rfl) (hg:qC ops L.tree o.guard=some true:=by exact rfl) (hx:kA L x=some (.int .u32 a):=by exact rfl) (hy:kA L y=some (.int .u32 b):=by exact rfl)
 (hb:0≤a*b∧a*b≤4294967295:=by omega) (hp:qM sz L o.dst (.int .u32 (a*b))=some L':=by exact rfl):KO P X sz ops (o :: os) L h R :=
 je ho hg hx hy (by simp only [Qj,decide_true,wrap_u32 hb]) hp w
theorem qdj {x y:Operand} {ty ty2:TypeId} {a b:Int} (w:KO P X sz ops os L' h R) (ho:o.op = .binOp .add ty x y ty2:=by exact rfl) (hg:qC ops L.tree o.guard=some true:=by exact rfl) (hx:kA L x=some (.int .u32 a):=by exact rfl) (hy:kA L y=some (.int .u32 b):=by exact rfl)
 (hb:0≤a+b∧a+b≤4294967295:=by omega) (hp:qM sz L o.dst (.int .u32 (a+b))=some L':=by exact rfl):KO P X sz ops (o :: os) L h R :=
 je ho hg hx hy (by simp only [Qj,decide_true,wrap_u32 hb]) hp w
theorem qe8 {x:Operand} {s d:TypeId} {k1 k2:IntKind} {a:Int} (w:KO P X sz ops os L' h R) (ho:o.op = .convert s d x:=by exact rfl) (hg:qC ops L.tree o.guard=some true:=by exact rfl) (hx:kA L x=some (.int k1 a):=by exact rfl) (hs:P.underlying s=some (.int k2):=by exact rfl) (hd:P.underlying d=some (.int .u32):=by exact rfl)
 (hb:0≤a∧a≤4294967295:=by omega) (hp:qM sz L o.dst (.int .u32 a)=some L':=by exact rfl):KO P X sz ops (o :: os) L h R :=
 zn (v:=.int .u32 a) hg (by rw [ho];simp only [ja,qF hx,zT,hs,hd,wrap_u32 hb]) hp w
theorem slA {x lo hi:Operand} {vl vr:Value} {ty e' e:TypeId} {b m l r z:Nat} {c:List Value} (hb:h.get b=some (.cells c e none false))
 (w:KO P X sz ops os L' h R) (ho:o.op = .slice ty x (some lo) (some hi) none:=by exact rfl) (hg:qC ops L.tree o.guard=some true:=by exact rfl) (hx:kA L x=some (.pointer (some ⟨b,0,none⟩)):=by exact rfl)
 (h1:kA L lo=some vl:=by exact rfl) (h2:kA L hi=some vr:=by exact rfl) (b1:qU (some vl) 0=some l:=by exact rfl) (hu:P.underlying ty=some (.array m e'):=by exact rfl) (b2:qU (some vr) m=some r:=by exact rfl)
 (hc:l≤r∧r≤m∧l<m:=by omega) (hz:zD P e'=some z:=by exact rfl) (hp:qM sz L o.dst (.slice (some ⟨b,0+l*z,none⟩) (r - l) (m - l))=some L':=by exact rfl):KO P X sz ops (o :: os) L h R:=by
 refine zn (v:=.slice (some ⟨b,0+l*z,none⟩) (r - l) (m - l)) (h':=h) hg ?_ hp w;have hne:Nat.beq l m=false:=by rw [Bool.eq_false_iff];intro q;have:=zA6 q;omega
 rw [ho];simp only [ja,qF hx,zS,qF h1,qF h2,YU,zx,hu,hb,hz,b1,b2,zB3 hc.1,zB3 hc.2.1,zF8,hne,qO]
end
variable [Flag]
theorem qcK {h0:AH} (hf:Flag.b=true) (n:Nat) (hn:1≤n∧n<18446744073709551616):Fn Tryz.prog Xh 203 [.int .u64 n] h0 (fun v h'=>v = .int .i64 (Lib.nDigits n)∧h'=h0):=by
 refine QJ (v:=.int .i64 (Lib.nDigits n)) (h':=h0) ?_ ⟨rfl,rfl⟩;show (if Flag.b=true∧1≤(n:Int)∧(n:Int)<18446744073709551616 then some (Value.int .i64 (Lib.nDigits (n:Int).toNat),h0) else none)=_
 rw [if_pos ⟨hf,by omega,by omega⟩,zA0]
def qf3 (l:List Value):List Value:=l ++ List.replicate (24 - l.length) (.int .u8 0)
theorem qaa:∀ k,k<100→d100.getD (k*2) 0=UInt8.ofNat (48+k / 10)∧d100.getD (k*2+1) 0=UInt8.ofNat (48+k % 10):=by decide +kernel
section
variable {P:Program} {X:Extern} {sz:Nat} {L L':Ks} {h:AH} {ops:Array Oper} {os:List Oper} {o:Oper} {R:Ks→AH→Prop}
theorem ti0 {x i:Operand} {ty:TypeId} {ik:IntKind} {a:Int} (k:Nat) (w:KO P X sz ops os L' h R) (ho:o.op = .index ty x i:=by exact rfl) (hg:qC ops L.tree o.guard=some true:=by exact rfl) (hx:kA L x=some (str d100):=by exact rfl) (hi:kA L i=some (.int ik a):=by exact rfl) (hu:P.underlying ty=some .string:=by exact rfl)
 (ha:a=(k:Int)*2∧k<100:=by omega) (hp:qM sz L o.dst (.int .u8 ((48+k / 10:Nat):Int))=some L':=by exact rfl):KO P X sz ops (o :: os) L h R:=by
 have e:(((d100.getD a.toNat 0).toNat:Nat):Int)=((48+k / 10:Nat):Int):=by
  rw [show a.toNat=k*2 by omega,(qaa k ha.2).1,u8t (by omega)]
 rw [← e] at hp;exact ti w ho hg hx hi hu ⟨by omega,by rw [show d100.length=200 by decide +kernel];omega⟩ hp
theorem ti1 {x i:Operand} {ty:TypeId} {ik:IntKind} {a:Int} (k:Nat) (w:KO P X sz ops os L' h R) (ho:o.op = .index ty x i:=by exact rfl) (hg:qC ops L.tree o.guard=some true:=by exact rfl) (hx:kA L x=some (str d100):=by exact rfl) (hi:kA L i=some (.int ik a):=by exact rfl) (hu:P.underlying ty=some .string:=by exact rfl)
 (ha:a=(k:Int)*2+1∧k<100:=by omega) (hp:qM sz L o.dst (.int .u8 ((48+k % 10:Nat):Int))=some L':=by exact rfl):KO P X sz ops (o :: os) L h R:=by
 have e:(((d100.getD a.toNat 0).toNat:Nat):Int)=((48+k % 10:Nat):Int):=by
  rw [show a.toNat=k*2+1 by omega,(qaa k ha.2).2,u8t (by omega)]
 rw [← e] at hp;exact ti w ho hg hx hi hu ⟨by omega,by rw [show d100.length=200 by decide +kernel];omega⟩ hp
end
abbrev z8 (k:Nat):List Value:=List.replicate k (.int .u8 0)
abbrev u8v (k:Nat):Value:=.int .u8 ((k:Nat):Int)
theorem qd9 {h0 h:AH} {rs:List Rs} {b:Nat} (S:Hs h0 h (.blk b (z8 24) 228 :: rs)) (n:Nat) (hn:n<10000):Fn Tryz.prog Xh 204 [.slice (some ⟨b,1,none⟩) 4 23,.int .u64 n] h
 (fun _ h'=>Hs h0 h' (.blk b (.int .u8 0 :: u8v (48+n / 100 / 10) :: u8v (48+n / 100 % 10) :: u8v (48+n % 100 / 10) :: u8v (48+n % 100 % 10) :: z8 19) 228 :: rs)):=by
 refine zB rfl Tryz.func204 rfl rfl ?_;all_goals (repeat' (first|refine qA ?_|refine qw rfl ?_|refine qx ?_|refine qy ?_|refine qi ?_|refine qj ?_|refine qo ?_|(refine qf 0 ?_;refine mv ?_;(first|refine vl ?_|refine ZH S ?_|refine XD S rfl rfl ?_);refine mv ?_;refine qg ?_)))
 refine zL (σ:=Unit) (fun _ h'=>Hs h0 h' (.blk b (z8 24) 228 :: rs)) (fun _=>0) (fun _=>[(0,.slice (some ⟨b,1,none⟩) 4 23),(1,.int .u64 n),(4,.int .i64 4)]) () zh ?_ ?_
 ·exact S
 clear S;rintro - h S;all_goals (repeat' (first|refine qA ?_|refine qw rfl ?_|refine qx ?_|refine qy ?_|refine qi ?_|refine qj ?_|refine qo ?_|(refine qf 1 ?_;refine mv ?_;(first|refine cT ?_|refine cF ?_|(refine cS ?_ ?_<;>intro hc))<;>(refine qg ?_))|(refine qf 12 ?_;refine mv ?_;refine qe8 ?_;refine mv ?_;refine qg ?_)|(refine qf 13 ?_;refine mv ?_;(first|refine cT ?_|refine cF ?_|(refine cS ?_ ?_<;>intro hc))<;>(refine qg ?_))|(refine qf 14 ?_;refine mv ?_;refine qdP ?_;refine mv ?_;refine qg ?_)|(refine qf 15 ?_;refine mv ?_;refine qdT ?_;refine mv ?_;refine qg ?_)|(refine qf 16 ?_;refine mv ?_;refine qdT ?_;refine qdZ ?_;refine mv ?_;refine qdP ?_;refine qdZ ?_;refine mv ?_;refine mv ?_;refine qg ?_)))
 refine zG 17 ?_;refine mv ?_;refine mv ?_;refine sb ?_;refine mv ?_;refine mv ?_;refine sb ?_;refine mv ?_;refine qdj ?_;refine ti1 (n % 100) ?_;refine mv ?_;refine ti0 (n % 100) ?_;refine vl ?_;(refine sB S rfl rfl ?_;clear S;intro h S);refine vl ?_;(refine sB S rfl rfl ?_;clear S;intro h S);refine qg ?_;(repeat (refine qA ?_));refine zG 18 ?_;refine mv ?_;refine mv ?_;refine sb ?_;refine mv ?_;refine mv ?_;refine sb ?_;refine mv ?_;refine qdj ?_;refine ti1 (n / 100) ?_;refine mv ?_;refine ti0 (n / 100) ?_;refine vl ?_;(refine sB S rfl rfl ?_;clear S;intro h S);refine vl ?_;(refine sB S rfl rfl ?_;clear S;intro h S);refine qg ?_;all_goals (repeat' (first|refine qA ?_|refine qw rfl ?_|refine qx ?_|refine qy ?_|refine qi ?_|refine qj ?_|refine qo ?_|(refine qf 19 ?_;refine mv ?_;(first|refine sb ?_|refine vl ?_);refine mv ?_;refine qg ?_)|(refine qf 20 ?_;refine mv ?_;(first|refine cT ?_|refine cF ?_|(refine cS ?_ ?_<;>intro hc))<;>(refine qg ?_))|(refine qf 25 ?_;refine mv ?_;(first|refine cT ?_|refine cF ?_|(refine cS ?_ ?_<;>intro hc))<;>(refine qg ?_))))
 refine ⟨_,rfl,?_⟩;exact S
theorem qea {h0 h:AH} {rs:List Rs} {b:Nat} (S:Hs h0 h (.blk b (z8 24) 228 :: rs)) (n:Nat) (hn:n<1000):Fn Tryz.prog Xh 204 [.slice (some ⟨b,1,none⟩) 3 23,.int .u64 n] h
 (fun _ h'=>Hs h0 h' (.blk b (.int .u8 0 :: u8v (48+n / 100) :: u8v (48+n % 100 / 10) :: u8v (48+n % 100 % 10) :: z8 20) 228 :: rs)):=by
 refine zB rfl Tryz.func204 rfl rfl ?_;all_goals (repeat' (first|refine qA ?_|refine qw rfl ?_|refine qx ?_|refine qy ?_|refine qi ?_|refine qj ?_|refine qo ?_|(refine qf 0 ?_;refine mv ?_;(first|refine vl ?_|refine ZH S ?_|refine XD S rfl rfl ?_);refine mv ?_;refine qg ?_)))
 refine zL (σ:=Unit) (fun _ h'=>Hs h0 h' (.blk b (z8 24) 228 :: rs)) (fun _=>0) (fun _=>[(0,.slice (some ⟨b,1,none⟩) 3 23),(1,.int .u64 n),(4,.int .i64 3)]) () zh ?_ ?_
 ·exact S
 clear S;rintro - h S;all_goals (repeat' (first|refine qA ?_|refine qw rfl ?_|refine qx ?_|refine qy ?_|refine qi ?_|refine qj ?_|refine qo ?_|(refine qf 1 ?_;refine mv ?_;(first|refine cT ?_|refine cF ?_|(refine cS ?_ ?_<;>intro hc))<;>(refine qg ?_))|(refine qf 12 ?_;refine mv ?_;refine qe8 ?_;refine mv ?_;refine qg ?_)|(refine qf 13 ?_;refine mv ?_;(first|refine cT ?_|refine cF ?_|(refine cS ?_ ?_<;>intro hc))<;>(refine qg ?_))|(refine qf 20 ?_;refine mv ?_;(first|refine cT ?_|refine cF ?_|(refine cS ?_ ?_<;>intro hc))<;>(refine qg ?_))|(refine qf 21 ?_;refine mv ?_;refine qdP ?_;refine qdZ ?_;refine mv ?_;refine qg ?_)|(refine qf 22 ?_;refine mv ?_;refine qdT ?_;refine mv ?_;refine qg ?_)))
 refine zG 23 ?_;refine mv ?_;refine mv ?_;refine sb ?_;refine mv ?_;refine mv ?_;refine sb ?_;refine mv ?_;refine qdj ?_;refine ti1 (n % 100) ?_;refine mv ?_;refine ti0 (n % 100) ?_;refine vl ?_;(refine sB S rfl rfl ?_;clear S;intro h S);refine vl ?_;(refine sB S rfl rfl ?_;clear S;intro h S);refine qg ?_;all_goals (repeat' (first|refine qA ?_|refine qw rfl ?_|refine qx ?_|refine qy ?_|refine qi ?_|refine qj ?_|refine qo ?_|(refine qf 24 ?_;refine mv ?_;(first|refine sb ?_|refine vl ?_);refine mv ?_;refine qg ?_)|(refine qf 25 ?_;refine mv ?_;(first|refine cT ?_|refine cF ?_|(refine cS ?_ ?_<;>intro hc))<;>(refine qg ?_))|(refine qf 26 ?_;refine mv ?_;refine mv ?_;refine qdj ?_;(first|refine cU ?_|refine vl ?_);refine vl ?_;(first|(refine sB S rfl rfl ?_;clear S;intro h S)|(refine JU S rfl rfl ?_;clear S;intro h S));refine qg ?_)))
 refine ⟨_,rfl,?_⟩;exact S
theorem qe6 {n:Nat} (h:1000≤n∧n<10000):[48+n / 100 / 10,48+n / 100 % 10,48+n % 100 / 10,48+n % 100 % 10].map UInt8.ofNat=JX n:=by
 rw [yt (by omega),yt (show ¬ n / 10<10 by omega),yt (show ¬ n / 10 / 10<10 by omega),yu (show n / 10 / 10 / 10<10 by omega)];have e1:n / 10 / 10 / 10=n / 100 / 10:=by omega
 have e2:n / 10 / 10 % 10=n / 100 % 10:=by omega
 have e3:n / 10 % 10=n % 100 / 10:=by omega
 have e4:n % 10=n % 100 % 10:=by omega
 rw [e1,e2,e3,e4];rfl
theorem qe7 {n:Nat} (h:100≤n∧n<1000):[48+n / 100,48+n % 100 / 10,48+n % 100 % 10].map UInt8.ofNat=JX n:=by
 rw [yt (by omega),yt (show ¬ n / 10<10 by omega),yu (show n / 10 / 10<10 by omega)];have e2:n / 10 / 10=n / 100:=by omega
 have e3:n / 10 % 10=n % 100 / 10:=by omega
 have e4:n % 10=n % 100 % 10:=by omega
 rw [e2,e3,e4];rfl
theorem qfL {n:Nat} (h:1000≤n∧n<10000):Lib.nDigits n=4:=by
 rw [Lib.nDigits,dif_neg (by omega),Lib.nDigits,dif_neg (by omega),Lib.nDigits,dif_neg (by omega),Lib.nDigits,dif_pos (by omega)]
theorem qfM {n:Nat} (h:100≤n∧n<1000):Lib.nDigits n=3:=by
 rw [Lib.nDigits,dif_neg (by omega),Lib.nDigits,dif_neg (by omega),Lib.nDigits,dif_pos (by omega)]
theorem qcZ {h0:AH} (w:WfH h0) (hf:Flag.b=true) (n:Nat) (hn:n<10000):Fn Tryz.prog Xh 181 [.int .i64 n,.int .i64 10] h0 (fun v h'=>v=str (JX n)∧Hs h0 h' []):=by
 have S:=Hs.start w;refine zB rfl Tryz.func181 rfl rfl ?_;all_goals (repeat' (first|refine qA ?_|refine qw rfl ?_|refine qx ?_|refine qy ?_|refine qi ?_|refine qj ?_|refine qo ?_|(refine qf 0 ?_;refine mv ?_;refine qg ?_)|(refine qf 1 ?_;refine mv ?_;(first|refine cT ?_|refine cF ?_|(refine cS ?_ ?_<;>intro hc))<;>(refine qg ?_))|(refine qf 2 ?_;refine mv ?_;(first|refine cT ?_|refine cF ?_|(refine cS ?_ ?_<;>intro hc))<;>(refine mv ?_;(first|refine off ?_|refine mv ?_);(first|refine off ?_|(first|refine cT ?_|refine cF ?_|(refine cS ?_ ?_<;>intro hc)))<;>(refine vl ?_;refine qg ?_)))|(refine qf 4 ?_;(refine al S ?_;clear S;intro b h S);refine qg ?_)|(refine qf 5 ?_;refine mv ?_;(first|refine cW ?_|refine vl ?_);refine mv ?_;refine qg ?_)|(refine qf 6 ?_;refine mv ?_;(first|refine cT ?_|refine cF ?_|(refine cS ?_ ?_<;>intro hc))<;>(refine qg ?_))))
 ·all_goals (repeat' (first|refine qA ?_|refine qw rfl ?_|refine qx ?_|refine qy ?_|refine qi ?_|refine qj ?_|refine qo ?_|(refine qf 3 ?_;refine mv ?_)))
  (refine qI rfl rfl rfl rfl rfl ((qbh S.wf n (by omega)).mono ?_);rintro _ h ⟨rfl,x⟩)<;>(replace S:=S.zk x;clear x;refine mv ?_;refine qg ?_)
  all_goals (repeat' (first|refine qA ?_|refine qw rfl ?_|refine qx ?_|refine qy ?_|refine qi ?_|refine qj ?_|refine qo ?_|(refine qf 0 ?_;refine mv ?_;refine qg ?_)|(refine qf 1 ?_;refine mv ?_;(first|refine cT ?_|refine cF ?_|(refine cS ?_ ?_<;>intro hc))<;>(refine qg ?_))|(refine qf 2 ?_;refine mv ?_;(first|refine cT ?_|refine cF ?_|(refine cS ?_ ?_<;>intro hc))<;>(refine mv ?_;(first|refine off ?_|refine mv ?_);(first|refine off ?_|(first|refine cT ?_|refine cF ?_|(refine cS ?_ ?_<;>intro hc)))<;>(refine vl ?_;refine qg ?_)))|(refine qf 3 ?_;refine mv ?_)|(refine qf 4 ?_;(refine al S ?_;clear S;intro b h S);refine qg ?_)|(refine qf 5 ?_;refine mv ?_;(first|refine cW ?_|refine vl ?_);refine mv ?_;refine qg ?_)|(refine qf 6 ?_;refine mv ?_;(first|refine cT ?_|refine cF ?_|(refine cS ?_ ?_<;>intro hc))<;>(refine qg ?_))|(refine qf 7 ?_;refine mv ?_;refine ng ?_;refine mv ?_;refine qg ?_)|(refine qf 8 ?_;refine mv ?_)|(refine qf 14 ?_;refine mv ?_;(first|refine cW ?_|refine vl ?_);refine mv ?_;refine mv ?_;(first|refine cT ?_|refine cF ?_|(refine cS ?_ ?_<;>intro hc)))))
  refine qE ⟨_,rfl,?_⟩;exact ⟨rfl,S⟩
 ·skip
  all_goals (repeat' (first|refine qA ?_|refine qw rfl ?_|refine qx ?_|refine qy ?_|refine qi ?_|refine qj ?_|refine qo ?_|(refine qf 4 ?_;(refine al S ?_;clear S;intro b h S);refine qg ?_)|(refine qf 5 ?_;refine mv ?_;(first|refine cW ?_|refine vl ?_);refine mv ?_;refine qg ?_)|(refine qf 6 ?_;refine mv ?_;(first|refine cT ?_|refine cF ?_|(refine cS ?_ ?_<;>intro hc))<;>(refine qg ?_))))
  obtain ⟨bb,hnm⟩:∃ x,x=b:=⟨_,rfl⟩;subst hnm;all_goals (repeat' (first|refine qA ?_|refine qw rfl ?_|refine qx ?_|refine qy ?_|refine qi ?_|refine qj ?_|refine qo ?_|(refine qf 8 ?_;refine mv ?_)))
  (refine qI rfl rfl rfl rfl rfl ((qcK hf n (by omega)).mono ?_);rintro _ h2 ⟨rfl,rfl⟩)<;>(refine mv ?_;refine qg ?_)
  rcases zA7 n 1000 with q|q
  ·rw [qfM (by omega)];(repeat (refine qA ?_));refine qf 9 ?_;refine mv ?_;refine ad ?_;refine slA (l:=1) (r:=4) (m:=24) S.gB ?_;refine mv ?_;(refine qI rfl rfl rfl rfl rfl ((qea S n (by omega)).mono ?_);rintro _ h S2)<;>(replace S:=S2;clear S2;refine qg ?_)
   all_goals (repeat' (first|refine qA ?_|refine qw rfl ?_|refine qx ?_|refine qy ?_|refine qi ?_|refine qj ?_|refine qo ?_|(refine qf 10 ?_;refine mv ?_;(first|refine cT ?_|refine cF ?_|(refine cS ?_ ?_<;>intro hc))<;>(refine qg ?_))))
   (repeat (refine qA ?_));refine qf 13 ?_;refine mv ?_;refine ad ?_;refine slA (l:=1) (r:=4) (m:=24) S.gB ?_;have r:Qy h (.slice (some ⟨bb,1,none⟩) 3 23) 1 eU [48+n / 100,48+n % 100 / 10,48+n % 100 % 10]:=.inr ⟨bb,1,23,_,_,none,false,rfl,S.gB,rfl⟩;refine bS r ?_;rw [qe7 (by omega)];refine mv ?_;refine qg ?_;all_goals (repeat' (first|refine qA ?_|refine qw rfl ?_|refine qx ?_|refine qy ?_|refine qi ?_|refine qj ?_|refine qo ?_|(refine qf 13 ?_;refine mv ?_;(first|refine ad ?_|refine vl ?_))))
   refine qE ⟨_,rfl,?_⟩;exact ⟨rfl,S.drop⟩
  ·rw [qfL (by omega)];(repeat (refine qA ?_));refine qf 9 ?_;refine mv ?_;refine ad ?_;refine slA (l:=1) (r:=5) (m:=24) S.gB ?_;refine mv ?_;(refine qI rfl rfl rfl rfl rfl ((qd9 S n (by omega)).mono ?_);rintro _ h S2)<;>(replace S:=S2;clear S2;refine qg ?_)
   all_goals (repeat' (first|refine qA ?_|refine qw rfl ?_|refine qx ?_|refine qy ?_|refine qi ?_|refine qj ?_|refine qo ?_|(refine qf 10 ?_;refine mv ?_;(first|refine cT ?_|refine cF ?_|(refine cS ?_ ?_<;>intro hc))<;>(refine qg ?_))))
   (repeat (refine qA ?_));refine qf 13 ?_;refine mv ?_;refine ad ?_;refine slA (l:=1) (r:=5) (m:=24) S.gB ?_;have r:Qy h (.slice (some ⟨bb,1,none⟩) 4 23) 1 eU [48+n / 100 / 10,48+n / 100 % 10,48+n % 100 / 10,48+n % 100 % 10]:=.inr ⟨bb,1,23,_,_,none,false,rfl,S.gB,rfl⟩;refine bS r ?_;rw [qe6 (by omega)];refine mv ?_;refine qg ?_;all_goals (repeat' (first|refine qA ?_|refine qw rfl ?_|refine qx ?_|refine qy ?_|refine qi ?_|refine qj ?_|refine qo ?_|(refine qf 13 ?_;refine mv ?_;(first|refine ad ?_|refine vl ?_))))
   refine qE ⟨_,rfl,?_⟩;exact ⟨rfl,S.drop⟩
theorem qcR {h0:AH} (w:WfH h0) (hf:Flag.b=true) (n:Nat) (hn:n<10000):Fn Tryz.prog Xh 112 [.int .i64 n] h0 (fun v h'=>v=str (JX n)∧Hs h0 h' []):=by
 have S:=Hs.start w;have two:∀ {h1:AH} (w:WfH h1),Fn Tryz.prog Xh 143 [.int .i64 n] h1 (fun v h'=>v=str (JX n)∧Hs h1 h' []):=fun {h1} w=>by
  have S:=Hs.start w;refine zB rfl Tryz.func143 rfl rfl ?_;all_goals (repeat' (first|refine qA ?_|refine qw rfl ?_|refine qx ?_|refine qy ?_|refine qi ?_|refine qj ?_|refine qo ?_|(refine qf 0 ?_;refine mv ?_;refine qg ?_)|(refine qf 1 ?_;refine mv ?_)))
  (refine qI rfl rfl rfl rfl rfl ((qcZ S.wf hf n hn).mono ?_);rintro _ h ⟨rfl,x⟩)<;>(replace S:=S.zk x;clear x;refine mv ?_;refine qg ?_)
  all_goals (repeat' (first|refine qA ?_|refine qw rfl ?_|refine qx ?_|refine qy ?_|refine qi ?_|refine qj ?_|refine qo ?_))
  refine qE ⟨_,rfl,?_⟩;exact ⟨rfl,S⟩
 refine zB rfl Tryz.func112 rfl rfl ?_;all_goals (repeat' (first|refine qA ?_|refine qw rfl ?_|refine qx ?_|refine qy ?_|refine qi ?_|refine qj ?_|refine qo ?_|(refine qf 0 ?_;refine mv ?_;refine qg ?_)|(refine qf 1 ?_;refine mv ?_)))
 (refine qI rfl rfl rfl rfl rfl ((two S.wf).mono ?_);rintro _ h ⟨rfl,x⟩)<;>(replace S:=S.zk x;clear x;refine mv ?_;refine qg ?_)
 all_goals (repeat' (first|refine qA ?_|refine qw rfl ?_|refine qx ?_|refine qy ?_|refine qi ?_|refine qj ?_|refine qo ?_))
 refine qE ⟨_,rfl,?_⟩;exact ⟨rfl,S⟩
theorem KJ {h0:AH} (w:WfH h0) (hf:Flag.b=true) {z:Int} (n:Nat) (hz:z=n) (hn:n<10000):Fn Tryz.prog Xh 112 [.int .i64 z] h0 (fun v h'=>v=str (JX n)∧Hs h0 h' []):=by
 subst hz;exact qcR w hf n hn
end Go.Proofs.Xx
namespace Go.Proofs.Xx
open Go Go.Proofs
structure Ct where
 d:List UInt8
 n:Int
instance instInhCt:Inhabited Ct:=⟨⟨[],0⟩⟩
def eCt (c:Ct):List Value:=[str c.d,.int .i64 c.n]
def ctV (c:Ct):Value:=.agg #[str c.d,.int .i64 c.n]
def ctb (x y:Ct):Prop:=ji x.d y.d
abbrev cvU:Value:=.func (.func 110) #[] #[]
variable [Flag]
end Go.Proofs.Xx
namespace Go.Proofs.Xx
open Go Go.Proofs
variable [Flag]
end Go.Proofs.Xx
namespace Go.Proofs.Xx
open Go Go.Proofs
variable [Flag]
end Go.Proofs.Xx
namespace Go.Proofs.Xx
open Go Go.Proofs
theorem SS.filter {l:List (List UInt8)} (h:SS l) (p:List UInt8→Bool):SS (l.filter p):=by
 have hp:l.Pairwise ji:=by
  rw [zD2];intro i j hi hj hij;have:=h i j hij hj;rwa [zA2,zA2,zA4 hj,zA4 hi] at this
 have hq:=hp.filter p;intro i j hij hj;have:=zD2.1 hq i j (by omega) hj hij;rw [zA2,zA2,zA4 hj,zA4 (show i<(l.filter p).length by omega)];exact this
variable [Flag]
end Go.Proofs.Xx
namespace Go.Proofs.Xx
open Go Go.Proofs
def adB (r:Rl) (k:Int) (n x:List UInt8):Bool:=match qeE r.ts n x with|some t=>decide (t.k=k)|none=>false
theorem TgOk.ss {l:List (List UInt8)} (h:TgOk l):SS l:=fun i j hij=>by
 induction j with
 | zero=>omega
 | succ j ih =>
  intro hj;have h1:=(h (j+1) hj).2 (by omega);rw [Nat.add_sub_cancel] at h1;rcases zA7 i j with q|q
  ·exact jX (ih q (by omega)) h1
  ·obtain rfl:i=j:=by omega
   exact h1
variable [Flag]
end Go.Proofs.Xx
namespace Go.Proofs.Xx
open Go Go.Proofs
def lst (ns:List (List UInt8)) (P:List Nat):List (List UInt8):=P.map fun p=>ns.getD p default
theorem SS.lt_iff {l:List (List UInt8)} (h:SS l) {i j:Nat} (hi:i<l.length) (hj:j<l.length):ji (l.getD i default) (l.getD j default)↔i<j:=by
 constructor
 ·intro q;rcases zA7 i j with z|z
  ·exact z
  ·exact absurd q (h.le z hi)
 ·exact fun q=>h i j q hj
theorem SS.inj {l:List (List UInt8)} (h:SS l) {i j:Nat} (hi:i<l.length) (hj:j<l.length) (e:l.getD i default=l.getD j default):i=j:=by
 rcases zE6 i j with q|q|q
 ·exact absurd e (ZA h.nodup q hj)
 ·exact q
 ·exact absurd e.symm (ZA h.nodup q hi)
structure LI (r:Rl) (ns:List (List UInt8)) (P:List Nat):Prop where
 len:P.length=ns.length
 le:∀ i,i<P.length→P.getD i default≤i
 rc:∀ i,i<P.length→Rch r 1 (ns.getD i default) (ns.getD (P.getD i default) default)
def LC (r:Rl) (ns:List (List UInt8)) (P:List Nat):Prop:=∀ i k,i<ns.length→k<ns.length→adj r 1 (ns.getD i default) (ns.getD k default)→P.getD i default≤P.getD k default
theorem LI.set {r:Rl} {ns:List (List UInt8)} {P:List Nat} (I:LI r ns P) {i k:Nat} (hi:i<P.length) (hk:k<P.length) (h:P.getD k default<P.getD i default) (a:adj r 1 (ns.getD i default) (ns.getD k default)):LI r ns (P.set i (P.getD k default)):=by
 have hg:∀ j,(P.set i (P.getD k default)).getD j default=if j=i then P.getD k default else P.getD j default:=fun j=>QG _ _ hi j
 refine ⟨by simp;exact I.len,fun j hj=>?_,fun j hj=>?_⟩
 ·simp at hj;rw [hg];split
  ·rename_i e
   have:=I.le i hi;omega
  ·exact I.le j hj
 ·simp at hj;rw [hg];split
  ·rename_i e
   rw [e];exact (Rch.step .refl a).trans (I.rc k hk)
  ·exact I.rc j hj
def pV (ns:List (List UInt8)) (P:List Nat) (i n:Nat):List (List UInt8):=((List.range n).filter fun k=>decide (P.getD k default=i)).map fun k=>ns.getD k default
theorem Gf {ns:List (List UInt8)} {P:List Nat} {i n:Nat} {x:List UInt8}:x∈pV ns P i n↔∃ k,k<n∧P.getD k default=i∧ns.getD k default=x:=by
 unfold pV;simp only [zF0,zE0,zE3,decide_eq_true_eq];constructor
 ·rintro ⟨k,⟨h1,h2⟩,h3⟩;exact ⟨k,h1,h2,h3⟩
 ·rintro ⟨k,h1,h2,h3⟩;exact ⟨k,⟨h1,h2⟩,h3⟩
theorem SS.qeR {l:List (List UInt8)} (h:l.Pairwise ji):SS l:=by
 intro i j hij hj;have:=zD2.1 h i j (by omega) hj hij;rw [zA2,zA2,zA4 hj,zA4 (show i<l.length by omega)];exact this
theorem qdd {ns:List (List UInt8)} (hs:SS ns) {P:List Nat} {i n:Nat} (hn:n≤ns.length):SS (pV ns P i n):=by
 apply SS.qeR
 unfold pV;rw [List.pairwise_map];have h1:(List.range n).Pairwise fun a b=>a<b:=List.pairwise_lt_range;have h2:=h1.filter fun k=>decide (P.getD k default=i);refine List.Pairwise.imp_of_mem ?_ h2;intro a b ha hb hab;have hb':=zE3.1 (zE0.1 hb).1;exact hs a b hab (by omega)
def qf0 (ns:List (List UInt8)) (P:List Nat) (n:Nat):List (List (List UInt8)):=((List.range n).filter fun i=>decide (P.getD i default=i)).map fun i=>pV ns P i ns.length
theorem LI.head {r:Rl} {ns:List (List UInt8)} {P:List Nat} (I:LI r ns P) (hs:SS ns) {i:Nat} (hi:i<ns.length) (e:P.getD i default=i):(pV ns P i ns.length).getD 0 default=ns.getD i default:=by
 have hm:ns.getD i default∈pV ns P i ns.length:=Gf.2 ⟨i,hi,e,rfl⟩;have hss:=qdd hs (P:=P) (i:=i) (zA3 ns.length);have hpos:=List.length_pos_of_mem hm;obtain ⟨k,k1,k2,k3⟩:=Gf.1 (qK hpos);obtain ⟨j,j1,j2⟩:=qN.1 hm;have h1:=hss.le (zB0 j) j1;rw [j2,← k3,hs.lt_iff hi k1] at h1;have h2:=I.le k (by rw [I.len];exact k1);have:k=i:=by omega
 rw [← k3,this]
def KX (r:Rl):List (List UInt8):=r.us.map (·.diet)
structure qct (r:Rl) (ds:List Ct):Prop where
 ss:SS (ds.map (·.d))
 n:∀ c∈ds,c.n=((KX r).count c.d:Int)
 all:∀ x,x∈ds.map (·.d)↔x∈KX r
def qeZ (mp:List (List UInt8×Int)) (d:List UInt8):Int:=match zW mp d with|some x=>x|none=>0
structure DP (r:Rl) (i:Nat) (mp:List (List UInt8×Int)) (out:List Ct):Prop where
 m:∀ d,qeZ mp d=if d∈(KX r).take i then 0 else ((KX r).count d:Int)
 nd:(out.map (·.d)).Nodup
 mem:∀ d,d∈out.map (·.d)↔d∈(KX r).take i
 n:∀ c∈out,c.n=((KX r).count c.d:Int)
 ln:out.length≤i
theorem Z5 {l:List (List UInt8)} {i:Nat} (hi:i<l.length) (d:List UInt8):d∈l.take (i+1)↔d∈l.take i∨d=l.getD i default:=by
 rw [zl hi,zB8,zB5]
theorem DP.no {r:Rl} {i:Nat} {mp:List (List UInt8×Int)} {out:List Ct} (D:DP r i mp out) (hi:i<(KX r).length) (h:¬ 0<qeZ mp ((KX r).getD i default)):DP r (i+1) mp out:=by
 have hn:(KX r).getD i default∈(KX r).take i:=by
  apply zG7
  intro q;have hv:=D.m ((KX r).getD i default);rw [if_neg q] at hv;have:0<(KX r).count ((KX r).getD i default):=List.count_pos_iff.2 (qK hi);omega
 have key:∀ d,d∈(KX r).take (i+1)↔d∈(KX r).take i:=fun d=>by
  rw [Z5 hi];exact ⟨fun q=>q.elim id (fun e=>e ▸ hn),.inl⟩
 refine ⟨fun d=>?_,D.nd,fun d=>by rw [D.mem,key],D.n,by have:=D.ln;omega⟩;rw [D.m d];simp only [key]
theorem DP.fin {r:Rl} {mp:List (List UInt8×Int)} {out ds:List Ct} (D:DP r (KX r).length mp out) (s:Sw 0 out.length out ds) (h:Srt ctb 0 out.length ds):qct r ds:=by
 have hl:=s.len;have hp:=s.perm;have hnd:(ds.map (·.d)).Nodup:=(hp.map _).nodup_iff.2 D.nd;refine ⟨fun i j hij hj=>?_,fun c hc=>D.n c (hp.mem_iff.1 hc),fun x=>?_⟩
 ·have hj':j<ds.length:=by simpa using hj
  have h1:=h i j (zB0 _) hij (by omega);have h2:=ZA hnd hij hj;rw [zF (f:=fun c:Ct=>c.d) hj',zF (f:=fun c:Ct=>c.d) (show i<ds.length by omega)] at *;rcases Xe h1 with q|q
  ·exact absurd q h2
  ·exact q
 ·have:=D.mem x;rw [zD4] at this;rw [← this];exact (hp.map _).mem_iff
variable [Flag]
end Go.Proofs.Xx
namespace Go.Proofs.Xx
open Go Go.Proofs
structure RP (l:List (List UInt8)) (i:Nat) (out:List Ct):Prop where
 ss:SS (out.map (·.d))
 n:∀ c∈out,c.n=((l.take i).count c.d:Int)
 all:∀ x,x∈out.map (·.d)↔x∈l.take i
 last:0<i→0<out.length∧(out.getD (out.length - 1) default).d=l.getD (i - 1) default
 ln:out.length≤i
theorem JY {l:List (List UInt8)} {i:Nat} (hi:i<l.length) (d:List UInt8):(l.take (i+1)).count d=(l.take i).count d+if d=l.getD i default then 1 else 0:=by
 rw [zl hi,List.count_append,List.count_cons,List.count_nil];by_cases e:d=l.getD i default
 ·rw [if_pos e,e];simp
 ·rw [if_neg e];have:(l.getD i default == d)=false:=by simpa using fun q=>e q.symm
  simp only [this];simp
theorem RP.same {l:List (List UInt8)} {i:Nat} {out:List Ct} (R:RP l i out) (hi:i<l.length) (h0:0<i) (e:l.getD i default=l.getD (i - 1) default):RP l (i+1) (out.set (out.length - 1) ⟨(out.getD (out.length - 1) default).d,(out.getD (out.length - 1) default).n+1⟩):=by
 obtain ⟨k1,k2⟩:=R.last h0;rw [← e] at k2;obtain ⟨m,hm⟩:∃ m,out.length - 1=m:=⟨_,rfl⟩
 rw [hm] at k2 ⊢;have hml:m<out.length:=by omega
 have hmap:(out.set m ⟨(out.getD m default).d,(out.getD m default).n+1⟩).map (·.d)=out.map (·.d):=by
  apply JG (by simp)
  intro j hj;simp at hj;rw [zF (f:=fun c:Ct=>c.d) (by simpa using hj),zF (f:=fun c:Ct=>c.d) hj,QG _ _ hml];split
  ·rename_i q;rw [q]
  ·rfl
 refine ⟨by rw [hmap];exact R.ss,fun c hc=>?_,fun x=>?_,fun _=>⟨by simp;omega,?_⟩,by have:=R.ln;simp;omega⟩
 ·obtain ⟨j,j1,j2⟩:=qN.1 hc;simp at j1;rw [QG _ _ hml] at j2;rw [← j2,JY hi];by_cases q:j=m
  ·rw [if_pos q];show (out.getD m default).n+1=_
   have h1:=R.n _ (qK hml);show (out.getD m default).n+1=((((l.take i).count (out.getD m default).d+if (out.getD m default).d=l.getD i default then 1 else 0:Nat)):Int)
   rw [if_pos k2];omega
  ·rw [if_neg q];have hne:(out.getD j default).d≠l.getD i default:=fun z=>by
    rw [← k2] at z;have:=R.ss.inj (i:=j) (j:=m) (by simpa using j1) (by simpa using hml) (by
     rw [zF (f:=fun c:Ct=>c.d) j1,zF (f:=fun c:Ct=>c.d) hml];exact z)
    exact q this
   rw [if_neg hne,R.n _ (qK j1)];omega
 ·rw [hmap,R.all,Z5 hi];constructor
  ·exact .inl
  ·rintro (q|q)
   ·exact q
   ·rw [q,← k2];exact (R.all _).1 (zF0.2 ⟨_,qK hml,rfl⟩)
 ·rw [zF4,hm,QG _ _ hml,if_pos rfl];exact k2
theorem RP.new {l:List (List UInt8)} {i:Nat} {out:List Ct} (R:RP l i out) (hs:Srt ji 0 l.length l) (hi:i<l.length) (h:i=0∨l.getD i default≠l.getD (i - 1) default):RP l (i+1) (out ++ [⟨l.getD i default,1⟩]):=by
 have hlt:∀ x∈l.take i,ji x (l.getD i default):=fun x hx=>by
  obtain ⟨j,j1,j2⟩:=qN.1 hx;rw [zA9] at j1;rw [getD_take (show j<i by omega)] at j2;rcases h with h|h
  ·omega
  ·have a1:=hs (i - 1) i (zB0 _) (by omega) hi;have a2:ji (l.getD (i - 1) default) (l.getD i default):=by
    rcases Xe a1 with q|q
    ·exact absurd q.symm h
    ·exact q
   rcases Nat.eq_or_lt_of_le (show j≤i - 1 by omega) with e|e
   ·rw [← j2,e];exact a2
   ·have a3:=hs j (i - 1) (zB0 _) e (by omega);rw [← j2];exact wz a3 a2
 have hni:l.getD i default ∉ l.take i:=fun q=>zH _ (hlt _ q);refine ⟨?_,fun c hc=>?_,fun x=>?_,fun _=>⟨by simp,?_⟩,by have:=R.ln;simp;omega⟩
 ·rw [zC9];intro a b hab hb;rw [zB2,zC5] at hb;simp at hb;rcases zA7 b out.length with q|q
  ·rw [YZ (by simp;omega),YZ (by simpa using q)];exact R.ss a b hab (by simpa using q)
  ·obtain rfl:b=out.length:=by omega
   rw [YZ (by simpa using hab),pM (by simp),zC5,zG5];exact hlt _ ((R.all _).1 (qK (by simpa using hab)))
 ·rw [JY hi];rcases zB8.1 hc with q|q
  ·have hne:c.d≠l.getD i default:=fun e=>hni (e ▸ (R.all _).1 (zF0.2 ⟨c,q,rfl⟩));rw [if_neg hne,R.n c q];omega
  ·rw [zB5.1 q];show (1:Int)=(((l.take i).count (l.getD i default)+if l.getD i default=l.getD i default then 1 else 0:Nat):Int)
   rw [if_pos rfl,List.count_eq_zero.2 hni];rfl
 ·rw [zC9,zB8,R.all,Z5 hi];simp
 ·rw [zB2,zD5,Nat.add_sub_cancel,Nat.add_sub_cancel,pM (zA3 _),zG5];rfl
theorem RP.fin {r:Rl} {l:List (List UInt8)} {out:List Ct} (R:RP l l.length out) (p:l.Perm (KX r)):qct r out:=by
 refine ⟨R.ss,fun c hc=>?_,fun x=>?_⟩
 ·rw [R.n c hc,zD4,p.count_eq]
 ·rw [R.all,zD4,p.mem_iff]
variable [Flag]
end Go.Proofs.Xx
namespace Go.Proofs.Xx
open Go Go.Proofs
structure KA (r:Rl) (out:List Int):Prop where
 len:out.length=r.us.length
 rng:∀ j,j<out.length→out.getD j default = -1∨out.getD j default=0∨out.getD j default=1
 z:∀ j,j<out.length→0≤out.getD j default→out.getD j default=0∨∃ k,k<j∧Rch r 2 (Q8 r k) (Q8 r j)
 u:∀ cs,Vz r cs→∀ j,j<out.length→0≤out.getD j default→out.getD j default=cs.getD j default
def KC (r:Rl) (out:List Int):Prop:=∀ a b,a<out.length→b<out.length→adj r 2 (Q8 r a) (Q8 r b)→0≤out.getD a default→0≤out.getD b default∧out.getD a default≠out.getD b default
theorem P5 {r:Rl} {x:List UInt8} (h:gat r.us x≠none):∃ j,j<r.us.length∧Q8 r j=x:=by
 obtain ⟨g,h1,h2⟩:=XG.1 h;obtain ⟨j,j1,j2⟩:=qN.1 h1;exact ⟨j,j1,by unfold Q8;rw [j2];exact h2⟩
theorem PZ {r:Rl} (H:RO r) {i j:Nat} (hi:i<r.us.length) (hj:j<r.us.length) (e:Q8 r i=Q8 r j):i=j:=by
 rcases zE6 i j with q|q|q
 ·exact absurd e (H.nd i j q hj)
 ·exact q
 ·exact absurd e.symm (H.nd j i q hi)
theorem KC.rch {r:Rl} (H:RO r) {out:List Int} (hl:out.length=r.us.length) (C:KC r out) {k:Nat} (hk:k<out.length) (h0:0≤out.getD k default) {x:List UInt8} (h:Rch r 2 (Q8 r k) x):∃ j,j<out.length∧Q8 r j=x∧0≤out.getD j default:=by
 induction h with
 | refl=>exact ⟨k,hk,rfl,h0⟩
 | step h a ih =>
  obtain ⟨j,j1,j2,j3⟩:=ih;obtain ⟨m,m1,m2⟩:=P5 (XJ H a).2.1;rw [← j2,← m2] at a;exact ⟨m,by omega,m2,(C j m j1 (by omega) a j3).1⟩
structure KP (r:Rl) (i:Nat) (out0 out:List Int):Prop where
 a:KA r out
 l0:out0.length=r.us.length
 c0:KC r out0
 m0:∀ j,j<i→0≤out0.getD j default
 i0:0≤out.getD i default
 old:∀ j,j<out.length→0≤out0.getD j default→0≤out.getD j default
 nw:∀ j,j<out.length→0≤out.getD j default→0≤out0.getD j default∨Rch r 2 (Q8 r i) (Q8 r j)
theorem KP.root {r:Rl} (H:RO r) {i:Nat} {out:List Int} (A:KA r out) (C:KC r out) (hm:∀ j,j<i→0≤out.getD j default) (hi:i<out.length) (hn:out.getD i default<0):KP r i out (out.set i 0):=by
 have hg:∀ j,(out.set i (0:Int)).getD j default=if j=i then 0 else out.getD j default:=fun j=>QG _ _ hi j
 refine ⟨⟨by simp;exact A.len,fun j hj=>?_,fun j hj h=>?_,fun cs hc j hj h=>?_⟩,A.len,C,hm,by rw [hg,if_pos rfl];exact Int.le_refl _,fun j hj h=>?_,fun j hj h=>?_⟩
 ·simp at hj;rw [hg];split
  ·exact .inr (.inl rfl)
  ·exact A.rng j hj
 ·simp at hj;rw [hg] at h ⊢;by_cases e:j=i
  ·rw [if_pos e];exact .inl rfl
  ·rw [if_neg e] at h ⊢;exact A.z j hj h
 ·simp at hj;rw [hg] at h ⊢;by_cases e:j=i
  ·rw [if_pos e,e];rcases hc.z i (by rw [hc.len,← A.len];exact hi) with z|⟨k,k1,k2⟩
   ·exact z.symm
   ·exfalso
    obtain ⟨m,m1,m2,m3⟩:=C.rch H A.len (by omega) (hm k k1) k2;have:=PZ H (by rw [← A.len];exact m1) (by rw [← A.len];exact hi) m2;rw [this] at m3;omega
  ·rw [if_neg e] at h ⊢;exact A.u cs hc j hj h
 ·rw [hg];split
  ·exact Int.le_refl _
  ·exact h
 ·rw [hg] at h;by_cases e:j=i
  ·rw [e];exact .inr .refl
  ·rw [if_neg e] at h;exact .inl h
theorem KP.step {r:Rl} {i:Nat} {out0 out:List Int} (K:KP r i out0 out) {a b:Nat} (ha:a<out.length) (hb:b<out.length) (h:adj r 2 (Q8 r a) (Q8 r b)) (h1:0≤out.getD a default) (h2:out.getD b default<0):KP r i out0 (out.set b (1 - out.getD a default)):=by
 have hl:=K.a.len;have hl0:=K.l0;have hg:∀ j,(out.set b (1 - out.getD a default)).getD j default=if j=b then 1 - out.getD a default else out.getD j default:=fun j=>QG _ _ hb j
 have hra:=K.a.rng a ha;have hb0:¬ 0≤out0.getD b default:=fun q=>by have:=K.old b hb q;omega
 have hRa:Rch r 2 (Q8 r i) (Q8 r a):=by
  rcases K.nw a ha h1 with q|q
  ·exact absurd (K.c0 a b (by omega) (by omega) h q).1 hb0
  ·exact q
 have hib:i<b:=by
  rcases zE6 i b with q|q|q
  ·exact q
  ·have:=K.i0;rw [q] at this;omega
  ·exact absurd (K.m0 b q) hb0
 refine ⟨⟨by simp;exact hl,fun j hj=>?_,fun j hj q=>?_,fun cs hc j hj q=>?_⟩,hl0,K.c0,K.m0,?_,fun j hj q=>?_,fun j hj q=>?_⟩
 ·simp at hj;rw [hg];split
  ·omega
  ·exact K.a.rng j hj
 ·simp at hj;rw [hg] at q ⊢;by_cases e:j=b
  ·rw [e];exact .inr ⟨i,hib,hRa.step h⟩
  ·rw [if_neg e] at q ⊢;exact K.a.z j hj q
 ·simp at hj;rw [hg] at q ⊢;by_cases e:j=b
  ·rw [if_pos e,e];have e1:=K.a.u cs hc a ha h1;have e2:=hc.ne a b (by rw [hc.len];omega) (by rw [hc.len];omega) h;have e3:=hc.b b (by rw [hc.len];omega);have e4:=hc.b a (by rw [hc.len];omega);omega
  ·rw [if_neg e] at q ⊢;exact K.a.u cs hc j hj q
 ·rw [hg];split
  ·omega
  ·exact K.i0
 ·simp at hj;rw [hg];split
  ·omega
  ·exact K.old j hj q
 ·simp at hj;rw [hg] at q;by_cases e:j=b
  ·rw [e];exact .inr (hRa.step h)
  ·rw [if_neg e] at q;exact K.nw j hj q
theorem KA.no {r:Rl} {out:List Int} (A:KA r out) {a b:Nat} (ha:a<out.length) (hb:b<out.length) (h:adj r 2 (Q8 r a) (Q8 r b)) (h1:0≤out.getD a default) (e:out.getD a default=out.getD b default) (cs:List Int):¬ Vz r cs:=fun hc=>by
 have e1:=A.u cs hc a ha h1;have e2:=A.u cs hc b hb (by omega);have hl:=A.len;exact hc.ne a b (by rw [hc.len];omega) (by rw [hc.len];omega) h (by omega)
def qfV (r:Rl) (out:List Int) (t:Ti):Prop:=t.k=2→∀ a b,a<out.length→b<out.length→Q8 r a=t.a→Q8 r b=t.b→(0≤out.getD a default↔0≤out.getD b default)∧(0≤out.getD a default→out.getD a default≠out.getD b default)
theorem KC.of {r:Rl} {out:List Int} (h:∀ t∈r.ts,qfV r out t):KC r out:=fun a b ha hb q h0=>by
 obtain ⟨t,t1,t2,t3⟩:=q;rcases t3 with ⟨q1,q2⟩|⟨q1,q2⟩
 ·obtain ⟨g1,g2⟩:=h t t1 t2 a b ha hb q1.symm q2.symm;exact ⟨g1.1 h0,g2 h0⟩
 ·obtain ⟨g1,g2⟩:=h t t1 t2 b a hb ha q2.symm q1.symm;have:=g1.2 h0;exact ⟨this,fun e=>g2 this e.symm⟩
def qf5 (out:List Int):Nat:=(out.map fun x=>(-x).toNat).sum
theorem KA.fin {r:Rl} {out:List Int} (A:KA r out) (C:KC r out) (hm:∀ j,j<out.length→0≤out.getD j default):Vz r out∧∀ cs,Vz r cs→cs=out:=by
 have hl:=A.len;refine ⟨⟨hl,fun i hi=>?_,fun i j hi hj a=>(C i j hi hj a (hm i hi)).2,fun j hj=>A.z j hj (hm j hj)⟩,fun cs hc=>?_⟩
 ·have:=A.rng i hi;have:=hm i hi;omega
 ·apply JG (by rw [hc.len,hl])
  intro i hi;rw [hc.len] at hi;exact (A.u cs hc i (by omega) (hm i (by omega))).symm
theorem RingOk.no {r:Rl} (H:RO r) {R:List (List UInt8)} (h:RingOk r R) (cs:List Int):¬ Vz r cs:=fun hc=>by
 have h3:=h.three;have hidx:∀ i,i<R.length→∃ j,j<cs.length∧Q8 r j=R.getD i default:=fun i hi=>by
  obtain ⟨j,j1,j2⟩:=P5 (XJ H (h.adj i hi)).1;exact ⟨j,by rw [hc.len];exact j1,j2⟩
 have hne:∀ i j,i<R.length→Xx.adj r 2 (R.getD i default) (R.getD j default)→j<R.length→∀ a b,a<cs.length→b<cs.length→Q8 r a=R.getD i default→Q8 r b=R.getD j default→cs.getD a default≠cs.getD b default:=fun i j hi ha hj a b h1 h2 e1 e2=>hc.ne a b h1 h2 (by rw [e1,e2];exact ha);obtain ⟨a0,a1,a2⟩:=hidx 0 (by omega);have key:∀ i,i<R.length→∀ a,a<cs.length→Q8 r a=R.getD i default→cs.getD a default=if i % 2=0 then cs.getD a0 default else 1 - cs.getD a0 default:=by
  intro i;induction i with
  | zero =>
   intro hi a h1 h2;have:a=a0:=PZ H (by rw [← hc.len];exact h1) (by rw [← hc.len];exact a1) (h2.trans a2.symm);rw [this];rfl
  | succ i ih =>
   intro hi a h1 h2;obtain ⟨b,b1,b2⟩:=hidx i (by omega);have e:=ih (by omega) b b1 b2;have ha:=h.adj i (by omega);rw [Nat.mod_eq_of_lt hi] at ha;have hn:=hne i (i+1) (by omega) ha hi b a b1 h1 b2 h2;have c1:=hc.b a h1;have c2:=hc.b b b1;have c3:=hc.b a0 a1;by_cases p:i % 2=0
   ·rw [if_pos p] at e;rw [if_neg (by omega)];omega
   ·rw [if_neg p] at e;rw [if_pos (by omega)];omega
 obtain ⟨b,b1,b2⟩:=hidx (R.length - 1) (by omega);have e:=key (R.length - 1) (by omega) b b1 b2;have hodd:=h.odd;rw [if_pos (by omega)] at e;have ha:=h.adj (R.length - 1) (by omega);rw [show R.length - 1+1=R.length by omega,Nat.mod_self] at ha;exact hne (R.length - 1) 0 (by omega) ha (by omega) b a0 b1 a1 b2 a2 e
variable [Flag]
end Go.Proofs.Xx
namespace Go.Proofs.Xx
open Go Go.Proofs
variable [Flag]
end Go.Proofs.Xx
namespace Go.Proofs.Xx
open Go Go.Proofs
theorem CirOk.wl {r:Rl} (H:RO r) {cs:List Wd} (C:CirOk r cs) {w:Wd} (hw:w∈cs):w.ws.length≤64:=by
 obtain ⟨w1,w2,w3⟩:=C.ss w hw;have:=Qs w1.nodup (m:=r.us.map (·.name)) fun x hx=>by
  obtain ⟨k,rc⟩:=(w3 x).1 hx;exact YM (rc.known H k)
 rw [zC5] at this;have:=H.l64;omega
variable [Flag]
end Go.Proofs.Xx
