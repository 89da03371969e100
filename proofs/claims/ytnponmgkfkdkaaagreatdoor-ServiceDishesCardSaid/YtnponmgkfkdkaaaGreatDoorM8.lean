/-
  Seats of tables and halls,first seats,tables by name;the program's and the reference's.
-/
import Derived.Test.YtnponmgkfkdkaaaGreatDoorM7
import Derived.Test.YtnponmgkfkdkaaaGreatDoorM6
set_option linter.unusedSimpArgs false
set_option linter.unusedVariables false
set_option maxRecDepth 100000
set_option linter.unusedSectionVars false
namespace Go.Proofs.Xx
open Go Go.Proofs
variable {Xh:Extern} [KX Xh]
theorem zQ (l:List Tab):∀ n,0≤sumT l n∧sumT l n≤24*n
 | 0=>by simp [sumT]
 | n+1=>by
  have:=zQ l n;have:=Qv (tb l n);simp only [sumT];omega
open Classical in
noncomputable def qj0 (t:Tab):Int:=if chk t=0 then zl t else 0
open Classical in
noncomputable def YM (l:List Tab) (t:Int):Int:=if 0≤t∧t<l.length∧ValidL l then sumT l t.toNat else 0
theorem qeC {h0:AH} (w:WfH h0) (v:Value) (l:List Tab) (H:HallR h0 v l) (t:Int):Fn Tryz.prog Xh 78 [v,.int .i64 t] h0 (fun r h'=>r = .int .i64 (YM l t)∧Hs h0 h' []):=by
 have S:=Hs.start w;have hl:=H.len;have hr:=H.rd;by_cases ht0:t<0
 ·refine qL (by first|exact KX.no _ _ _ (by decide) rfl) Tryz.func78 rfl rfl ?_;all_goals (repeat' (first|refine qg ?_|refine qh rfl ?_|(refine qc 0 ?_;refine mv ?_;refine qf ?_)|(refine qc 1 ?_;refine mv ?_;(refine cT ?_)<;>(refine mv ?_;refine off ?_;refine off ?_;refine off ?_;(refine off ?_)<;>(refine vl ?_;refine mv ?_;refine off ?_;(first|(refine off ?_;refine off ?_;refine vl ?_;refine qf ?_)))))|(refine qc 2 ?_;refine mv ?_;refine qf ?_)))
  all_goals (try omega)
  refine qo ⟨_,rfl,?_⟩;exact ⟨by unfold YM;rw [if_neg (by omega)];rfl,S⟩
 obtain ⟨n,rfl⟩:=zH3 (show 0≤t by omega);refine qL (by first|exact KX.no _ _ _ (by decide) rfl) Tryz.func78 rfl rfl ?_;all_goals (repeat' (first|refine qg ?_|refine qh rfl ?_|(refine qc 0 ?_;refine mv ?_;refine qf ?_)|(refine qc 1 ?_;refine mv ?_;(refine cF ?_)<;>((iterate 3 refine mv ?_);(first|(refine jf S ?_));(first|(first|(refine cS ?_ ?_<;>intro hc)))<;>(refine vl ?_;refine mv ?_;(first|refine off ?_|refine mv ?_);(first|(refine off ?_;refine off ?_;refine vl ?_;refine qf ?_)|skip))))|(refine qc 2 ?_;refine mv ?_;refine qf ?_)))
 all_goals (try omega)
 ·refine qo ⟨_,rfl,?_⟩;exact ⟨by unfold YM;rw [if_neg (by omega)];rfl,S⟩
 ·(refine qw rfl rfl rfl rfl rfl ((YT S.wf v l H).mono ?_);rintro _ h ⟨⟨rfl,hq⟩|⟨rfl,hq⟩,x⟩)<;>(replace S:=S.qE x;clear x;refine vl ?_;refine vl ?_;refine qf ?_)
  all_goals (repeat' (first|refine qg ?_|refine qh rfl ?_|refine qi ?_|(refine qc 2 ?_;refine mv ?_;refine qf ?_)|(refine qc 3 ?_;refine mv ?_;refine qf ?_)|(refine qc 4 ?_;refine mv ?_;refine mv ?_)))
  ·refine su 0 n (hr.ext w S.ext) H.cap ?_;intro vs hrs hcs;have T:=S;have w1:=S.wf;replace S:=Hs.start w1;have hlen:((l.drop 0).take (n - 0)).length=n:=by simp;omega
   have hget:∀ k,k<n→((l.drop 0).take (n - 0)).getD k default=tb l k:=fun k hk=>by
    unfold tb;simp only [List.drop_zero,Nat.sub_zero,zA2,zC7,if_pos hk]
   generalize ((l.drop 0).take (n - 0))=ls at hrs hlen hget
   (refine jf S ?_);refine mv ?_;refine qf ?_;all_goals (repeat' (refine qj ?_))
   refine qH (σ:=Nat) (fun i h'=>Hs h h' []∧i≤n) (fun i=>n - i) (fun i=>[(5,.int .i64 (sumT l i)),(23,vs),(24,.int .i64 n),(25,.int .i64 i)]) 0 qx ?_ ?_
   ·exact ⟨S,zB0 _⟩
   clear S;rintro i h2 ⟨S,h1⟩;all_goals (repeat' (first|refine qg ?_|refine qh rfl ?_|refine qi ?_|refine qC ?_|refine qj ?_|(refine qc 5 ?_;(first|(refine cS ?_ ?_<;>intro hc))<;>(refine qf ?_))|(refine qc 6 ?_;refine jF S ?_;refine jk S ?_;(refine al S ?_;clear S;intro b h S);(first|(refine sB S rfl rfl ?_;clear S;intro h S));refine qf ?_)|(refine qc 7 ?_;refine mv ?_;refine lB S rfl rfl ?_)|(refine qc 9 ?_;refine mv ?_;refine mv ?_;refine qf ?_)))
   ·(try simp only [zA0] at *)
    have hi:i<n:=by omega
    have b1:=zQ l i;have b2:=Qv (ls.getD i default);(refine qw rfl rfl rfl rfl rfl ((Y1 S.wf (ls.getD i default)).mono ?_);rintro _ h ⟨rfl,x⟩)<;>(replace S:=S.qE x;clear x;refine ad ?_;refine mv ?_;refine qf ?_)
    rw [hget i hi];all_goals (repeat' (first|(refine qc 8 ?_;refine ad ?_;refine mv ?_;refine qf ?_)))
    refine ⟨i+1,?_,?_,qx⟩
    ·show n - (i+1)<n - i;omega
    ·exact ⟨S.drop,by omega⟩
   ·refine qo ⟨_,rfl,?_⟩;have:i=n:=by omega
    subst this;exact ⟨by unfold YM;rw [if_pos ⟨by omega,by omega,hq⟩,zA0];rfl,T.qE S⟩
  ·refine qo ⟨_,rfl,?_⟩;exact ⟨by unfold YM;rw [if_neg (fun q=>hq q.2.2)];rfl,S⟩
theorem PN {h0:AH} (w:WfH h0) (v:Value) (l:List Tab) (H:HallR h0 v l):Fn Tryz.prog Xh 285 [v] h0 (fun r h'=>r = .int .i64 (if l.length=0 then 0 else zl (tb l (l.length - 1)))∧Hs h0 h' []):=by
 have S:=Hs.start w;have hl:=H.len;have hr:=H.rd;refine qL (by first|exact KX.no _ _ _ (by decide) rfl) Tryz.func285 rfl rfl ?_;all_goals (repeat' (first|refine qg ?_|refine qh rfl ?_|refine qi ?_|(refine qc 0 ?_;refine mv ?_;refine qf ?_)|(refine qc 1 ?_;refine mv ?_;refine jf S ?_;(first|(refine cS ?_ ?_<;>intro hc))<;>(refine qf ?_))|(refine qc 2 ?_;refine mv ?_;refine qf ?_)|(refine qc 3 ?_;refine mv ?_;refine mv ?_;refine jf S ?_;refine sb ?_;refine jF S ?_;refine jk S ?_)))
 ·refine qo ⟨_,rfl,?_⟩;exact ⟨by rw [if_pos (by omega)];rfl,S⟩
 ·(refine qw rfl rfl rfl rfl rfl ((Y1 S.wf _).mono ?_);rintro _ h ⟨rfl,x⟩)<;>(replace S:=S.qE x;clear x;refine mv ?_;refine qf ?_)
  all_goals (repeat' (fail))
  refine qo ⟨_,rfl,?_⟩;exact ⟨by rw [if_neg (by omega),show l.length - 1=((l.length:Int) - 1).toNat by omega];rfl,S⟩
open Classical in
noncomputable def XU (l:List Tab):Int:=if ValidL l then sumT l l.length else 0
theorem yQ {h0:AH} (w:WfH h0) (v:Value) (l:List Tab) (H:HallR h0 v l):Fn Tryz.prog Xh 200 [v] h0 (fun r h'=>r = .int .i64 (XU l)∧Hs h0 h' []):=by
 have S:=Hs.start w;have hl:=H.len;have hr:=H.rd;refine qL (by first|exact KX.no _ _ _ (by decide) rfl) Tryz.func200 rfl rfl ?_;all_goals (repeat' (first|refine qg ?_|(refine qc 0 ?_;refine mv ?_;refine qf ?_)|(refine qc 1 ?_;refine mv ?_)))
 (refine qw rfl rfl rfl rfl rfl ((YT S.wf v l H).mono ?_);rintro _ h ⟨⟨rfl,hq⟩|⟨rfl,hq⟩,x⟩)<;>(replace S:=S.qE x;clear x;refine vl ?_;refine qf ?_)
 all_goals (repeat' (first|refine qg ?_|refine qh rfl ?_|refine qi ?_|(refine qc 2 ?_;refine mv ?_;refine qf ?_)|(refine qc 3 ?_;refine mv ?_;refine mv ?_;refine jf S ?_;refine sb ?_)))
 ·have hs:YM l ((l.length:Int) - 1)+(if l.length=0 then 0 else zl (tb l (l.length - 1)))=sumT l l.length:=by
   unfold YM;cases hk:l.length with
   | zero=>rw [if_neg (by omega)];simp [sumT]
   | succ k=>rw [if_pos ⟨by omega,by omega,hq⟩,if_neg (by omega),show ((k+1:Nat):Int) - 1=(k:Int) by omega,zA0,Nat.add_sub_cancel];rfl
  have b1:=zQ l l.length;(refine qw rfl rfl rfl rfl rfl ((qeC S.wf v l (H.ext w S.ext) _).mono ?_);rintro _ h ⟨rfl,x⟩)<;>(replace S:=S.qE x;clear x;refine mv ?_)
  (refine qw rfl rfl rfl rfl rfl ((PN S.wf v l (H.ext w S.ext)).mono ?_);rintro _ h ⟨rfl,x⟩)<;>(replace S:=S.qE x;clear x;refine ad ?_;refine mv ?_;refine qf ?_)
  all_goals (repeat' (fail))
  refine qo ⟨_,rfl,?_⟩;exact ⟨by unfold XU;rw [if_pos hq,← hs];rfl,S⟩
 ·refine qo ⟨_,rfl,?_⟩;exact ⟨by unfold XU;rw [if_neg hq];rfl,S⟩
theorem PY {h0:AH} (w:WfH h0) (t:Tab) (nm:List UInt8) (b:Nat) (hb:h0.get b=some (.cells [str nm] 9 none false)):Fn Tryz.prog Xh 303 [J8 t,.pointer (some ⟨b,0,none⟩)] h0 (fun v h'=>qZ v (t.name=nm)∧Hs h0 h' []):=by
 have S:=Hs.start w;refine qL (by first|exact KX.no _ _ _ (by decide) rfl) Tryz.func303 rfl rfl ?_;all_goals (repeat' (first|refine qg ?_|(refine qc 0 ?_;(refine bx S ?_;clear S;intro b h S);refine mv ?_;refine qf ?_)|(refine qc 1 ?_;refine vl ?_;refine lB S rfl rfl ?_;refine lH S ?_;(refine tS ?_ ?_<;>intro hc)<;>(refine mv ?_;refine qf ?_))))
 all_goals (refine qo ⟨_,rfl,?_⟩)
 all_goals (refine ⟨?_,S.drop⟩;unfold qZ)
 ·exact .inl ⟨rfl,hc⟩
 ·exact .inr ⟨rfl,hc⟩
def qh7 (l:List Tab) (nm:List UInt8) (v:Value):Prop :=
 (∃ k:Nat,v = .tuple #[.int .i64 k,.bool true]∧ValidL l∧k<l.length∧(tb l k).name=nm∧∀ j,j<k→¬ (tb l j).name=nm) ∨
 (v = .tuple #[.int .i64 0,.bool false]∧(¬ ValidL l∨∀ j,j<l.length→¬ (tb l j).name=nm))
theorem qew {h0:AH} (w:WfH h0) (v:Value) (l:List Tab) (H:HallR h0 v l) (nm:List UInt8):Fn Tryz.prog Xh 222 [v,str nm] h0 (fun r h'=>qh7 l nm r∧Hs h0 h' []):=by
 have S:=Hs.start w;have hl:=H.len;have hr:=H.rd;refine qL (by first|exact KX.no _ _ _ (by decide) rfl) Tryz.func222 rfl rfl ?_;all_goals (repeat' (first|refine qg ?_|(refine qc 0 ?_;(refine bx S ?_;clear S;intro b h S);refine mv ?_;refine mv ?_;refine qf ?_)|(refine qc 1 ?_;refine mv ?_;refine vl ?_)))
 have gb:=S.gB (b:=b);have hf:∀ i h',i<l.length→Hs h h' []→Fn Tryz.prog Xh 303 (J8 (l.getD i default) :: [.pointer (some ⟨b,0,none⟩)]) h' (fun v h''=>qZ v ((tb l i).name=nm)∧Hs h' h'' []):=fun i h' hi x=>PY x.wf (tb l i) nm b (x.ext.get S.wf gb);(refine qw rfl rfl rfl rfl rfl ((Ws S.wf v l 303 [.pointer (some ⟨b,0,none⟩)] (fun i=>(tb l i).name=nm) (hr.ext w S.ext) (by omega) hf).mono ?_);rintro _ h ⟨⟨k,hk,rfl,hq,hn⟩|⟨rfl,hn⟩,x⟩)<;>(replace S:=S.qE x;clear x;refine mv ?_;refine qf ?_)
 all_goals (repeat' (first|refine qg ?_|refine qh rfl ?_|(refine qc 2 ?_;refine mv ?_;(first|refine cT ?_|refine cF ?_)<;>(refine mv ?_;(first|refine off ?_|refine mv ?_);(first|(refine off ?_;refine off ?_;refine vl ?_;refine qf ?_)|skip)))|(refine qc 3 ?_;refine mv ?_;refine mv ?_;refine qf ?_)))
 all_goals (try omega)
 ·(refine qw rfl rfl rfl rfl rfl ((YT S.wf v l (H.ext w S.ext)).mono ?_);rintro _ h ⟨⟨rfl,hv⟩|⟨rfl,hv⟩,x⟩)<;>(replace S:=S.qE x;clear x;refine vl ?_;refine vl ?_;refine qf ?_)
  all_goals (repeat' (first|refine qg ?_|refine qh rfl ?_|refine qi ?_|(refine qc 3 ?_;refine mv ?_;refine mv ?_;refine qf ?_)|(refine qc 4 ?_;(iterate 3 refine mv ?_);refine qf ?_)))
  all_goals (refine qo ⟨_,rfl,?_⟩)
  ·exact ⟨.inl ⟨k,rfl,hv,hk,hq,hn⟩,S.drop⟩
  ·exact ⟨.inr ⟨rfl,.inl hv⟩,S.drop⟩
 ·refine qo ⟨_,rfl,?_⟩;exact ⟨.inr ⟨rfl,.inr hn⟩,S.drop⟩
end Go.Proofs.Xx
namespace Go.Proofs.Xx
open Go Go.RowKit
def YR (X:Extern):Extern:=fun g args h=>match Nat.beq g 133,args with
 | true,[.agg cs]=>match cs.toList with
  | [.string _,.int .u8 s,.int .i64 a,.int .i64 b,.slice p n c,.int .i64 x,.int .i64 y]=>some (.int .i64 (zW s a b),h.lo0)
  | _=>X g args h
 | _,_=>X g args h
theorem yB (k:IntKind) (n:Int):∀ e v',VR e (.int k n) v'→∀ e2,VR e2 (.int k n) v':=fun e v' q e2=>by cases q;exact .int k n
theorem We {X:Extern} (hX:Yl Tryz.prog X):Yl Tryz.prog (YR X):=by
 intro g args h u h1 hx B e w args' r hargs;unfold YR at hx;split at hx
 ·rename_i cs hg
  have hg:=zA6 hg;subst hg;split at hx
  ·rename_i st s a b p n c x y hcs
   cases hx
   have ha:[Value.agg cs]=[J8 ⟨st.data.toList,s,a,b,⟨p,n,c⟩,[],x,y⟩]:=by
    unfold J8 eT;rw [← Array.toArray_toList (xs:=cs),hcs];rfl
   obtain ⟨n1,v1,h2,hc,rfl,x1⟩:=Y1 (Xh:=Xa) r.wf ⟨st.data.toList,s,a,b,⟨p,n,c⟩,[],x,y⟩;rw [← ha] at hc;exact CallOk.keep (QM vC Jt (ZW follows vC Jt n1)) hc (fun b hb=>x1.ext.old b hb) (yB _ _) B e w args' r hargs
  ·exact hX _ _ _ _ _ hx B e w args' r hargs
 ·exact hX _ _ _ _ _ hx B e w args' r hargs
def int64? : Value→Option Int
 | .int .i64 n=>some n
 | _=>none
def ints? : List Value→Option (List Int)
 | []=>some []
 | v :: r=>match int64? v,ints? r with
  | some n,some l=>some (n :: l)
  | _,_=>none
theorem ints?_eq:∀ {l:List Value} {m:List Int},ints? l=some m→l=m.flatMap eI∧m.length=l.length
 | [],m,h=>by cases h;exact ⟨rfl,rfl⟩
 | v :: r,m,h=>by
  unfold ints? at h;split at h
  ·rename_i n l h1 h2
   cases h
   obtain ⟨e1,e2⟩:=ints?_eq h2;unfold int64? at h1;split at h1
   ·cases h1
    exact ⟨by rw [zG2,← e1];rfl,by simp [e2]⟩
   ·cases h1
  ·cases h
def qaO (h:AH):Option Addr→Nat→Nat→Option (List Int)
 | none,0,0=>some []
 | some ⟨b,o,none⟩,n,_=>match h.get b with
  | some (.cells cs _ _ _)=>match zq cs o n with
   | some l=>ints? l
   | none=>none
  | _=>none
 | _,_,_=>none
theorem qcA {h:AH} {p:Option Addr} {n c:Nat} {l:List Int} (q:qaO h p n c=some l):zC h (.slice p n c) 1 eI l:=by
 unfold qaO at q;split at q
 ·cases q;exact .inl ⟨rfl,rfl,rfl⟩
 ·split at q
  ·rename_i cs e s r hg
   split at q
   ·rename_i l2 ht
    obtain ⟨e1,e2⟩:=ints?_eq q;have hl:l2.length=n:=J7 ht;refine .inr ⟨_,_,_,cs,e,s,r,by rw [e2,hl],hg,?_⟩;rw [e2,hl,Nat.mul_one,← e1];exact ht
   ·cases q
  ·cases q
 ·cases q
def xY (h:AH):Nat→List Value→Option (List Tab)
 | 0,[]=>some []
 | k+1,.string st :: .int .u8 s :: .int .i64 a :: .int .i64 b :: .slice p n c :: .int .i64 x :: .int .i64 y :: r=>match qaO h p n c,xY h k r with
  | some o,some l=>some (⟨st.data.toList,s,a,b,⟨p,n,c⟩,o,x,y⟩ :: l)
  | _,_=>none
 | _,_=>none
theorem wV {h:AH}:∀ {k:Nat} {cs:List Value} {l:List Tab},xY h k cs=some l→cs=l.flatMap eT∧l.length=k∧∀ t∈l,zC h t.ov 1 eI t.opn
 | 0,cs,l,q=>by
  unfold xY at q;split at q
  ·cases q;exact ⟨rfl,rfl,fun t ht=>by cases ht⟩
  ·rename_i h0;cases h0
  ·cases q
 | k+1,cs,l,q=>by
  unfold xY at q;split at q
  ·rename_i h0;cases h0
  ·rename_i k' st s a b p n c x y r h0
   cases h0
   split at q
   ·rename_i o l2 h1 h2
    cases q
    obtain ⟨e1,e2,e3⟩:=wV h2;refine ⟨by rw [zG2,← e1];rfl,by simp [e2],fun t ht=>?_⟩;rcases zE7.1 ht with rfl|ht
    ·exact qcA h1
    ·exact e3 t ht
   ·cases q
  ·cases q
def qd2 (h:AH):Value→Option (List Tab)
 | .slice (some ⟨b,o,none⟩) n _=>match h.get b with
  | some (.cells cs _ _ _)=>match zq cs o (n*7) with
   | some l=>xY h n l
   | none=>none
  | _=>none
 | _=>none
theorem qd1 {h:AH} {v:Value} {l:List Tab} (q:qd2 h v=some l):zC h v 7 eT l∧∀ t∈l,zC h t.ov 1 eI t.opn:=by
 unfold qd2 at q;split at q
 ·split at q
  ·rename_i cs e s r hg
   split at q
   ·rename_i l2 ht
    obtain ⟨e1,e2,e3⟩:=wV q;refine ⟨.inr ⟨_,_,_,cs,e,s,r,by rw [e2],hg,?_⟩,e3⟩;rw [e2,← e1];exact ht
   ·cases q
  ·cases q
 ·cases q
def okO (n:Int):Int→List Int→Bool
 | _,[]=>true
 | lo,x :: r=>decide (lo<x) && (decide (x<n) && okO n x r)
theorem qed {n:Int}:∀ {l:List Int} {lo:Int},okO n lo l=true→∀ i,i<l.length→lo<l.getD i default∧l.getD i default<n∧(0<i→l.getD (i - 1) default<l.getD i default)
 | [],lo,h,i,hi=>absurd hi (zB7 _)
 | x :: r,lo,h,i,hi=>by
  unfold okO at h;simp only [zA8,decide_eq_true_eq] at h;obtain ⟨h1,h2,h3⟩:=h;have ih:=qed h3;cases i with
  | zero=>exact ⟨h1,h2,fun q=>absurd q (Nat.lt_irrefl _)⟩
  | succ i =>
   obtain ⟨q1,q2,q3⟩:=ih i (by simpa using hi);refine ⟨Int.lt_trans h1 q1,q2,fun _=>?_⟩;cases i with
   | zero=>exact q1
   | succ i=>exact q3 (Nat.succ_pos _)
def okT (t:Tab):Bool:=(decide (1≤t.name.length) && (decide (t.name.length≤12) && t.name.all fun x=>decide (97≤x.toNat) && decide (x.toNat≤122))) && (!decide (zl t=0) && (okO (zl t) (-1) t.opn && (decide (0≤t.X) && (decide (t.X≤1000) && (decide (0≤t.Y) && (decide (t.Y≤1000) && decide (t.opn.length≤1000)))))))
theorem qa1 {t:Tab} (h:okT t=true):chk t=0∧t.name.length≤1000∧t.opn.length≤1000:=by
 unfold okT at h;simp only [zA8,decide_eq_true_eq,zG3,decide_eq_false_iff_not,zC8] at h;obtain ⟨⟨h1,h2,h3⟩,h4,h5,h6,h7,h8,h9,h10⟩:=h;refine ⟨?_,by omega,h10⟩;have hn:Qx t.name:=⟨h1,h2,fun i hi=>h3 _ (by rw [zA2,zA4 hi];exact List.getElem_mem hi)⟩
 have ho:WI (zl t) t.opn:=fun i hi=>by
  obtain ⟨q1,q2,q3⟩:=qed h5 i hi;exact ⟨⟨by omega,q2⟩,q3⟩
 unfold chk;rw [if_neg (fun q=>q hn),if_neg h4,if_neg (fun q=>q ho),if_neg (fun q=>q ⟨h6,h7,h8,h9⟩)]
def okN:List Tab→Bool
 | []=>true
 | t :: r=>(r.all fun u=>!decide (t.name=u.name)) && okN r
theorem qee:∀ {l:List Tab},okN l=true→∀ i j,i<j→j<l.length→(tb l i).name≠(tb l j).name
 | [],h,i,j,_,hj=>absurd hj (zB7 _)
 | t :: r,h,i,j,hij,hj=>by
  unfold okN at h;simp only [zA8,zC8,zG3,decide_eq_false_iff_not] at h;cases j with
  | zero=>exact absurd hij (zB7 _)
  | succ j =>
   cases i with
   | zero =>
    have hj':j<r.length:=by simpa using hj
    refine h.1 (tb r j) ?_;unfold tb;rw [zA2,zA4 hj'];exact List.getElem_mem hj'
   | succ i=>exact qee h.2 i j (by omega) (by simpa using hj)
def qkm:Value→Bool
 | .slice _ n c=>Nat.ble n c
 | _=>true
def okH (v:Value) (l:List Tab):Bool:=Nat.ble l.length 16 && (l.all okT && (okN l && qkm v))
def YS (X:Extern):Extern:=fun g args h=>match Nat.beq g 189,args with
 | true,[v]=>match qd2 h v with
  | some l=>match okH v l with
   | true=>some (.tuple #[.int .i64 0,.int .i64 0],h.lo0)
   | false=>X g args h
  | none=>X g args h
 | _,_=>X g args h
theorem Wh {X:Extern} (hX:Yl Tryz.prog X):Yl Tryz.prog (YS X):=by
 intro g args h u h1 hx B e w args' r hargs;unfold YS at hx;split at hx
 ·rename_i v hg
  have hg:=zA6 hg;subst hg;split at hx
  ·rename_i l hl
   split at hx
   ·rename_i hk
    cases hx
    obtain ⟨r1,r2⟩:=qd1 hl;unfold okH at hk;simp only [zA8,zC8] at hk;obtain ⟨k1,k2,k3,k4⟩:=hk;have k1:=zB6 k1;have mem:∀ i,i<l.length→tb l i∈l:=fun i hi=>by unfold tb;rw [zA2,zA4 hi];exact List.getElem_mem hi
    have hc:Q7 v:=by
     cases v<;>first|exact zB6 k4|trivial
    have H:HallR h v l:=⟨r1,fun i hi=>⟨r2 _ (mem i hi),zD0 (qa1 (k2 _ (mem i hi))).2.1 (by decide),zD0 (qa1 (k2 _ (mem i hi))).2.2 (by decide)⟩,by omega,hc⟩
    have hv:∀ j,j<l.length→Zu l j:=fun j hj=>⟨(qa1 (k2 _ (mem j hj))).1,fun ⟨i,hi,he⟩=>qee k3 i j hi hj he⟩
    obtain ⟨n1,v1,h2,hc1,⟨i,e1,rfl,hk,x1⟩⟩:=XV (Xh:=Xa) r.wf v l H;obtain ⟨rfl,rfl⟩:=hk.uniq (i':=0) (e':=0) (.inr ⟨k1,.inr ⟨hv,rfl,rfl⟩⟩);refine CallOk.keep (QM vC Jt (ZW follows vC Jt n1)) hc1 (fun b hb=>x1.ext.old b hb) (fun e v' q e2=>?_) B e w args' r hargs;cases q with
    | tuple _ c' q =>
     refine .tuple [.int .i64 0,.int .i64 0] c' ?_;cases q with
     | cons _ _ _ _ q1 q2 =>
      cases q2 with
      | cons _ _ _ _ q3 q4 =>
       cases q4
       exact .cons _ _ _ _ (yB _ _ _ _ q1 _) (.cons _ _ _ _ (yB _ _ _ _ q3 _) .nil)
   ·exact hX _ _ _ _ _ hx B e w args' r hargs
  ·exact hX _ _ _ _ _ hx B e w args' r hargs
 ·exact hX _ _ _ _ _ hx B e w args' r hargs
end Go.Proofs.Xx
namespace Go.Proofs.Xx
open Go Go.RowKit
theorem qdh:(match Qe Tryz.prog (YR (YS Xa)) (exec Tryz.prog (YR (YS Xa)) 3000) 9 [] ⟨.e,0,0⟩ with|some (.bool true,_)=>true | _=>false)=true:=by decide +kernel
def Xh:Extern:=XZ Xa 9 true
theorem qgR:Yl Tryz.prog Xh:=by
 have h:=qdh;split at h
 ·rename_i h' hc
  exact kT vC (QM (We (Wh vC)) Jt (ZW follows (We (Wh vC)) Jt 3000)) hc
 ·cases h
instance kxH:KX Xh:=⟨fun f args h q r=>by
 unfold Xh XZ;split
 ·rename_i hg
  exact absurd (zA6 hg) q
 ·exact r⟩
variable [Flag]
theorem qdi {h0:AH} (w:WfH h0):Fn Tryz.prog Xh 9 [] h0 (fun v h'=>v = .bool true∧Hs h0 h' []):=JW rfl ⟨rfl,Hs.start w⟩
theorem KA {h:AH} (s:List UInt8):Fn Tryz.prog Xh 370 [str s] h (fun v h'=>qZ v (Qx s)∧h'=h):=by
 refine qL (by first|rfl|exact KX.no _ _ _ (by decide) rfl) Tryz.func370 rfl rfl ?_;all_goals (repeat' (first|refine qg ?_|refine qh rfl ?_|refine qi ?_|refine qC ?_|refine qj ?_|refine qX ?_|refine qY ?_|(refine qc 0 ?_;refine mv ?_;refine qf ?_)|(refine qc 1 ?_;refine mv ?_;refine tl ?_;(first|refine cT ?_|refine cF ?_|(refine cS ?_ ?_<;>intro hc))<;>(refine mv ?_;(first|refine off ?_|refine mv ?_);(first|refine off ?_|refine tl ?_);(first|refine off ?_|(first|refine cT ?_|refine cF ?_|(refine cS ?_ ?_<;>intro hc)))<;>(refine vl ?_;refine qf ?_)))|(refine qc 2 ?_;refine mv ?_;refine qf ?_)))
 ·refine qo ⟨_,rfl,?_⟩;exact ⟨.inr ⟨rfl,fun q=>by have:=q.1;omega⟩,rfl⟩
 ·refine qo ⟨_,rfl,?_⟩;exact ⟨.inr ⟨rfl,fun q=>by have:=q.2.1;omega⟩,rfl⟩
 all_goals (repeat' (first|refine qg ?_|refine qh rfl ?_|refine qi ?_|refine qC ?_|refine qj ?_|refine qX ?_|refine qY ?_|(refine qc 3 ?_;refine mv ?_;refine tl ?_;refine mv ?_;refine qf ?_)))
 refine qH (σ:=Nat) (fun i h'=>h'=h∧i≤s.length∧∀ j,j<i→Zt (s.getD j default)) (fun i=>s.length - i) (fun i=>[(0,str s),(13,.int .i64 s.length),(14,.int .i64 i)]) 0 qx ?_ ?_
 ·exact ⟨rfl,zB0 _,fun j hj=>absurd hj (zB7 _)⟩
 rintro i h ⟨rfl,h1,h2⟩;all_goals (repeat' (first|refine qg ?_|refine qh rfl ?_|refine qi ?_|refine qC ?_|refine qj ?_|refine qX ?_|refine qY ?_|(refine qc 4 ?_;(first|refine cT ?_|refine cF ?_|(refine cS ?_ ?_<;>intro hc))<;>(refine qf ?_))|(refine qc 5 ?_;refine mv ?_;refine mv ?_;refine qf ?_)|(refine qc 6 ?_;refine mv ?_;refine mv ?_;(first|refine ti ?_|refine vl ?_);(first|refine cT ?_|refine cF ?_|(refine cS ?_ ?_<;>intro hc))<;>(refine mv ?_;(first|refine off ?_|refine mv ?_);(first|refine off ?_|refine mv ?_);(first|refine off ?_|(first|refine ti ?_|refine vl ?_));(first|refine off ?_|(first|refine cT ?_|refine cF ?_|(refine cS ?_ ?_<;>intro hc)))<;>(refine vl ?_;refine qf ?_)))|(refine qc 7 ?_;refine mv ?_;refine qf ?_)|(refine qc 8 ?_;(first|refine ad ?_|refine vl ?_);refine mv ?_;refine qf ?_)|(refine qc 9 ?_;refine mv ?_;refine qf ?_)))
 all_goals (try simp only [zA0] at *)
 ·refine qo ⟨_,rfl,?_⟩;exact ⟨.inr ⟨rfl,fun q=>by have:=q.2.2 i (by omega);unfold Zt at this;simp only [YU] at this;omega⟩,rfl⟩
 ·refine qo ⟨_,rfl,?_⟩;exact ⟨.inr ⟨rfl,fun q=>by have:=q.2.2 i (by omega);unfold Zt at this;simp only [YU] at this;omega⟩,rfl⟩
 ·refine ⟨i+1,?_,?_,qx⟩
  ·show s.length - (i+1)<s.length - i;omega
  ·refine ⟨rfl,by omega,Qj h2 ?_⟩;unfold Zt;simp only [YU];omega
 ·refine qo ⟨_,rfl,?_⟩;exact ⟨.inl ⟨rfl,by omega,by omega,fun j hj=>h2 j (by omega)⟩,rfl⟩
theorem gZ {h:AH} (s:List UInt8):Fn Tryz.prog Xh 371 [str s] h (fun v h'=>qZ v (Yp s)∧h'=h):=by
 refine qL (by first|rfl|exact KX.no _ _ _ (by decide) rfl) Tryz.func371 rfl rfl ?_;all_goals (repeat' (first|refine qg ?_|refine qh rfl ?_|refine qi ?_|refine qC ?_|refine qj ?_|refine qX ?_|refine qY ?_|(refine qc 0 ?_;refine mv ?_;refine qf ?_)|(refine qc 1 ?_;refine mv ?_;(refine tS ?_ ?_<;>intro hc)<;>(refine mv ?_;(first|refine off ?_|refine mv ?_);(first|(refine off ?_;refine vl ?_;refine mv ?_;refine qf ?_)|skip)))))
 ·refine qo ⟨_,rfl,?_⟩;exact ⟨.inl ⟨rfl,.inl hc⟩,rfl⟩
 (refine qw rfl rfl rfl rfl rfl ((KA s).mono ?_);rintro _ _ ⟨⟨rfl,hq⟩|⟨rfl,hq⟩,rfl⟩)<;>(refine vl ?_;refine mv ?_;refine qf ?_)
 all_goals (all_goals (repeat' (first|refine qg ?_|refine qh rfl ?_|refine qi ?_|refine qC ?_|refine qj ?_|refine qX ?_|refine qY ?_)))
 all_goals (refine qo ⟨_,rfl,?_⟩)
 ·exact ⟨.inl ⟨rfl,.inr hq⟩,rfl⟩
 ·exact ⟨.inr ⟨rfl,fun q=>by rcases q with q|q;exact hc q;exact hq q⟩,rfl⟩
theorem Za {h:AH} (s:List UInt8):Fn Tryz.prog Xh 317 [str s] h (fun v h'=>qZ v (Qx s)∧h'=h):=by
 refine qL (by first|rfl|exact KX.no _ _ _ (by decide) rfl) Tryz.func317 rfl rfl ?_;all_goals (repeat' (first|refine qg ?_|refine qh rfl ?_|refine qi ?_|refine qC ?_|refine qj ?_|refine qX ?_|refine qY ?_|(refine qc 0 ?_;refine mv ?_;refine qf ?_)|(refine qc 1 ?_;refine mv ?_;refine tl ?_;(first|refine cT ?_|refine cF ?_|(refine cS ?_ ?_<;>intro hc))<;>(refine mv ?_;(first|refine off ?_|refine mv ?_);(first|refine off ?_|refine tl ?_);(first|refine off ?_|(first|refine cT ?_|refine cF ?_|(refine cS ?_ ?_<;>intro hc)))<;>(refine vl ?_;refine qf ?_)))|(refine qc 2 ?_;refine mv ?_;refine qf ?_)))
 ·refine qo ⟨_,rfl,?_⟩;exact ⟨.inr ⟨rfl,fun q=>by have:=q.1;omega⟩,rfl⟩
 ·refine qo ⟨_,rfl,?_⟩;exact ⟨.inr ⟨rfl,fun q=>by have:=q.2.1;omega⟩,rfl⟩
 all_goals (repeat' (first|refine qg ?_|refine qh rfl ?_|refine qi ?_|refine qC ?_|refine qj ?_|refine qX ?_|refine qY ?_|(refine qc 3 ?_;refine mv ?_;refine qf ?_)))
 refine qH (σ:=Nat) (fun i h'=>h'=h∧i≤s.length∧∀ j,j<i→Zt (s.getD j default)) (fun i=>s.length - i) (fun i=>[(0,str s),(3,.int .i64 i)]) 0 qx ?_ ?_
 ·exact ⟨rfl,zB0 _,fun j hj=>absurd hj (zB7 _)⟩
 rintro i h ⟨rfl,h1,h2⟩;all_goals (repeat' (first|refine qg ?_|refine qh rfl ?_|refine qi ?_|refine qC ?_|refine qj ?_|refine qX ?_|refine qY ?_|(refine qc 4 ?_;refine mv ?_;refine mv ?_;refine tl ?_;(first|refine cT ?_|refine cF ?_|(refine cS ?_ ?_<;>intro hc))<;>(refine qf ?_))|(refine qc 5 ?_;refine mv ?_;(first|refine ad ?_|refine vl ?_);refine mv ?_;refine qf ?_)|(refine qc 6 ?_;refine mv ?_;refine mv ?_;(first|refine ti ?_|refine vl ?_);(first|refine cT ?_|refine cF ?_|(refine cS ?_ ?_<;>intro hc))<;>(refine mv ?_;(first|refine off ?_|refine mv ?_);(first|refine off ?_|refine mv ?_);(first|refine off ?_|(first|refine ti ?_|refine vl ?_));(first|refine off ?_|(first|refine cT ?_|refine cF ?_|(refine cS ?_ ?_<;>intro hc)))<;>(refine vl ?_;refine qf ?_)))|(refine qc 7 ?_;refine mv ?_;refine qf ?_)|(refine qc 8 ?_;refine mv ?_;refine qf ?_)))
 all_goals (try simp only [zA0] at *)
 ·refine qo ⟨_,rfl,?_⟩;exact ⟨.inr ⟨rfl,fun q=>by have:=q.2.2 i (by omega);unfold Zt at this;simp only [YU] at this;omega⟩,rfl⟩
 ·refine qo ⟨_,rfl,?_⟩;exact ⟨.inr ⟨rfl,fun q=>by have:=q.2.2 i (by omega);unfold Zt at this;simp only [YU] at this;omega⟩,rfl⟩
 ·refine ⟨i+1,?_,?_,qx⟩
  ·show s.length - (i+1)<s.length - i;omega
  ·refine ⟨rfl,by omega,Qj h2 ?_⟩;unfold Zt;simp only [YU];omega
 ·refine qo ⟨_,rfl,?_⟩;exact ⟨.inl ⟨rfl,by omega,by omega,fun j hj=>h2 j (by omega)⟩,rfl⟩
end Go.Proofs.Xx
namespace Go.Proofs.Xx
open Go Go.Proofs
structure Gu where
 name:List UInt8
 rank:List UInt8
 court:List UInt8
 since:Int
 side:Int
 diet:List UInt8
 host:Bool
 access:Bool
 tg:List (List UInt8)
instance:Inhabited Gu:=⟨⟨[],[],[],0,0,[],false,false,[]⟩⟩
structure Z5 extends Gu where
 tv:SlV
instance:Inhabited Z5:=⟨⟨default,⟨none,0,0⟩⟩⟩
def gV (g:Z5):Value:=.agg #[str g.name,str g.rank,str g.court,.int .i64 g.since,.int .i64 g.side,str g.diet,.bool g.host,.bool g.access,g.tv.val]
def eG (g:Z5):List Value:=[str g.name,str g.rank,str g.court,.int .i64 g.since,.int .i64 g.side,str g.diet,.bool g.host,.bool g.access,g.tv.val]
def qh6 (h:AH) (g:Z5):Prop:=zC h g.tv.val 1 eS g.tg∧g.tg.length≤9223372036854775807
def qgl (l:List (List UInt8)):Prop:=∀ i,i<l.length→Qx (l.getD i default)∧(0<i→jE (l.getD (i - 1) default) (l.getD i default))
def XX (g:Gu):Prop:=Qx g.name∧Yp g.rank∧Yp g.court∧Yp g.diet
open Classical in
noncomputable def Q5 (g:Gu):Int :=
 if ¬ XX g then 4
 else if ¬ (0≤g.since∧g.since≤9999) then 21
 else if ¬ (0≤g.side∧g.side≤2) then 20
 else if ¬ (g.tg.length≤4∧qgl g.tg) then 22
 else 0
theorem qeW {g:Gu} (h:¬ XX g):Q5 g=4:=by unfold Q5;rw [if_pos h]
theorem qb9 {g:Gu} (h:XX g) (h2:¬ (0≤g.since∧g.since≤9999)):Q5 g=21:=by unfold Q5;rw [if_neg (by simpa using h),if_pos h2]
theorem qca {g:Gu} (h:XX g) (h2:0≤g.since∧g.since≤9999) (h3:¬ (0≤g.side∧g.side≤2)):Q5 g=20:=by
 unfold Q5;rw [if_neg (by simpa using h),if_neg (by simpa using h2),if_pos h3]
theorem Yg {g:Gu} (h:XX g) (h2:0≤g.since∧g.since≤9999) (h3:0≤g.side∧g.side≤2) (h4:¬ (g.tg.length≤4∧qgl g.tg)):Q5 g=22:=by
 unfold Q5;rw [if_neg (by simpa using h),if_neg (by simpa using h2),if_neg (by simpa using h3),if_pos h4]
theorem qeX {g:Gu} (h:XX g) (h2:0≤g.since∧g.since≤9999) (h3:0≤g.side∧g.side≤2) (h4:g.tg.length≤4∧qgl g.tg):Q5 g=0:=by
 unfold Q5;rw [if_neg (by simpa using h),if_neg (by simpa using h2),if_neg (by simpa using h3),if_neg (by simpa using h4)]
variable [Flag]
theorem qeY {h0:AH} (w:WfH h0) (g:Z5) (r:qh6 h0 g):Fn Tryz.prog Xh 360 [gV g] h0 (fun v h'=>v = .int .i64 (Q5 g.toGu)∧Hs h0 h' []):=by
 have S:=Hs.start w;have hr:zC h0 g.tv.val 1 eS g.tg:=r.1;have hbig:=r.2;unfold gV;refine qL (by first|rfl) Tryz.func360 rfl rfl ?_;all_goals (repeat' (first|refine qg ?_|refine qj ?_|(refine qc 0 ?_;(refine bx S ?_;clear S;intro b h S);refine mv ?_;refine qf ?_)))
 all_goals (repeat' (first|(refine qc 1 ?_;refine vl ?_;refine lB S rfl rfl ?_)))
 (refine qw rfl rfl rfl rfl rfl ((KA g.name).mono ?_);rintro _ _ ⟨⟨rfl,q1⟩|⟨rfl,q1⟩,rfl⟩)<;>(refine vl ?_;refine mv ?_;(first|refine off ?_|(refine vl ?_));(first|refine off ?_|(refine lB S rfl rfl ?_));(first|(refine off ?_;refine off ?_;refine vl ?_;refine mv ?_;refine off ?_;refine off ?_;(first|(refine off ?_;refine off ?_;refine vl ?_;refine mv ?_;refine off ?_;refine off ?_;(first|(refine off ?_;refine off ?_;refine vl ?_;refine mv ?_;refine qf ?_)))))|skip))
 any_goals ((refine qw rfl rfl rfl rfl rfl ((gZ g.rank).mono ?_);rintro _ _ ⟨⟨rfl,q2⟩|⟨rfl,q2⟩,rfl⟩)<;>((refine vl ?_);refine vl ?_;refine mv ?_;(first|refine off ?_|(refine vl ?_));(first|refine off ?_|(refine lB S rfl rfl ?_));(first|(refine off ?_;refine off ?_;refine vl ?_;refine mv ?_;refine off ?_;refine off ?_;(first|(refine off ?_;refine off ?_;refine vl ?_;refine mv ?_;refine qf ?_)))|skip)))
 any_goals ((refine qw rfl rfl rfl rfl rfl ((gZ g.court).mono ?_);rintro _ _ ⟨⟨rfl,q3⟩|⟨rfl,q3⟩,rfl⟩)<;>((refine vl ?_);refine vl ?_;refine mv ?_;(first|refine off ?_|(refine vl ?_));(first|refine off ?_|(refine lB S rfl rfl ?_));(first|(refine off ?_;refine off ?_;refine vl ?_;refine mv ?_;refine qf ?_)|skip)))
 any_goals ((refine qw rfl rfl rfl rfl rfl ((gZ g.diet).mono ?_);rintro _ _ ⟨⟨rfl,q4⟩|⟨rfl,q4⟩,rfl⟩)<;>((refine vl ?_);refine vl ?_;refine mv ?_;refine qf ?_))
 all_goals (repeat' (first|refine qg ?_|refine qh rfl ?_|refine qi ?_|refine qj ?_|(refine qc 2 ?_;refine mv ?_;refine qf ?_)|(refine qc 3 ?_;refine vl ?_;refine lB S rfl rfl ?_;(first|(refine cS ?_ ?_<;>intro hc))<;>(refine mv ?_;(first|refine off ?_|(refine vl ?_));(first|refine off ?_|(refine lB S rfl rfl ?_));(first|refine off ?_|(first|(refine cS ?_ ?_<;>intro hc)))<;>(refine vl ?_;refine mv ?_;refine qf ?_)))|(refine qc 4 ?_;refine mv ?_;refine qf ?_)|(refine qc 5 ?_;refine vl ?_;refine lB S rfl rfl ?_;(first|(refine cS ?_ ?_<;>intro hc))<;>(refine mv ?_;(first|refine off ?_|(refine vl ?_));(first|refine off ?_|(refine lB S rfl rfl ?_));(first|refine off ?_|(first|(refine cS ?_ ?_<;>intro hc)))<;>(refine vl ?_;refine mv ?_;refine qf ?_)))|(refine qc 6 ?_;refine mv ?_;refine qf ?_)|(refine qc 7 ?_;refine vl ?_;refine lB S rfl rfl ?_;refine jf S ?_;(first|(refine cS ?_ ?_<;>intro hc))<;>(refine mv ?_;refine qf ?_))|(refine qc 8 ?_;refine mv ?_;refine qf ?_)|(refine qc 9 ?_;refine vl ?_;refine lB S rfl rfl ?_;refine jf S ?_;refine mv ?_;refine qf ?_)))
 any_goals
  refine qo ⟨_,rfl,?_⟩;refine ⟨?_,S.drop⟩;first
   | (rw [qeW (fun q=>by unfold XX at q;grind)];rfl)
   | (rw [qb9 ⟨q1,q2,q3,q4⟩ (by omega)];rfl)
   | (rw [qca ⟨q1,q2,q3,q4⟩ (by omega) (by omega)];rfl)
   | (rw [Yg ⟨q1,q2,q3,q4⟩ (by omega) (by omega) (fun q=>by have:=q.1;omega)];rfl)
 have h1:0≤g.since∧g.since≤9999:=by omega
 have h2:0≤g.side∧g.side≤2:=by omega
 have h3:g.tg.length≤4:=by omega
 refine qH (σ:=Nat) (fun i h'=>Hs h0 h' [.blk b (eG g) 45]∧i≤g.tg.length∧∀ j,j<i→Qx (g.tg.getD j default)∧(0<j→jE (g.tg.getD (j - 1) default) (g.tg.getD j default))) (fun i=>g.tg.length - i) (fun i=>[(1,.pointer (some ⟨b,0,none⟩)),(52,g.tv.val),(53,.int .i64 g.tg.length),(54,.int .i64 i)]) 0 qx ?_ ?_
 ·exact ⟨S,zB0 _,fun j hj=>absurd hj (zB7 _)⟩
 clear S;rintro i h ⟨S,g1,g2⟩;all_goals (repeat' (first|refine qg ?_|refine qh rfl ?_|refine qi ?_|refine qC ?_|refine qj ?_|(refine qc 10 ?_;(first|(refine cS ?_ ?_<;>intro hc))<;>(refine qf ?_))|(refine qc 11 ?_;refine mv ?_;refine jF S ?_;refine jk S ?_;refine mv ?_;refine mv ?_;refine qf ?_)|(refine qc 12 ?_;refine mv ?_)|(refine qc 15 ?_;refine mv ?_;refine qf ?_)))
 ·(try simp only [zA0] at *)
  (refine qw rfl rfl rfl rfl rfl ((KA _).mono ?_);rintro _ _ ⟨⟨rfl,q5⟩|⟨rfl,q5⟩,rfl⟩)<;>(refine vl ?_;refine mv ?_;(first|refine off ?_|refine mv ?_);(first|refine off ?_|(first|(refine cS ?_ ?_<;>intro hc)))<;>((first|refine off ?_|refine mv ?_);(first|refine off ?_|(refine vl ?_));(first|refine off ?_|(refine lB S rfl rfl ?_));(first|refine off ?_|refine mv ?_);(first|refine off ?_|(refine sb ?_));(first|refine off ?_|(refine jF S ?_));(first|refine off ?_|(refine jk S ?_));(first|refine off ?_|refine mv ?_);(first|refine off ?_|(refine tO ?_ ?_<;>intro hc))<;>((first|refine off ?_|refine vl ?_);refine vl ?_;refine qf ?_)))
  all_goals (all_goals (repeat' (first|refine qg ?_|refine qh rfl ?_|refine qi ?_|(refine qc 13 ?_;refine mv ?_;refine qf ?_)|(refine qc 14 ?_;refine ad ?_;refine mv ?_;refine qf ?_))))
  ·refine qo ⟨_,rfl,?_⟩;rw [show ((i:Int) - 1).toNat=i - 1 by omega] at hc;exact ⟨by rw [Yg ⟨q1,q2,q3,q4⟩ h1 h2 (fun q=>hc ((q.2 i (by omega)).2 (by omega)))];rfl,S.drop⟩
  ·rw [show ((i:Int) - 1).toNat=i - 1 by omega] at hc;refine ⟨i+1,?_,?_,qx⟩
   ·show g.tg.length - (i+1)<g.tg.length - i;omega
   ·exact ⟨S,by omega,Qj g2 ⟨q5,fun _=>zF3.1 hc⟩⟩
  ·refine ⟨i+1,?_,?_,qx⟩
   ·show g.tg.length - (i+1)<g.tg.length - i;omega
   ·exact ⟨S,by omega,Qj g2 ⟨q5,fun q=>by omega⟩⟩
  ·refine qo ⟨_,rfl,?_⟩;exact ⟨by rw [Yg ⟨q1,q2,q3,q4⟩ h1 h2 (fun q=>q5 (q.2 i (by omega)).1)];rfl,S.drop⟩
 ·refine qo ⟨_,rfl,?_⟩;exact ⟨by rw [qeX ⟨q1,q2,q3,q4⟩ h1 h2 ⟨h3,fun j hj=>g2 j (by omega)⟩];rfl,S.drop⟩
theorem Pg {h0:AH} (w:WfH h0) (g:Z5) (r:qh6 h0 g):Fn Tryz.prog Xh 354 [gV g] h0 (fun v h'=>v = .int .i64 (Q5 g.toGu)∧Hs h0 h' []):=by
 have S:=Hs.start w;have hr:zC h0 g.tv.val 1 eS g.tg:=r.1;have hbig:=r.2;unfold gV;refine qL (by first|rfl) Tryz.func354 rfl rfl ?_;all_goals (repeat' (first|refine qg ?_|(refine qc 0 ?_;(refine bx S ?_;clear S;intro b h S);refine mv ?_;refine qf ?_)))
 (repeat (refine qg ?_));first|refine jC (σ:=Unit) (fun _ h'=>XX g.toGu∧Hs h0 h' [.blk b (eG g) 45]) (fun _=>[(1,.pointer (some ⟨b,0,none⟩))]) ?_ ?_
 ·all_goals (repeat' (first|(refine qc 1 ?_;refine vl ?_;refine lB S rfl rfl ?_)))
  (refine qw rfl rfl rfl rfl rfl ((Za g.name).mono ?_);rintro _ _ ⟨⟨rfl,q1⟩|⟨rfl,q1⟩,rfl⟩)<;>(refine vl ?_;refine mv ?_;(first|refine off ?_|(refine vl ?_));(first|refine off ?_|(refine lB S rfl rfl ?_));(first|refine off ?_|(refine tS ?_ ?_<;>intro hc))<;>((first|refine off ?_|refine mv ?_);(first|refine off ?_|(refine vl ?_));(first|refine off ?_|(refine lB S rfl rfl ?_));(first|(refine off ?_;refine off ?_;(first|refine off ?_|refine vl ?_);refine vl ?_;refine mv ?_;(first|refine off ?_|(refine vl ?_));(first|refine off ?_|(refine lB S rfl rfl ?_));(first|refine off ?_|(refine tS ?_ ?_<;>intro hc))<;>((first|refine off ?_|refine mv ?_);(first|refine off ?_|(refine vl ?_));(first|refine off ?_|(refine lB S rfl rfl ?_));(first|(refine off ?_;refine off ?_;(first|refine off ?_|refine vl ?_);refine vl ?_;refine mv ?_;(first|refine off ?_|(refine vl ?_));(first|refine off ?_|(refine lB S rfl rfl ?_));(first|refine off ?_|(refine tS ?_ ?_<;>intro hc))<;>((first|refine off ?_|refine mv ?_);(first|refine off ?_|(refine vl ?_));(first|refine off ?_|(refine lB S rfl rfl ?_));(first|(refine off ?_;refine off ?_;(first|refine off ?_|refine vl ?_);refine vl ?_;refine qf ?_)|skip)))|skip)))|skip)))
  any_goals ((refine qw rfl rfl rfl rfl rfl ((Za g.rank).mono ?_);rintro _ _ ⟨⟨rfl,q2⟩|⟨rfl,q2⟩,rfl⟩)<;>((refine vl ?_);refine vl ?_;refine vl ?_;refine mv ?_;(first|refine off ?_|(refine vl ?_));(first|refine off ?_|(refine lB S rfl rfl ?_));(first|refine off ?_|(refine tS ?_ ?_<;>intro hc))<;>((first|refine off ?_|refine mv ?_);(first|refine off ?_|(refine vl ?_));(first|refine off ?_|(refine lB S rfl rfl ?_));(first|(refine off ?_;refine off ?_;(first|refine off ?_|refine vl ?_);refine vl ?_;refine mv ?_;(first|refine off ?_|(refine vl ?_));(first|refine off ?_|(refine lB S rfl rfl ?_));(first|refine off ?_|(refine tS ?_ ?_<;>intro hc))<;>((first|refine off ?_|refine mv ?_);(first|refine off ?_|(refine vl ?_));(first|refine off ?_|(refine lB S rfl rfl ?_));(first|(refine off ?_;refine off ?_;(first|refine off ?_|refine vl ?_);refine vl ?_;refine qf ?_)|skip)))|skip))))
  any_goals ((refine qw rfl rfl rfl rfl rfl ((Za g.court).mono ?_);rintro _ _ ⟨⟨rfl,q3⟩|⟨rfl,q3⟩,rfl⟩)<;>((refine vl ?_);refine vl ?_;refine vl ?_;refine mv ?_;(first|refine off ?_|(refine vl ?_));(first|refine off ?_|(refine lB S rfl rfl ?_));(first|refine off ?_|(refine tS ?_ ?_<;>intro hc))<;>((first|refine off ?_|refine mv ?_);(first|refine off ?_|(refine vl ?_));(first|refine off ?_|(refine lB S rfl rfl ?_));(first|(refine off ?_;refine off ?_;(first|refine off ?_|refine vl ?_);refine vl ?_;refine qf ?_)|skip))))
  any_goals ((refine qw rfl rfl rfl rfl rfl ((Za g.diet).mono ?_);rintro _ _ ⟨⟨rfl,q4⟩|⟨rfl,q4⟩,rfl⟩)<;>((refine vl ?_);refine vl ?_;refine vl ?_;refine qf ?_))
  all_goals (all_goals (repeat' (first|refine qg ?_|refine qh rfl ?_|refine qi ?_|(refine qc 2 ?_;refine mv ?_;refine qf ?_))))
  any_goals
   refine qo ⟨_,rfl,?_⟩;refine ⟨?_,S.drop⟩;rw [qeW (fun q=>by unfold XX Yp at q;grind)];rfl
  all_goals exact ⟨(),⟨by unfold XX Yp;grind,S⟩,(qx)⟩
 clear S;rintro - h ⟨hN,S⟩;all_goals (repeat' (first|refine qg ?_|refine qh rfl ?_|refine qi ?_|(refine qc 3 ?_;refine vl ?_;refine lB S rfl rfl ?_;(first|(refine cS ?_ ?_<;>intro hc))<;>(refine mv ?_;(first|refine off ?_|(refine vl ?_));(first|refine off ?_|(refine lB S rfl rfl ?_));(first|refine off ?_|(first|(refine cS ?_ ?_<;>intro hc)))<;>(refine vl ?_;refine qf ?_)))|(refine qc 4 ?_;refine mv ?_;refine qf ?_)))
 any_goals
  refine qo ⟨_,rfl,?_⟩;refine ⟨?_,S.drop⟩;rw [qb9 hN (by omega)];rfl
 have h1:0≤g.since∧g.since≤9999:=by omega
 (repeat (refine qg ?_));first|refine jC (σ:=Unit) (fun _ h'=>(0≤g.side∧g.side≤2)∧Hs h0 h' [.blk b (eG g) 45]) (fun _=>[(1,.pointer (some ⟨b,0,none⟩))]) ?_ ?_
 ·all_goals (repeat' (first|refine qg ?_|refine qh rfl ?_|refine qi ?_|(refine qc 5 ?_;refine vl ?_;refine lB S rfl rfl ?_;(first|(refine cS ?_ ?_<;>intro hc))<;>(refine mv ?_;(first|refine off ?_|(refine vl ?_));(first|refine off ?_|(refine lB S rfl rfl ?_));(first|refine off ?_|(first|(refine cS ?_ ?_<;>intro hc)))<;>(refine vl ?_;refine mv ?_;(first|refine off ?_|(refine vl ?_));(first|refine off ?_|(refine lB S rfl rfl ?_));(first|refine off ?_|(first|(refine cS ?_ ?_<;>intro hc)))<;>(refine vl ?_;refine qf ?_))))|(refine qc 6 ?_;refine mv ?_;refine qf ?_)))
  any_goals
   refine qo ⟨_,rfl,?_⟩;refine ⟨?_,S.drop⟩;rw [qca hN h1 (by omega)];rfl
  all_goals exact ⟨(),⟨by omega,S⟩,(qx)⟩
 clear S;rintro - h ⟨h2,S⟩;all_goals (repeat' (first|refine qg ?_|refine qh rfl ?_|refine qi ?_|refine qj ?_|(refine qc 7 ?_;refine vl ?_;refine lB S rfl rfl ?_;refine jf S ?_;(first|(refine cS ?_ ?_<;>intro hc))<;>(refine qf ?_))|(refine qc 8 ?_;refine mv ?_;refine qf ?_)|(refine qc 9 ?_;refine mv ?_;refine qf ?_)))
 ·refine qo ⟨_,rfl,?_⟩;refine ⟨?_,S.drop⟩;rw [Yg hN h1 h2 (fun q=>by have:=q.1;omega)];rfl
 have h3:g.tg.length≤4:=by omega
 refine qH (σ:=Nat) (fun i h'=>Hs h0 h' [.blk b (eG g) 45]∧i≤g.tg.length∧∀ j,j<i→Qx (g.tg.getD j default)∧(0<j→jE (g.tg.getD (j - 1) default) (g.tg.getD j default))) (fun i=>g.tg.length - i) (fun i=>[(1,.pointer (some ⟨b,0,none⟩)),(3,.int .i64 i)]) 0 qx ?_ ?_
 ·exact ⟨S,zB0 _,fun j hj=>absurd hj (zB7 _)⟩
 clear S;rintro i h ⟨S,g1,g2⟩;all_goals (repeat' (first|refine qg ?_|refine qh rfl ?_|refine qi ?_|refine qC ?_|refine qj ?_|(refine qc 10 ?_;refine mv ?_;refine vl ?_;refine lB S rfl rfl ?_;refine jf S ?_;(first|(refine cS ?_ ?_<;>intro hc))<;>(refine qf ?_))|(refine qM 12 ?_;refine vl ?_;refine lB S rfl rfl ?_;refine mv ?_;refine jF S ?_;refine jk S ?_)|(refine qc 14 ?_;refine mv ?_;refine qf ?_)))
 ·(try simp only [zA0] at *)
  (refine qw rfl rfl rfl rfl rfl ((Za _).mono ?_);rintro _ _ ⟨⟨rfl,q5⟩|⟨rfl,q5⟩,rfl⟩)<;>(refine vl ?_;refine mv ?_;(first|refine off ?_|refine mv ?_);(first|refine off ?_|(first|(refine cS ?_ ?_<;>intro hc)))<;>((first|refine off ?_|refine mv ?_);(first|refine off ?_|(refine vl ?_));(first|refine off ?_|(refine lB S rfl rfl ?_));(first|refine off ?_|refine mv ?_);(first|refine off ?_|(refine jF S ?_));(first|refine off ?_|(refine jk S ?_));(first|refine off ?_|(refine vl ?_));(first|refine off ?_|(refine lB S rfl rfl ?_));(first|refine off ?_|refine mv ?_);(first|refine off ?_|(refine sb ?_));(first|refine off ?_|(refine jF S ?_));(first|refine off ?_|(refine jk S ?_));(first|refine off ?_|(refine tO ?_ ?_<;>intro hc))<;>((first|refine off ?_|refine vl ?_);refine vl ?_;refine qf ?_)))
  all_goals (all_goals (repeat' (first|refine qg ?_|refine qh rfl ?_|refine qi ?_|(refine qc 11 ?_;refine mv ?_;refine ad ?_;refine mv ?_;refine qf ?_)|(refine qc 13 ?_;refine mv ?_;refine qf ?_))))
  ·refine qo ⟨_,rfl,?_⟩;rw [show ((i:Int) - 1).toNat=i - 1 by omega] at hc;exact ⟨by rw [Yg hN h1 h2 (fun q=>hc ((q.2 i (by omega)).2 (by omega)))];rfl,S.drop⟩
  ·rw [show ((i:Int) - 1).toNat=i - 1 by omega] at hc;refine ⟨i+1,?_,?_,qx⟩
   ·show g.tg.length - (i+1)<g.tg.length - i;omega
   ·exact ⟨S,by omega,Qj g2 ⟨q5,fun _=>zF3.1 hc⟩⟩
  ·refine ⟨i+1,?_,?_,qx⟩
   ·show g.tg.length - (i+1)<g.tg.length - i;omega
   ·exact ⟨S,by omega,Qj g2 ⟨q5,fun q=>by omega⟩⟩
  ·refine qo ⟨_,rfl,?_⟩;exact ⟨by rw [Yg hN h1 h2 (fun q=>q5 (q.2 i (by omega)).1)];rfl,S.drop⟩
 ·refine qo ⟨_,rfl,?_⟩;exact ⟨by rw [qeX hN h1 h2 ⟨h3,fun j hj=>g2 j (by omega)⟩];rfl,S.drop⟩
end Go.Proofs.Xx
namespace Go.Proofs.Xx
open Go
def Star (h:AH):List Rs→Fp→Prop
 | [],_=>True
 | r :: rs,U=>∃ fp:Fp,r.ok h fp∧(∀ b,fp b→U b)∧Star h rs (fun b=>U b∧¬ fp b)
theorem Star.mono {h:AH}:∀ {rs:List Rs} {U U':Fp},(∀ b,U b→U' b)→Star h rs U→Star h rs U'
 | [],_,_,_,_=>trivial
 | r :: rs,U,U',hu,⟨fp,h1,h2,h3⟩=>⟨fp,h1,fun b hb=>hu b (h2 b hb),h3.mono fun b hb=>⟨hu b hb.1,hb.2⟩⟩
theorem Star.local {h h':AH}:∀ {rs:List Rs} {U:Fp},Star h rs U→(∀ b,U b→h'.get b=h.get b)→Star h' rs U
 | [],_,_,_=>trivial
 | r :: rs,U,⟨fp,h1,h2,h3⟩,hs=>⟨fp,h1.local fun b hb=>hs b (h2 b hb),h2,h3.local fun b hb=>hs b hb.1⟩
theorem Star.sep {lo:Nat} {h:AH} {rs:List Rs}:∀ {l:List Rs} {U V:Fp},Star h l U→(∀ b,U b→lo≤b∧b<h.next∧V b)→Sep lo h rs (fun b=>V b∧¬ U b)→Sep lo h (l ++ rs) V
 | [],U,V,_,_,k=>k.mono fun b hb=>hb.1
 | r :: l,U,V,⟨fp,h1,h2,h3⟩,hu,k=>⟨fp,h1,fun b hb=>hu b (h2 b hb),h3.sep (fun b hb=>⟨(hu b hb.1).1,(hu b hb.1).2.1,(hu b hb.1).2.2,hb.2⟩) (k.mono fun b hb=>⟨⟨hb.1,fun q=>hb.2 (h2 b q)⟩,fun q=>hb.2 q.1⟩)⟩
theorem Sep.star {lo:Nat} {h:AH} {rs:List Rs}:∀ {l:List Rs} {V:Fp},Sep lo h (l ++ rs) V→∃ U:Fp,Star h l U∧(∀ b,U b→lo≤b∧b<h.next∧V b)∧Sep lo h rs (fun b=>V b∧¬ U b)
 | [],V,k=>⟨fun _=>False,trivial,fun b hb=>hb.elim,k.mono fun b hb=>⟨hb,id⟩⟩
 | r :: l,V,⟨fp,h1,h2,h3⟩=>by
  obtain ⟨U,k1,k2,k3⟩:=h3.star;refine ⟨fun b=>fp b∨U b,⟨fp,h1,fun b hb=>.inl hb,k1.mono fun b hb=>⟨.inr hb,(k2 b hb).2.2.2⟩⟩,fun b hb=>?_,k3.mono fun b hb=>⟨hb.1.1,fun q=>?_⟩⟩
  ·rcases hb with hb|hb
   ·exact h2 b hb
   ·exact ⟨(k2 b hb).1,(k2 b hb).2.1,(k2 b hb).2.2.1⟩
  ·rcases q with q|q
   ·exact hb.1.2 q
   ·exact hb.2 q
abbrev qea {σ:Type} (φ:σ→Prop) (f:σ→List Rs):Rs:=.any (fun h fp=>∃ s,φ s∧Star h (f s) fp)
theorem Hs.unpack {σ:Type} {φ:σ→Prop} {f:σ→List Rs} {h0 h:AH} {rs:List Rs} (S:Hs h0 h (qea φ f :: rs)):∃ s,φ s∧Hs h0 h (f s ++ rs):=by
 obtain ⟨fp,k1,k2,k3⟩:=S.sep;obtain ⟨s,hs,hst⟩:=k1 h fun _ _=>rfl;exact ⟨s,hs,S.ext,hst.sep k2 k3⟩
theorem Hs.pack {σ:Type} {φ:σ→Prop} {f:σ→List Rs} {h0 h:AH} {rs:List Rs} (s:σ) (hs:φ s) (S:Hs h0 h (f s ++ rs)):Hs h0 h (qea φ f :: rs):=by
 obtain ⟨U,k1,k2,k3⟩:=S.sep.star;exact ⟨S.ext,U,fun h' q=>⟨s,hs,k1.local q⟩,k2,k3⟩
section
variable {P:Program} {X:Extern} {sz:Nat} {L:Ks} {h h0:AH} {rs:List Rs} {ops:Array Oper} {os:List Oper} {o:Oper} {R:Ks→AH→Prop}
theorem tk {α:Type} {x hi:Operand} {ty e:TypeId} {v vh:Value} {z:Nat} {enc:α→List Value} {l:List α} {f:Rs→List Rs} {dd:List Rs} {d:Tmp} (b:Nat) (S:Hs h0 h rs) (ho:o.op = .slice ty x none (some hi) none) (hx:kA L x=some v) [i:HasS rs v α e z enc l f dd]
 (w:∀ v',Hs h0 h (f (.sl v' e z enc (l.take b)))→KO P X sz ops os (L.put d v') h R) (hg:qp ops L.tree o.guard=some true:=by exact rfl) (hhi:kA L hi=some vh:=by exact rfl) (hbo:zF (some vh) l.length=some b:=by exact rfl) (hb:b≤l.length:=by first|omega|grind)
 (hz:∀ x,(enc x).length=z:=by intro _;rfl) (hu:Jk P ty=some z:=by exact rfl) (hdst:o.dst=some d:=by exact rfl) (hds:Nat.blt d sz=true:=by exact rfl):KO P X sz ops (o :: os) L h R:=by
 obtain ⟨fp,k1,k2,-⟩:=(i.ut (.sl v e z enc l)).ok (h':=h) S.ext.next (zA3 _) S.sep
 have hue:∃ e',P.underlying ty=some (.slice e')∧zU P e'=some z:=by
  unfold Jk at hu;split at hu
  ·exact ⟨_,by assumption,hu⟩
  ·cases hu
 obtain ⟨e',hu1,hu2⟩:=hue;have hhi':zY L.tree hi=some vh:=qI hhi;have go:∀ v',jd P ty v none (some vh) none h=some v'→(∀ fq,(Rs.sl v e z enc l).ok h fq→(Rs.sl v' e z enc (l.take b)).ok h fq)→KO P X sz ops (o :: os) L h R:=fun v' q1 q2=>by
  refine zJ (v:=v') (h':=h) hg ?_ (by simp only [qJ,hdst,hds]) (w v' (S.same (i.ut _) q2));rw [ho];simp only [ja,qI hx,jM,hhi',q1,qU,jU]
 have h0b:zF none 0=some 0:=rfl;rcases k1 with ⟨rfl,rfl⟩|⟨bb,o',cc,slk,cap,g1,g2,g3,g4,g5,g6⟩
 ·obtain rfl:b=0:=by simpa using hb
  refine go (.slice none 0 0) ?_ fun fq q=>.inl ⟨rfl,by simp⟩;have:zF (some vh) 0=some 0:=hbo;simp only [jd,hu1,hu2,this,h0b]
 ·subst g1;have t1:Nat.ble 0 b=true:=by simp
  have t2:Nat.ble b cap=true:=zB3 (zD0 hb g5.1);have hlen:(l.take b).length=b:=by simp;omega
  have sub:=QE (i:=0) (m:=b*z) g4 (by rw [zG1];exact zD3 z hb);rw [List.drop_zero,← QX hz,Nat.add_zero] at sub;have key:∀ fq,(Rs.sl (.slice (some ⟨bb,o',none⟩) l.length cap) e z enc l).ok h fq→(Rs.sl (.slice (some ⟨bb,o',none⟩) (b - 0) (cap - 0)) e z enc (l.take b)).ok h fq:=fun fq q=>by
   rcases q with ⟨q1,-⟩|⟨b2,o2,cc2,sl2,cap2,q1,q2,q3,q4,q5,q6⟩
   ·cases q1
   ·cases q1
    exact .inr ⟨bb,o',cc,slk,cap,by rw [hlen,Nat.sub_zero,Nat.sub_zero],g2,q3,by rw [hlen];exact sub,⟨by rw [hlen];exact zD0 hb g5.1,g5.2⟩,g6⟩
  cases hk:(slk.isNone && Nat.beq 0 cap) with
  | false =>
   refine go (.slice (some ⟨bb,o',none⟩) (b - 0) (cap - 0)) ?_ key;simp only [jd,hu1,hu2,g2,h0b,hbo,t1,t2,hk,zF9,Nat.zero_mul,Nat.add_zero]
  | true =>
   refine go (.slice (some ⟨bb,o',none⟩) (b - 0) (cap - 0)) ?_ key;simp only [jd,hu1,hu2,g2,h0b,hbo,t1,t2,hk,zF9]
theorem bsn {ty:TypeId} {n:Nat} {ps:Array (Nat×Operand)} {vs:List (Nat×Value)} {c:List Value} {e:TypeId} {α:Type} {z:Nat} {d:Tmp} (enc:α→List Value) (l:List α) (S:Hs h0 h rs) (w:∀ u h',Hs h0 h' (.sl u e z enc l :: rs)→KO P X sz ops os (L.put d u) h' R) (ho:o.op = .buildSlice ty n ps:=by exact rfl) (hg:qp ops L.tree o.guard=some true:=by exact rfl)
 (hx:XK L ps.toList=some vs:=by exact rfl) (hv:jw P ty n vs h=some (.slice (some ⟨h.next,0,none⟩) n n,h.add (.cells c e none false)):=by exact rfl) (hl:l.length=n:=by exact rfl) (hc:c=l.flatMap enc:=by exact rfl) (hz:c.length=l.length*z:=by exact rfl) (hdst:o.dst=some d:=by exact rfl) (hds:Nat.blt d sz=true:=by exact rfl):KO P X sz ops (o :: os) L h R:=by
 subst hl;exact V7 ho hg hx hv (by simp only [qJ,hdst,hds]) (w _ _ ((S.add c e).qjw (z:=z) enc l hc hz))
end
class SubR (rs rs':List Rs):Prop where
 sub:∀ {h0 h:AH},Hs h0 h rs→Hs h0 h rs'
instance (priority:=2000) SubR.here {rs:List Rs}:SubR rs rs:=⟨id⟩
instance SubR.there {r:Rs} {rs rs':List Rs} [i:SubR rs rs']:SubR (r :: rs) rs':=⟨fun S=>i.sub S.tail⟩
theorem Hs.sub {h0 h:AH} {rs rs':List Rs} [i:SubR rs rs'] (S:Hs h0 h rs):Hs h0 h rs':=i.sub S
class DtI (rs:List Rs) (r:Rs) (rs':outParam (List Rs)):Prop where
 dt:Dt rs r rs'
instance (priority:=2000) DtI.here {r:Rs} {rs:List Rs}:DtI (r :: rs) r rs:=⟨.here⟩
instance DtI.there {r s:Rs} {rs rs':List Rs} [i:DtI rs r rs']:DtI (s :: rs) r (s :: rs'):=⟨.there i.dt⟩
class SelR (rs l:List Rs):Prop where
 sel:∀ {lo:Nat} {h:AH} {U:Fp},Sep lo h rs U→Sep lo h l U
instance (priority:=2000) SelR.here {rs:List Rs}:SelR rs rs:=⟨id⟩
instance SelR.nil {rs:List Rs}:SelR rs []:=⟨fun _=>trivial⟩
instance SelR.cons {rs rs' l:List Rs} {r:Rs} [i:DtI rs r rs'] [j:SelR rs' l]:SelR rs (r :: l):=⟨fun k=>by
 obtain ⟨fp,k1,k2,k3⟩:=i.dt.sep k;exact ⟨fp,k1,k2,j.sel k3⟩⟩
instance (priority:=500) SelR.there {rs l:List Rs} {r:Rs} [j:SelR rs l]:SelR (r :: rs) l:=⟨fun ⟨_,_,_,k⟩=>j.sel (k.mono fun _ q=>q.1)⟩
theorem Hs.pick {h0 h:AH} {rs l:List Rs} [i:SelR rs l] (S:Hs h0 h rs):Hs h0 h l:=⟨S.ext,i.sel S.sep⟩
abbrev RdS {α:Type} (h0:AH) (rs:List Rs) (v:Value) (z:Nat) (enc:α→List Value) (l:List α):Prop:=∀ h,Hs h0 h rs→zC h v z enc l
theorem RdS.base {α:Type} {h0:AH} {rs:List Rs} {v:Value} {z:Nat} {enc:α→List Value} {l:List α} (w:WfH h0) (r:zC h0 v z enc l):RdS h0 rs v z enc l:=fun h S=>r.ext w S.ext
structure Ti where
 a:List UInt8
 b:List UInt8
 k:Int
instance:Inhabited Ti:=⟨⟨[],[],0⟩⟩
def QG (t:Ti):List Value:=[str t.a,str t.b,.int .u8 t.k]
def tiV (t:Ti):Value:=.agg #[str t.a,str t.b,.int .u8 t.k]
def gat:List Gu→List UInt8→Option Nat
 | [],_=>none
 | g :: r,n=>if g.name=n then some 0 else (gat r n).map (· + 1)
structure Rl where
 us:List Gu
 ts:List Ti
instance:Inhabited Rl:=⟨⟨[],[]⟩⟩
open Classical in
noncomputable def YP (r:Rl) (g:Gu):Rl×Int :=
 if Q5 g≠0 then (r,Q5 g) else if gat r.us g.name≠none then (r,5) else if 64≤r.us.length then (r,7) else (⟨r.us ++ [g],r.ts⟩,0)
theorem qbn {r:Rl} {g:Gu} (h:Q5 g≠0):YP r g=(r,Q5 g):=by unfold YP;rw [if_pos h]
theorem qbp {r:Rl} {g:Gu} (h:Q5 g=0) (h2:gat r.us g.name≠none):YP r g=(r,5):=by unfold YP;rw [if_neg (by simpa using h),if_pos h2]
theorem qbo {r:Rl} {g:Gu} (h:Q5 g=0) (h2:gat r.us g.name=none) (h3:64≤r.us.length):YP r g=(r,7):=by unfold YP;rw [if_neg (by simpa using h),if_neg (by simpa using h2),if_pos h3]
theorem Gq {r:Rl} {g:Gu} (h:Q5 g=0) (h2:gat r.us g.name=none) (h3:¬ 64≤r.us.length):YP r g=(⟨r.us ++ [g],r.ts⟩,0):=by unfold YP;rw [if_neg (by simpa using h),if_neg (by simpa using h2),if_neg h3]
def AtOk (m:List (List UInt8×Int)) (us:List Gu):Prop:=∀ n,VK m n=(gat us n).map Int.ofNat
theorem qfR {us:List Gu} {g:Gu} (n:List UInt8):gat (us ++ [g]) n=match gat us n with|some i=>some i|none=>if g.name=n then some us.length else none:=by
 induction us with
 | nil=>simp [gat]
 | cons x r ih =>
  simp only [zC6,gat];by_cases h:x.name=n
  ·simp [h]
  ·simp only [if_neg h,ih];cases gat r n<;>simp<;>split<;>simp
theorem AtOk.app {m:List (List UInt8×Int)} {us:List Gu} {g:Gu} (a:AtOk m us) (hn:gat us g.name=none):AtOk (KG m g.name us.length) (us ++ [g]):=fun n=>by
 rw [qen,qfR];by_cases h:n=g.name
 ·subst h;simp [hn]
 ·rw [if_neg h,a n];cases gat us n with
  | none=>simp;exact fun q=>h q.symm
  | some i=>simp
def TgsOk (gs:List Z5) (h:AH) (fp:Fp):Prop:=∀ g∈gs,(Rs.rd g.tv.val 1 eS g.tg).ok h fp
abbrev tgR (gs:List Z5):Rs:=.any (TgsOk gs)
structure BkS where
 vg:SlV
 vt:SlV
 m:Nat
 mp:List (List UInt8×Int)
 gs:List Z5
abbrev bkL (b:Nat) (ts:List Ti) (s:BkS):List Rs:=[.blk b [s.vg.val,s.vt.val,.map (some s.m)] 329,.sl s.vg.val 45 9 eG s.gs,.sl s.vt.val 198 3 QG ts,.mp s.m (.int .i64) s.mp,tgR s.gs]
abbrev Xy (b:Nat) (r:Rl):Rs:=qea (fun s:BkS=>s.gs.map (·.toGu)=r.us∧AtOk s.mp r.us) (bkL b r.ts)
theorem Hs.bk {h0 h:AH} {rs0 rs:List Rs} {b:Nat} {r:Rl} (S:Hs h0 h rs0) (vg vt:SlV) (m:Nat) (mp:List (List UInt8×Int)) (gs:List Z5) (q1:gs.map (·.toGu)=r.us) (q2:AtOk mp r.us)
 [i:SelR rs0 (.blk b [vg.val,vt.val,.map (some m)] 329 :: .sl vg.val 45 9 eG gs :: .sl vt.val 198 3 QG r.ts :: .mp m (.int .i64) mp :: tgR gs :: rs)]:Hs h0 h (Xy b r :: rs) :=
 Hs.pack (s:=⟨vg,vt,m,mp,gs⟩) ⟨q1,q2⟩ (show Hs h0 h (.blk b [vg.val,vt.val,.map (some m)] 329 :: .sl vg.val 45 9 eG gs :: .sl vt.val 198 3 QG r.ts :: .mp m (.int .i64) mp :: tgR gs :: rs) from S.pick)
theorem TgsOk.rd {h:AH} {fp:Fp} {gs:List Z5} (k:TgsOk gs h fp) {i:Nat} (hi:i<gs.length):zC h (gs.getD i default).tv.val 1 eS (gs.getD i default).tg:=by
 have q:=k _ (List.getElem_mem hi);rw [show gs.getD i default=gs[i] by rw [zA2,zA4 hi];rfl];rcases q with ⟨q1,q2⟩|⟨b,o,cap,cc,e,s,r,q1,q2,q3,q4⟩
 ·exact .inl ⟨q1,by rw [q2];rfl,by rw [q2];rfl⟩
 ·exact .inr ⟨b,o,cap,cc,e,s,r,q1,q2,q4⟩
theorem qbI {α:Type} {v:Value} {z:Nat} {enc:α→List Value} {l:List α} {h:AH} {fp fp':Fp} (k:(Rs.rd v z enc l).ok h fp) (hf:∀ b,fp b→fp' b):(Rs.rd v z enc l).ok h fp':=by
 rcases k with k|⟨b,o,cap,cc,e,s,r,q1,q2,q3,q4⟩
 ·exact .inl k
 ·exact .inr ⟨b,o,cap,cc,e,s,r,q1,q2,hf b q3,q4⟩
theorem qip {α:Type} {v:Value} {e:TypeId} {z:Nat} {enc:α→List Value} {l:List α} {h:AH} {fp:Fp} (k:(Rs.sl v e z enc l).ok h fp):(Rs.rd v z enc l).ok h fp:=by
 rcases k with k|⟨b,o,cc,slk,cap,h1,h2,h3,h4,-⟩
 ·exact .inl k
 ·exact .inr ⟨b,o,_,cc,e,slk,false,h1,h2,h3,h4⟩
theorem Hs.qim {h0 h:AH} {rs:List Rs} {gs:List Z5} {g:Z5} {e:TypeId} (S:Hs h0 h (.sl g.tv.val e 1 eS g.tg :: tgR gs :: rs)):Hs h0 h (tgR (gs ++ [g]) :: rs):=by
 obtain ⟨f1,k1,k2,f2,k3,k4,k5⟩:=S.sep;refine ⟨S.ext,fun b=>f1 b∨f2 b,fun h' q g' hg=>?_,fun b hb=>?_,k5.mono fun b hb=>⟨trivial,fun q=>?_⟩⟩
 ·rcases zB8.1 hg with hg|hg
  ·exact qbI (k3 h' (fun b hb=>q b (.inr hb)) g' hg) fun b hb=>.inr hb
  ·obtain rfl:=zB5.1 hg;exact qbI (qip (k1.local fun b hb=>q b (.inl hb))) fun b hb=>.inl hb
 ·rcases hb with hb|hb
  ·exact k2 b hb
  ·exact ⟨(k4 b hb).1,(k4 b hb).2.1,trivial⟩
 ·rcases q with q|q
  ·exact hb.1.2 q
  ·exact hb.2 q
theorem qb8 {g:Gu} (h:Q5 g=0):XX g∧(0≤g.since∧g.since≤9999)∧(0≤g.side∧g.side≤2)∧g.tg.length≤4∧qgl g.tg:=by
 unfold Q5 at h;split at h
 ·cases h
 ·split at h
  ·cases h
  ·split at h
   ·cases h
   ·split at h
    ·cases h
    ·rename_i a b c d
     exact ⟨zF3.1 a,zF3.1 b,zF3.1 c,(zF3.1 d).1,(zF3.1 d).2⟩
variable [Flag]
theorem qaj {h0:AH} (w:WfH h0) {b m:Nat} {vg vt:Value} (hb:h0.get b=some (.cells [vg,vt,.map (some m)] 329 none false)):Fn Tryz.prog Xh 359 [.pointer (some ⟨b,0,none⟩)] h0 (fun v h'=>v = .bool false∧Hs h0 h' []):=by
 have S:=Hs.start w;refine qL (by first|rfl) Tryz.func359 rfl rfl ?_;all_goals (repeat' (first|refine qg ?_|(refine qc 0 ?_;refine mv ?_;refine qf ?_)|(refine qc 1 ?_;refine mv ?_;refine vl ?_;refine mv ?_;refine mv ?_;refine vl ?_;(first|(refine vl ?_));(first|(refine lH S ?_));refine vl ?_;refine vl ?_;refine mv ?_;refine qf ?_)))
 refine qo ⟨_,rfl,?_⟩;exact ⟨rfl,S⟩
theorem qde {h0:AH} (w:WfH h0) (v:Value) (a:List (List UInt8)) (r:zC h0 v 1 eS a) (hl:a.length≤1000000):Fn Tryz.prog Xh 372 [v] h0 (fun u h'=>Hs h0 h' [.sl u 9 1 eS a]):=by
 have S:=Hs.start w;have r0:=r;rcases r with ⟨rfl,h1,-⟩|⟨b,o,cap,cc,e,s,q,rfl,h1,h2⟩
 ·obtain rfl:a=[]:=zE8.1 h1;refine qL (by first|rfl) Tryz.func372 rfl rfl ?_;all_goals (repeat' (first|refine qg ?_|refine qh rfl ?_|(refine qc 0 ?_;refine mv ?_;refine qf ?_)|(refine qc 1 ?_;refine mv ?_;refine vl ?_;refine qf ?_)|(refine qc 2 ?_;refine mv ?_;refine qf ?_)))
  refine qo ⟨_,rfl,?_⟩;exact S.Xg
 ·refine qL (by first|rfl) Tryz.func372 rfl rfl ?_;all_goals (repeat' (first|refine qg ?_|refine qh rfl ?_|refine qi ?_|(refine qc 0 ?_;refine mv ?_;refine qf ?_)|(refine qc 1 ?_;refine mv ?_;refine vl ?_;refine qf ?_)|(refine qc 3 ?_;skip)))
  refine nw 1 eS S ?_;clear S;intro u h S;(refine mv ?_);refine apd S rfl rfl (r0.ext w S.ext) ?_;clear S;intro v' h S;(refine mv ?_;refine qf ?_);all_goals (repeat' (fail))
  refine qo ⟨_,rfl,?_⟩;exact S
theorem qdd {h0:AH} (w:WfH h0) (g:Z5) (r:zC h0 g.tv.val 1 eS g.tg) (hl:g.tg.length≤1000000):Fn Tryz.prog Xh 361 [gV g] h0 (fun v h'=>∃ tv:SlV,v=gV { g with tv:=tv }∧Hs h0 h' [.sl tv.val 9 1 eS g.tg]):=by
 have S:=Hs.start w;unfold gV;refine qL (by first|rfl) Tryz.func361 rfl rfl ?_;all_goals (repeat' (first|refine qg ?_|(refine qc 0 ?_;(refine bx S ?_;clear S;intro b h S);(refine al S ?_;clear S;intro b h S);refine qf ?_)|(refine qc 1 ?_;refine vl ?_;refine lB S rfl rfl ?_)))
 (refine qw rfl rfl rfl rfl rfl ((qde S.wf g.tv.val g.tg (r.ext w S.ext) hl).mono ?_);rintro v h x)<;>(replace S:=S.jm x;clear x;obtain ⟨tv,rfl⟩:=S.qjZ.sV v;refine vl ?_;(first|(refine sB S rfl rfl ?_;clear S;intro h S));refine qf ?_)
 all_goals (repeat' (first|refine qg ?_|(refine qc 2 ?_;refine lB S rfl rfl ?_;(first|(refine sB S rfl rfl ?_;clear S;intro h S));refine qf ?_)))
 refine qo ⟨_,JI S rfl (by first|exact .there .here) (by exact rfl) (by exact rfl),?_⟩;exact ⟨tv,rfl,S.only .here⟩
theorem qhk {h0:AH} (w:WfH h0):Fn Tryz.prog Xh 340 [] h0 (fun v h'=>∃ b,v = .pointer (some ⟨b,0,none⟩)∧Hs h0 h' [Xy b ⟨[],[]⟩]):=by
 have S:=Hs.start w;refine qL (by first|rfl) Tryz.func340 rfl rfl ?_;all_goals (repeat' (first|refine qg ?_|(refine qc 0 ?_;refine mv ?_;refine qf ?_)))
 refine qc 1 ?_;refine mkm (α:=Int) (.int .i64) S ?_;clear S;intro m h S;(refine vl ?_;(refine bx S ?_;clear S;intro b h S);refine mv ?_;refine qf ?_);all_goals (repeat' (fail))
 refine qo ⟨_,rfl,?_⟩;refine ⟨_,rfl,?_⟩;have S:=((S.Xg (e:=45) (z:=9) (enc:=eG)).Xg (e:=198) (z:=3) (enc:=QG)).anyS (p:=TgsOk []) fun h' g hg=>by cases hg
 replace S:Hs h0 _ [tgR [],.sl (SlV.val ⟨none,0,0⟩) 198 3 QG [],.sl (SlV.val ⟨none,0,0⟩) 45 9 eG [],.blk b [SlV.val ⟨none,0,0⟩,SlV.val ⟨none,0,0⟩,.map (some m)] 329,.mp m (.int .i64) []]:=S;exact S.bk (r:=⟨[],[]⟩) ⟨none,0,0⟩ ⟨none,0,0⟩ m [] [] rfl fun n=>rfl
theorem qhN {h0 h:AH} {rs:List Rs} {p:Nat} {r:Rl} (S:Hs h0 h (Xy p r :: rs)) (g:Z5) (hr:RdS h0 rs g.tv.val 1 eS g.tg) (hl:g.tg.length≤9223372036854775807) (hu:r.us.length≤64) :
 Fn Tryz.prog Xh 341 [.pointer (some ⟨p,0,none⟩),gV g] h (fun v h'=>v = .int .i64 (YP r g.toGu).2∧Hs h0 h' (Xy p (YP r g.toGu).1 :: rs)):=by
 obtain ⟨⟨vg,vt,m,mp,gs⟩,⟨q1,q2⟩,S⟩:=S.unpack;have e1:gs.length=r.us.length:=by rw [← q1];simp
 dsimp only [bkL,List.cons_append,List.nil_append] at q1 q2 S;unfold gV;refine qL (by first|rfl) Tryz.func341 rfl rfl ?_;all_goals (repeat' (first|refine qg ?_|(refine qc 0 ?_;(refine bx S ?_;clear S;intro b h S);refine mv ?_;refine qf ?_)|(refine qc 1 ?_;refine mv ?_)))
 (refine qw rfl rfl rfl rfl rfl ((qaj S.wf (Vr S (.there .here))).mono ?_);rintro _ h ⟨rfl,x⟩)<;>(replace S:=S.qE x;clear x;refine qf ?_)
 all_goals (repeat' (first|refine qg ?_|refine qh rfl ?_|refine qi ?_|(refine qc 3 ?_;refine lB S rfl rfl ?_)))
 (refine qw rfl rfl rfl rfl rfl ((qeY S.wf g ⟨hr _ S.sub,hl⟩).mono ?_);rintro _ h ⟨rfl,x⟩)<;>(replace S:=S.qE x;clear x;refine mv ?_;refine qf ?_)
 all_goals (repeat' (first|refine qg ?_|refine qh rfl ?_|refine qi ?_|(refine qc 4 ?_;refine mv ?_;(first|(refine cS ?_ ?_<;>intro hc))<;>(refine qf ?_))|(refine qc 5 ?_;refine mv ?_;refine mv ?_;refine qf ?_)|(refine qM 6 ?_;refine mv ?_;refine vl ?_;refine vl ?_;refine lB S rfl rfl ?_;refine vl ?_;refine lB S rfl rfl ?_)))
 ·refine qo ⟨_,rfl,?_⟩;rw [qbn hc];exact ⟨rfl,S.bk vg vt m mp gs q1 q2⟩
 ·have hc0:Q5 g.toGu=0:=by simpa using hc
  replace S:Hs h0 h (.blk b (eG g) 45 :: .blk p [vg.val,vt.val,.map (some m)] 329 :: .sl vg.val 45 9 eG gs :: .sl vt.val 198 3 QG r.ts :: .mp m (.int .i64) mp :: tgR gs :: rs):=S;refine lk S (.there (.there (.there (.there .here)))) (fun i hi=>?_) (fun hi=>?_)
  ·simp only [okV];(refine mv ?_;refine vl ?_;refine vl ?_;refine mv ?_;refine mv ?_;refine qf ?_);all_goals (repeat' (first|refine qg ?_|refine qh rfl ?_|(refine qc 7 ?_;refine mv ?_;refine qf ?_)|(refine qc 8 ?_;refine mv ?_;refine qf ?_)))
   refine qo ⟨_,rfl,?_⟩;rw [qbp hc0 (by rw [q2] at hi;intro q;rw [q] at hi;cases hi)];exact ⟨rfl,S.bk vg vt m mp gs q1 q2⟩
  ·simp only [okV];(refine mv ?_;refine vl ?_;refine vl ?_;refine mv ?_;refine mv ?_;refine qf ?_);all_goals (repeat' (first|refine qg ?_|refine qh rfl ?_|refine qi ?_|(refine qc 7 ?_;refine mv ?_;refine qf ?_)|(refine qc 9 ?_;refine mv ?_;refine vl ?_;refine vl ?_;refine vl ?_;refine lB S rfl rfl ?_;refine xe S rfl rfl ?_;(first|(refine cS ?_ ?_<;>intro hc))<;>(refine qf ?_))|(refine qc 10 ?_;refine mv ?_;refine qf ?_)|(refine qM 11 ?_;refine mv ?_;refine vl ?_;refine vl ?_;refine lB S rfl rfl ?_;refine vl ?_;refine lB S rfl rfl ?_;refine mv ?_;refine vl ?_;refine vl ?_;refine vl ?_;refine lB S rfl rfl ?_;refine xe S rfl rfl ?_)))
   ·refine qo ⟨_,rfl,?_⟩;rw [qbo hc0 (by rw [q2] at hi;cases hq:gat r.us g.name with|none=>rfl|some i=>rw [hq] at hi;cases hi) (by omega)];exact ⟨rfl,S.bk vg vt m mp gs q1 q2⟩
   ·have hn:gat r.us g.name=none:=by rw [q2] at hi;cases hq:gat r.us g.name with|none=>rfl|some i=>rw [hq] at hi;cases hi
    have hn64:¬ 64≤r.us.length:=by omega
    refine up (x:=(gs.length:Int)) (key:=g.name) S (.there (.there (.there (.there .here)))) (.there (.there (.there (.there .here)))) (fun h S=>?_) (.inl rfl);(refine qf ?_);have ht4:=(qb8 hc0).2.2.2.1;(repeat (refine qg ?_));refine ZJ (id:=12) [(5,(0,2))] [some (p)] ?_;refine qy ?_;(first|(refine mv ?_<;>refine qf ⟨⟨by (first|exact True.intro),rfl⟩,?_⟩));refine qy ?_;(first|(refine mv ?_<;>refine qf ⟨⟨by (first|exact True.intro),rfl⟩,?_⟩));refine qy ?_;(first|(refine vl ?_<;>refine qf ⟨⟨by (first|exact True.intro),rfl⟩,?_⟩));refine qy ?_;(first|(refine vl ?_<;>refine qf ⟨⟨by (first|exact True.intro),rfl⟩,?_⟩));refine qy ?_;(first|(refine vl ?_<;>refine qf ⟨⟨by (first|exact True.intro),rfl⟩,?_⟩));refine qy ?_;(first|(refine lB S rfl rfl ?_<;>refine qf ⟨⟨by (first|exact Or.inr rfl),rfl⟩,?_⟩));refine qy ?_;(first|(refine lB S rfl rfl ?_<;>refine qf ⟨⟨by (first|exact True.intro),rfl⟩,?_⟩));((refine qy ?_;first|refine qw rfl rfl rfl rfl rfl ((qdd S.wf g (hr _ S.sub) (by omega)).mono ?_));rintro _ h ⟨tv,rfl,x⟩)<;>((refine qf ⟨⟨True.intro,?_⟩,?_⟩;(focus ((show keepsX _ _ _ _ _;simp only [keepsX];(repeat' (first|exact True.intro|refine And.intro ?_ ?_));all_goals (intro hw;first|exact x.ext.old _ S.bB)))));replace S:=S.jm x;clear x;refine qy ?_;(first|((refine one 9 S ?_;have S0:=S;clear S;intro u h S);refine qf ⟨⟨True.intro,?_⟩,?_⟩;(focus ((show keepsX _ _ _ _ _;simp only [keepsX];(repeat' (first|exact True.intro|refine And.intro ?_ ?_));all_goals (intro hw;first|exact (S.gB).trans (S0.gB).symm))));clear S0)))
    refine qy ?_;refine app (y0:={ g with tv:=tv }) S rfl rfl ?_;have S0:=S;clear S;intro v h S;obtain ⟨vg',rfl⟩:=S.sV v;refine qf ⟨⟨True.intro,?_⟩,?_⟩;(focus ((show keepsX _ _ _ _ _;simp only [keepsX];(repeat' (first|exact True.intro|refine And.intro ?_ ?_));all_goals (intro hw;first|exact absurd hw (by decide +kernel)))));clear S0;(refine qy ?_;(first|(refine vl ?_<;>refine qf ⟨⟨by (first|exact True.intro),rfl⟩,?_⟩));refine qy ?_;(first|(refine vl ?_<;>refine qf ⟨⟨by (first|exact True.intro),rfl⟩,?_⟩));refine qy ?_;(first|(refine vl ?_<;>refine qf ⟨⟨by (first|exact True.intro),rfl⟩,?_⟩));refine qy ?_;(first|((refine sB S rfl rfl ?_;have S0:=S;clear S;intro h S);refine qf ⟨⟨True.intro,?_⟩,?_⟩;(focus ((show keepsX _ _ _ _ _;simp only [keepsX];(repeat' (first|exact True.intro|refine And.intro ?_ ?_));all_goals (intro hw;first|exact absurd hw (by decide +kernel)))));clear S0));refine Xq ?_);all_goals (repeat' (first|refine qg ?_|(refine qc 13 ?_;refine mv ?_;refine qf ?_)))
    refine qo ⟨_,rfl,?_⟩;rw [Gq hc0 hn hn64];replace S:Hs h0 h (.sl vg'.val 45 9 eG (gs ++ [{ g with tv:=tv }]) :: .sl tv.val 9 1 eS g.tg :: .blk b (eG g) 45 :: .blk p [vg'.val,vt.val,.map (some m)] 329 :: .sl vt.val 198 3 QG r.ts :: .mp m (.int .i64) (KG mp g.name gs.length) :: tgR gs :: rs):=S;have S:=(show Hs h0 h (.sl tv.val 9 1 eS g.tg :: tgR gs :: .sl vg'.val 45 9 eG (gs ++ [{ g with tv:=tv }]) :: .blk p [vg'.val,vt.val,.map (some m)] 329 :: .sl vt.val 198 3 QG r.ts :: .mp m (.int .i64) (KG mp g.name gs.length) :: rs) from S.pick)
    have S:=Hs.qim (g:={ g with tv:=tv }) S;refine ⟨rfl,S.bk vg' vt m (KG mp g.name gs.length) (gs ++ [{ g with tv:=tv }]) (by simp [q1]) ?_⟩;rw [e1];exact q2.app hn
end Go.Proofs.Xx
namespace Go.Proofs.Xx
open Go Go.Proofs
theorem qkg (a b:List UInt8):(Lib.compareBytes a b<0↔jE a b)∧(Lib.compareBytes a b=0↔a=b):=by
 induction a generalizing b with
 | nil =>
  cases b with
  | nil=>exact ⟨⟨fun h=>by simp [Lib.compareBytes] at h,fun h=>absurd h (Y4 _)⟩,by simp [Lib.compareBytes]⟩
  | cons y b=>exact ⟨⟨fun _=>W9 _ _,fun _=>by simp [Lib.compareBytes]⟩,by simp [Lib.compareBytes]⟩
 | cons x a ih =>
  cases b with
  | nil=>exact ⟨⟨fun h=>by simp [Lib.compareBytes] at h,fun h=>absurd h (Y4 _)⟩,by simp [Lib.compareBytes]⟩
  | cons y b =>
   obtain ⟨i1,i2⟩:=ih b;have hc:Lib.compareBytes (x :: a) (y :: b)=if x<y then -1 else if y<x then 1 else Lib.compareBytes a b:=rfl
   rw [ZQ,hc];by_cases h1:x<y
   ·rw [if_pos h1];refine ⟨⟨fun _=>.inl h1,fun _=>by omega⟩,fun q=>by omega,fun q=>?_⟩;injection q with q _;subst q;exact absurd h1 (UInt8.lt_irrefl _)
   ·rw [if_neg h1];by_cases h2:y<x
    ·rw [if_pos h2];refine ⟨⟨fun q=>by omega,fun q=>?_⟩,fun q=>by omega,fun q=>?_⟩
     ·rcases q with q|⟨rfl,-⟩
      ·exact absurd q h1
      ·exact absurd h2 (UInt8.lt_irrefl _)
     ·injection q with q _;subst q;exact absurd h2 (UInt8.lt_irrefl _)
    ·rw [if_neg h2];have e:x=y:=UInt8.le_antisymm (UInt8.not_lt.1 h2) (UInt8.not_lt.1 h1);subst e;refine ⟨⟨fun q=>.inr ⟨rfl,i1.1 q⟩,fun q=>?_⟩,⟨fun q=>by rw [i2.1 q],fun q=>i2.2 (by injection q)⟩⟩;rcases q with q|q
     ·exact absurd q h1
     ·exact i1.2 q.2
def Z7 (x y:Ti):Prop:=jE x.a y.a∨(x.a=y.a∧jE x.b y.b)
theorem qcc (x:Ti):¬ Z7 x x:=fun h=>by rcases h with h|h;exact zL _ h;exact zL _ h.2
theorem ZN {x y z:Ti} (h1:Z7 x y) (h2:Z7 y z):Z7 x z:=by
 rcases h1 with h1|⟨e1,h1⟩
 ·rcases h2 with h2|⟨e2,h2⟩
  ·exact .inl (je h1 h2)
  ·exact .inl (e2 ▸ h1)
 ·rcases h2 with h2|⟨e2,h2⟩
  ·exact .inl (e1 ▸ h2)
  ·exact .inr ⟨e1.trans e2,je h1 h2⟩
theorem Gn (x y:Ti):Z7 x y∨(x.a=y.a∧x.b=y.b)∨Z7 y x:=by
 rcases Zd x.a y.a with h|h|h
 ·exact .inl (.inl h)
 ·rcases Zd x.b y.b with g|g|g
  ·exact .inl (.inr ⟨h,g⟩)
  ·exact .inr (.inl ⟨h,g⟩)
  ·exact .inr (.inr (.inr ⟨h.symm,g⟩))
 ·exact .inr (.inr (.inl h))
def TS (ts:List Ti):Prop:=ts.Pairwise Z7
theorem TS.lt {ts:List Ti} (h:TS ts) {i j:Nat} (hij:i<j) (hj:j<ts.length):Z7 (ts.getD i default) (ts.getD j default):=by
 have:=zD2.1 h i j (by omega) hj hij;rw [zA2,zA2,zA4 hj,zA4 (show i<ts.length by omega)];exact this
def Plc (l:List Ti) (y:Ti) (i:Nat):Prop:=i≤l.length∧(∀ j,j<i→Z7 (l.getD j default) y)∧∀ j,i≤j→j<l.length→¬ Z7 (l.getD j default) y
variable [Flag]
theorem qf4 {h:AH} (a b:List UInt8):Fn Tryz.prog Xh 373 [str a,str b] h (fun v h'=>(∃ c,v = .int .i64 c∧(c<0↔jE a b)∧(c=0↔a=b))∧h'=h):=by
 refine qL (by first|rfl) Tryz.func373 rfl rfl ?_;all_goals (repeat' (first|refine qg ?_|(refine qc 0 ?_;refine mv ?_;refine qf ?_)|(refine qc 1 ?_;refine mv ?_;refine mv ?_)))
 (refine qw rfl rfl rfl rfl rfl (((JW (R:=fun v h'=>v = .int .i64 (Lib.compareBytes a b)∧h'=h) rfl ⟨rfl,rfl⟩)).mono ?_);rintro _ _ ⟨rfl,rfl⟩)<;>(refine mv ?_;refine qf ?_)
 all_goals (repeat' (fail))
 refine qo ⟨_,rfl,?_⟩;exact ⟨⟨_,rfl,qkg a b⟩,rfl⟩
theorem qeS {h:AH} (a b:List UInt8):Fn Tryz.prog Xh 362 [str a,str b] h (fun v h'=>(∃ c,v = .int .i64 c∧(c<0↔jE a b)∧(c=0↔a=b))∧h'=h):=by
 refine qL (by first|rfl) Tryz.func362 rfl rfl ?_;all_goals (repeat' (first|refine qg ?_|(refine qc 0 ?_;refine mv ?_;refine qf ?_)|(refine qc 1 ?_;refine mv ?_;refine mv ?_)))
 (refine qw rfl rfl rfl rfl rfl ((qf4 a b).mono ?_);rintro _ _ ⟨⟨c,rfl,q⟩,rfl⟩)<;>(refine mv ?_;refine qf ?_)
 all_goals (repeat' (fail))
 refine qo ⟨_,rfl,?_⟩;exact ⟨⟨c,rfl,q⟩,rfl⟩
theorem x9 {h0:AH} (w:WfH h0) (x y:Ti):Fn Tryz.prog Xh 342 [tiV x,tiV y] h0 (fun v h'=>(∃ c,v = .int .i64 c∧(c<0↔Z7 x y)∧(c=0↔x.a=y.a∧x.b=y.b))∧Hs h0 h' []):=by
 have S:=Hs.start w;unfold tiV;refine qL (by first|rfl) Tryz.func342 rfl rfl ?_;all_goals (repeat' (first|refine qg ?_|(refine qc 0 ?_;(refine bx S ?_;clear S;intro b h S);(refine bx S ?_;clear S;intro b h S);refine mv ?_;refine qf ?_)|(refine qc 1 ?_;refine vl ?_;refine lB S rfl rfl ?_;refine vl ?_;refine lB S rfl rfl ?_)))
 (refine qw rfl rfl rfl rfl rfl ((qeS x.a y.a).mono ?_);rintro _ _ ⟨⟨c,rfl,q1,q2⟩,rfl⟩)<;>(refine mv ?_;refine qf ?_)
 all_goals (repeat' (first|refine qg ?_|refine qh rfl ?_|refine qi ?_|(refine qc 2 ?_;refine mv ?_;(first|(refine cS ?_ ?_<;>intro hc))<;>(refine qf ?_))|(refine qc 3 ?_;refine mv ?_;refine mv ?_;refine qf ?_)|(refine qc 4 ?_;refine vl ?_;refine lB S rfl rfl ?_;refine vl ?_;refine lB S rfl rfl ?_)))
 ·refine qo ⟨_,rfl,?_⟩;refine ⟨⟨c,rfl,?_,?_⟩,S.drop⟩
  ·unfold Z7;rw [q1];exact ⟨.inl,fun h=>h.elim id fun h=>absurd (q2.2 h.1) hc⟩
  ·exact ⟨fun h=>absurd h hc,fun h=>q2.2 h.1⟩
 ·(refine qw rfl rfl rfl rfl rfl ((qeS x.b y.b).mono ?_);rintro _ _ ⟨⟨d,rfl,q3,q4⟩,rfl⟩)<;>(refine mv ?_;refine qf ?_)
  all_goals (repeat' (fail))
  refine qo ⟨_,rfl,?_⟩;have e:=q2.1 (by omega);refine ⟨⟨d,rfl,?_,?_⟩,S.drop⟩
  ·unfold Z7;rw [q3];exact ⟨fun h=>.inr ⟨e,h⟩,fun h=>h.elim (fun h=>absurd (e ▸ h) (zL _)) (·.2)⟩
  ·rw [q4];exact ⟨fun h=>⟨e,h⟩,(·.2)⟩
theorem qbM {h0:AH} (w:WfH h0) (a b:List UInt8) (k:Int):Fn Tryz.prog Xh 365 [str a,str b,.int .u8 k] h0 (fun v h'=>v=tiV ⟨VA a b,VB a b,k⟩∧Hs h0 h' []):=by
 have S:=Hs.start w;refine qL (by first|rfl) Tryz.func365 rfl rfl ?_;all_goals (repeat' (first|refine qg ?_|(refine qc 0 ?_;(refine al S ?_;clear S;intro b h S);refine qf ?_)|(refine qc 1 ?_;refine mv ?_;refine mv ?_;refine mnS ?_;refine mv ?_;refine mv ?_;refine mxS ?_;refine mv ?_;refine vl ?_;(first|(refine sB S rfl rfl ?_;clear S;intro h S));refine qf ?_)))
 refine qo ⟨_,JI S rfl (by first|exact .here) (by exact rfl) (by exact rfl),?_⟩;exact ⟨rfl,S.drop⟩
theorem qbj {h0:AH} (w:WfH h0) {v:Value} {l:List Ti} (hr:zC h0 v 3 QG l) (hl:l.length≤1000000) (hs:TS l) (y:Ti) :
 Fn Tryz.prog Xh 374 [v,tiV y,.func (.func 342) #[] #[]] h0 (fun u h'=>(∃ (i:Nat) (f:Bool),u = .tuple #[.int .i64 i,.bool f]∧Plc l y i∧(f=true↔i<l.length∧(l.getD i default).a=y.a∧(l.getD i default).b=y.b))∧Hs h0 h' []):=by
 have S:=Hs.start w;unfold tiV;refine qL (by first|rfl) Tryz.func374 rfl rfl ?_;all_goals (repeat' (first|refine qg ?_|refine qj ?_|(refine qc 0 ?_;(refine bx S ?_;clear S;intro b h S);refine mv ?_;refine mv ?_;refine qf ?_)|(refine qc 1 ?_;refine mv ?_;refine jf S ?_;refine mv ?_;refine qf ?_)|(refine qc 2 ?_;(iterate 3 refine mv ?_);refine qf ?_)))
 replace S:Hs h0 h [.blk b (QG y) 198]:=S;refine qH (σ:=Nat×Nat) (fun (lo,hi) h'=>Hs h0 h' [.blk b (QG y) 198]∧lo≤hi∧hi≤l.length∧(∀ j,j<lo→Z7 (l.getD j default) y)∧(∀ j,hi≤j→j<l.length→¬ Z7 (l.getD j default) y)) (fun (lo,hi)=>hi - lo) (fun (lo,hi)=>[(0,v),(2,.func (.func 342) #[] #[]),(4,.pointer (some ⟨b,0,none⟩)),(8,.int .i64 l.length),(9,.int .i64 lo),(10,.int .i64 hi)]) (0,l.length) qx ?_ ?_
 ·exact ⟨S,zB0 _,zA3 _,fun j hj=>absurd hj (zB7 _),fun j h1 h2=>absurd h2 (by omega)⟩
 clear S;rintro ⟨lo,hi⟩ h ⟨S,g1,g2,g3,g4⟩;all_goals (repeat' (first|refine qg ?_|refine qh rfl ?_|refine qi ?_|refine qC ?_|refine qj ?_|(refine qc 3 ?_;refine mv ?_;refine mv ?_;(first|(refine cS ?_ ?_<;>intro hc))<;>(refine qf ?_))|(refine qc 4 ?_;refine mv ?_;refine mv ?_;refine ad ?_;refine cW ?_;refine sR1 ?_;refine cI ?_;refine mv ?_;refine qf ?_)|(refine qM 5 ?_;(iterate 3 refine mv ?_);refine jF S ?_;refine jk S ?_;refine lB S rfl rfl ?_)|(refine qM 8 ?_;(iterate 3 refine mv ?_);(first|(refine cS ?_ ?_<;>intro hc))<;>(refine mv ?_;(first|refine off ?_|refine mv ?_);(first|refine off ?_|refine mv ?_);(first|refine off ?_|refine mv ?_);(first|refine off ?_|(refine jF S ?_));(first|refine off ?_|(refine jk S ?_));(first|refine off ?_|(refine lB S rfl rfl ?_));(first|(refine off ?_;(refine off ?_)<;>(refine vl ?_;refine mv ?_;refine mv ?_;refine qf ?_))|skip)))))
 ·obtain ⟨mid,hm,hm2,hm3⟩:∃ mid:Nat,((lo:Int)+hi) / 2=mid∧lo≤mid∧mid<hi:=⟨(lo+hi) / 2,by omega,by omega,by omega⟩
  simp only [hm,zA0];(refine zK rfl rfl rfl rfl ((x9 S.wf (l.getD mid default) y).mono ?_);rintro _ h ⟨⟨c,rfl,e1,e2⟩,x⟩)<;>(replace S:=S.qE x;clear x;(first|(refine cS ?_ ?_<;>intro hc))<;>(refine qf ?_))
  all_goals (repeat' (first|refine qh rfl ?_|(refine qc 6 ?_;refine mv ?_;refine ad ?_;refine mv ?_;refine qf ?_)|(refine qc 7 ?_;refine mv ?_;refine mv ?_;refine qf ?_)))
  ·refine ⟨(mid+1,hi),?_,?_,qx⟩
   ·show hi - (mid+1)<hi - lo;omega
   ·refine ⟨S,by omega,g2,fun j hj=>?_,g4⟩;rcases zA7 j mid with q|q
    ·exact ZN (hs.lt q (by omega)) (e1.1 hc)
    ·obtain rfl:j=mid:=by omega
     exact e1.1 hc
  ·refine ⟨(lo,mid),?_,?_,qx⟩
   ·show mid - lo<hi - lo;omega
   ·refine ⟨S,hm2,by omega,g3,fun j h1 h2 q=>?_⟩;rcases zA7 mid j with q2|q2
    ·exact hc (e1.2 (ZN (hs.lt q2 h2) q))
    ·obtain rfl:j=mid:=by omega
     exact hc (e1.2 q)
 ·obtain rfl:hi=lo:=by omega
  simp only [zA0];(refine zK rfl rfl rfl rfl ((x9 S.wf (l.getD hi default) y).mono ?_);rintro _ h ⟨⟨c,rfl,e1,e2⟩,x⟩)<;>(replace S:=S.qE x;clear x;(first|(first|(refine cS ?_ ?_<;>intro hc)))<;>(refine vl ?_;refine mv ?_;refine mv ?_;refine qf ?_))
  all_goals (all_goals (repeat' (fail)))
  all_goals (refine qo ⟨_,rfl,?_⟩)
  ·exact ⟨⟨hi,true,rfl,⟨g2,g3,g4⟩,fun _=>⟨by omega,e2.1 hc⟩,fun _=>rfl⟩,S.drop⟩
  ·exact ⟨⟨hi,false,rfl,⟨g2,g3,g4⟩,fun q=>(by cases q),fun q=>absurd (e2.2 q.2) hc⟩,S.drop⟩
 ·obtain rfl:hi=lo:=by omega
  all_goals (repeat' (fail))
  refine qo ⟨_,rfl,?_⟩;exact ⟨⟨hi,false,rfl,⟨g2,g3,g4⟩,fun q=>(by cases q),fun q=>absurd q.1 (by omega)⟩,S.drop⟩
theorem qd7 {h0:AH} (w:WfH h0) {p m:Nat} {vg vt:Value} {ts:List Ti} (hb:h0.get p=some (.cells [vg,vt,.map (some m)] 329 none false)) (hr:zC h0 vt 3 QG ts) (hl:ts.length≤1000000) (hs:TS ts) (a b:List UInt8) :
 Fn Tryz.prog Xh 363 [.pointer (some ⟨p,0,none⟩),str a,str b] h0 (fun u h'=>(∃ (i:Nat) (f:Bool),u = .tuple #[.int .i64 i,.bool f]∧Plc ts ⟨VA a b,VB a b,0⟩ i∧(f=true↔i<ts.length∧(ts.getD i default).a=VA a b∧(ts.getD i default).b=VB a b))∧Hs h0 h' []):=by
 have S:=Hs.start w;refine qL (by first|rfl) Tryz.func363 rfl rfl ?_;all_goals (repeat' (first|refine qg ?_|(refine qc 0 ?_;refine mv ?_;refine mv ?_;refine qf ?_)))
 (repeat (refine qg ?_));refine ZJ (id:=1) [(4,(0,1))] [some (p)] ?_;refine qy ?_;(first|(refine mv ?_<;>refine qf ⟨⟨by (first|exact True.intro),rfl⟩,?_⟩));refine qy ?_;(first|(refine vl ?_<;>refine qf ⟨⟨by (first|exact True.intro),rfl⟩,?_⟩));refine qy ?_;(first|(refine vl ?_<;>refine qf ⟨⟨by (first|exact True.intro),rfl⟩,?_⟩));refine qy ?_;(first|(refine vl ?_<;>refine qf ⟨⟨by (first|exact True.intro),rfl⟩,?_⟩));refine qy ?_;(first|(refine lH S ?_<;>refine qf ⟨⟨by (first|exact Or.inr rfl),rfl⟩,?_⟩));refine qy ?_;(first|(refine mv ?_<;>refine qf ⟨⟨by (first|exact True.intro),rfl⟩,?_⟩));refine qy ?_;(first|(refine mv ?_<;>refine qf ⟨⟨by (first|exact True.intro),rfl⟩,?_⟩));((refine qy ?_;first|refine qw rfl rfl rfl rfl rfl ((qbM S.wf a b 0).mono ?_));rintro _ h ⟨rfl,x⟩)<;>((refine qf ⟨⟨True.intro,?_⟩,?_⟩;(focus ((show keepsX _ _ _ _ _;simp only [keepsX];(repeat' (first|exact True.intro|refine And.intro ?_ ?_));all_goals (intro hw;first|exact x.ext.old _ (S.bY (by assumption) (by assumption)))))));replace S:=S.qE x;clear x)
 ((refine qy ?_;first|refine qw rfl rfl rfl rfl rfl ((qbj S.wf (hr.ext w S.ext) hl hs ⟨VA a b,VB a b,0⟩).mono ?_));rintro _ h ⟨⟨i,f,rfl,q1,q2⟩,x⟩)<;>((refine qf ⟨⟨True.intro,?_⟩,?_⟩;(focus ((show keepsX _ _ _ _ _;simp only [keepsX];(repeat' (first|exact True.intro|refine And.intro ?_ ?_));all_goals (intro hw;first|exact absurd hw (by decide +kernel))))));replace S:=S.qE x;clear x;refine qy ?_;(first|(refine vl ?_<;>refine qf ⟨⟨by (first|exact True.intro),rfl⟩,?_⟩));refine qy ?_;(first|(refine vl ?_<;>refine qf ⟨⟨by (first|exact True.intro),rfl⟩,?_⟩));refine qy ?_;(first|(refine mv ?_<;>refine qf ⟨⟨by (first|exact True.intro),rfl⟩,?_⟩));refine qy ?_;(first|(refine mv ?_<;>refine qf ⟨⟨by (first|exact True.intro),rfl⟩,?_⟩));refine Xq ?_)
 all_goals (repeat' (fail))
 refine qo ⟨_,rfl,?_⟩;exact ⟨⟨i,f,rfl,q1,q2⟩,S.drop⟩
end Go.Proofs.Xx
