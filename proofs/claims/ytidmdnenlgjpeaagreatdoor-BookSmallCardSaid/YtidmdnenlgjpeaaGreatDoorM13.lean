/-
  DeleteFunc on ties.
-/
import Derived.Test.YtidmdnenlgjpeaaGreatDoorM12
import Derived.Test.YtidmdnenlgjpeaaGreatDoorM10
import Derived.Test.YtidmdnenlgjpeaaGreatDoorM9
import Derived.Test.YtidmdnenlgjpeaaGreatDoorM11
set_option linter.unusedSimpArgs false
set_option linter.unusedVariables false
set_option linter.unusedSectionVars false
set_option maxRecDepth 100000
set_option maxHeartbeats 4000000
namespace Go.Proofs.Xx
open Go Go.Proofs
def qeE (n:List UInt8) (t:Ti):Prop:=t.a=n∨t.b=n
instance (n:List UInt8) (t:Ti):Decidable (qeE n t):=inferInstanceAs (Decidable (_∨_))
def cvN (b:Nat):Value:=.func (.func 92) #[] #[.pointer (some ⟨b,0,none⟩)]
def qfk (n:List UInt8) (t:Ti):Bool:=!decide (qeE n t)
variable [Flag]
end Go.Proofs.Xx
namespace Go.Proofs.Xx
open Go Go.Proofs
variable [Flag]
theorem Gs {h0 h:AH} {rs:List Rs} {v:Value} {l:List (List UInt8)} (S:Hs h0 h (.sl v 9 1 eS l :: rs)) (hl:l.length≤1000000) :
 Fn Tryz.prog Xh 76 [v] h (fun _ h'=>Hs h0 h' (.sl v 9 1 eS l.reverse :: rs)):=by
 refine qV rfl Tryz.func76 rfl rfl ?_;all_goals (repeat' (first|refine qi ?_|refine qg rfl ?_|refine qj ?_|refine qo ?_|refine qh ?_|refine qp ?_|refine qw ?_|(refine qc 0 ?_;refine mv ?_;(first|refine Qa S ?_|refine QC S rfl rfl ?_);(first|refine sb ?_|refine vl ?_);refine mv ?_;refine mv ?_;refine qf ?_)))
 refine qJ (σ:=Nat×List (List UInt8)) (fun (i,m) h'=>Hs h0 h' (.sl v 9 1 eS m :: rs)∧2*i≤l.length+1∧m.length=l.length∧(∀ k,k<l.length→m.getD k default=l.getD (if k<i∨l.length - 1 - i<k then l.length - 1 - k else k) default)) (fun (i,m)=>l.length - i) (fun (i,m)=>[(0,v),(2,.int .i64 i),(3,.int .i64 ((l.length:Int) - 1 - i))]) (0,l) qy ?_ ?_
 ·exact ⟨S,by omega,rfl,fun k hk=>by rw [if_neg (by omega)]⟩
 clear S;rintro ⟨i,m⟩ h ⟨S,g1,g2,g3⟩;all_goals (repeat' (first|refine qi ?_|refine qg rfl ?_|refine qj ?_|refine qo ?_|refine qh ?_|refine qp ?_|refine qw ?_|(refine qc 1 ?_;refine mv ?_;refine mv ?_;(first|refine cT ?_|refine cF ?_|(refine cS ?_ ?_<;>intro hc))<;>(refine qf ?_))|(refine qc 2 ?_;refine mv ?_;(first|refine ad ?_|refine vl ?_);refine mv ?_;(first|refine sb ?_|refine vl ?_);refine mv ?_;refine mv ?_;refine qf ?_)|(refine qK 3 ?_;(iterate 6 refine mv ?_);(first|refine Qv S ?_|refine qF S rfl rfl ?_);(first|refine lB S rfl rfl ?_|refine qB S rfl rfl ?_|refine zu S ?_|refine lH S ?_);refine mv ?_;refine mv ?_;(first|refine Qv S ?_|refine qF S rfl rfl ?_);(first|refine lB S rfl rfl ?_|refine qB S rfl rfl ?_|refine zu S ?_|refine lH S ?_);(first|refine Qv S ?_|refine qF S rfl rfl ?_);(first|(refine sB S rfl rfl ?_;clear S;intro h S)|(refine zZ S rfl rfl ?_;clear S;intro h S));(first|refine Qv S ?_|refine qF S rfl rfl ?_);(first|(refine sB S rfl rfl ?_;clear S;intro h S)|(refine zZ S rfl rfl ?_;clear S;intro h S));refine qf ?_)))
 ·have e:((l.length:Int) - 1 - (i:Int)).toNat=l.length - 1 - i:=by omega
  simp only [zA0,e] at S;have s1:∀ k,((m.set i (m.getD (l.length - 1 - i) default)).set (l.length - 1 - i) (m.getD i default)).getD k default=if k=l.length - 1 - i then m.getD i default else if k=i then m.getD (l.length - 1 - i) default else m.getD k default:=fun k=>by
   rw [Qh _ _ (by simp;omega) k,Qh _ _ (by omega) k]
  refine ⟨(i+1,(m.set i (m.getD (l.length - 1 - i) default)).set (l.length - 1 - i) (m.getD i default)),?_,?_,qy⟩
  ·show l.length - (i+1)<l.length - i;omega
  ·refine ⟨S,by (try dsimp only);omega,by simp;exact g2,fun k hk=>?_⟩;rw [s1];split
   ·rename_i q
    rw [g3 i (by omega),if_neg (by omega),if_pos (by omega)];congr 1;omega
   ·split
    ·rename_i q q2
     rw [g3 _ (by omega),if_neg (by omega),if_pos (by omega),q2]
    ·rename_i q q2
     rw [g3 k hk];congr 1
     split<;>split<;>omega
 ·refine ⟨_,rfl,?_⟩;have:m=l.reverse:=Q7 (by simp;exact g2) fun k hk=>by
   rw [g3 k (by omega),zA2,zA2,List.getElem?_reverse (by omega)];congr 2
   split<;>omega
  rw [← this];exact S
end Go.Proofs.Xx
namespace Go.Proofs.Xx
open Go Go.Proofs
def cvC (b:Nat):Value:=.func (.func 78) #[] #[.pointer (some ⟨b,0,none⟩)]
def qfl (g:QM) (t:List UInt8):Bool:=decide (t∈g.tg)
def qfn (r:Rl) (a b:List UInt8):List (List UInt8):=match gat r.us a,gat r.us b with
 | some i,some j=>(r.us.getD i default).tg.filter fun t=>decide (t∈(r.us.getD j default).tg)
 | _,_=>[]
def spk (r:Rl) (a b:List UInt8):Prop:=∃ i j,gat r.us a=some i∧gat r.us b=some j∧∃ t,t∈(r.us.getD i default).tg∧t∈(r.us.getD j default).tg
theorem spk.symm {r:Rl} {a b:List UInt8} (h:spk r a b):spk r b a:=by
 obtain ⟨i,j,h1,h2,t,h3,h4⟩:=h;exact ⟨j,i,h2,h1,t,h4,h3⟩
theorem spk.kn {r:Rl} {a b:List UInt8} (h:spk r a b):gat r.us a≠none∧gat r.us b≠none:=by
 obtain ⟨i,j,h1,h2,t,h3,h4⟩:=h;rw [h1,h2];simp
variable [Flag]
end Go.Proofs.Xx
namespace Go.Proofs.Xx
open Go Go.Proofs
theorem SS.eq:∀ {l m:List (List UInt8)},SS l→SS m→(∀ x,x∈l↔x∈m)→l=m:=by
 intro l m hl hm h;have le:l.length=m.length:=Nat.le_antisymm (Qu hl.nodup fun x hx=>(h x).1 hx) (Qu hm.nodup fun x hx=>(h x).2 hx);apply Q7 le
 intro i;induction i using Nat.strongRecOn with
 | _ i ih =>
  intro hi;have key:∀ {a b:List (List UInt8)},SS a→SS b→(∀ x,x∈a→x∈b)→i<a.length→(∀ j,j<i→j<a.length→a.getD j default=b.getD j default)→¬ zB (a.getD i default) (b.getD i default):=fun {a b} ha hb hab hi hj q=>by
   obtain ⟨j,j1,j2⟩:=qQ.1 (hab _ (qO hi));rcases zA7 j i with z|z
   ·have:=hj j z (by omega);have n:=ha j i z hi;rw [this,j2] at n;exact zh _ n
   ·have:=hb.le z j1;rw [j2] at this;exact this q
  have k1:=key hl hm (fun x=>(h x).1) hi fun j hj hj2=>ih j hj hj2;have k2:=key hm hl (fun x=>(h x).2) (by omega) fun j hj hj2=>(ih j hj (by omega)).symm;rcases JB k1 with q|q
  ·exact q.symm
  ·exact absurd q k2
def btw (t:Ti) (a b:List UInt8):Prop:=(t.a=a∧t.b=b)∨(t.a=b∧t.b=a)
theorem qaz {r:Rl} (H:RO r) {a b:List UInt8} {t:Ti} (ht:t∈r.ts) (h:btw t a b):Zv r.ts a b=some t:=by
 have hlt:=(H.tt t ht).1;rcases h with ⟨rfl,rfl⟩|⟨rfl,rfl⟩
 ·exact Ye H.ts ht (QY hlt).symm (QZ hlt).symm
 ·rw [V9];exact Ye H.ts ht (QY hlt).symm (QZ hlt).symm
theorem PY {r:Rl} {a b:List UInt8} {t:Ti} (h:Zv r.ts a b=some t):btw t a b:=by
 obtain ⟨x,h1,h2,h3⟩:=yN h;obtain ⟨g1,g2,g3⟩:=Jy h;unfold btw;by_cases q:zB b a
 ·have e1:jV a b=b:=if_pos q;have e2:jW a b=a:=if_neg (zX q);exact .inr ⟨by rw [g2,e1],by rw [g3,e2]⟩
 ·have e1:jV a b=a:=if_neg q;refine .inl ⟨by rw [g2,e1],?_⟩;rw [g3];unfold jW;split
  ·rfl
  ·rename_i q2
   rcases JB q with e|e
   ·exact e
   ·exact absurd e q2
variable [Flag]
theorem J3 {h0:AH} (w:WfH h0) (v:Value) (gs:List QM) (hr:Qq h0 v 9 eG gs) (hl:gs.length≤9223372036854775807) (n:List UInt8):Fn Tryz.prog Xh 80 [v,str n] h0 (fun u h'=>((∃ i:Nat,gat (gs.map (·.toGu)) n=some i∧i<gs.length∧u = .int .i64 i)∨(gat (gs.map (·.toGu)) n=none∧u = .int .i64 (-1)))∧Hs h0 h' []):=by
 have S:=Hs.start w;refine qV rfl Tryz.func80 rfl rfl ?_;all_goals (repeat' (first|refine qi ?_|refine qh ?_|(refine qc 0 ?_;refine mv ?_;refine qf ?_)|(refine qc 1 ?_;refine mv ?_;refine qf ?_)))
 refine qJ (σ:=Nat) (fun i h'=>Hs h0 h' []∧i≤gs.length∧∀ j,j<i→(gs.getD j default).name≠n) (fun i=>gs.length - i) (fun i=>[(0,v),(1,str n),(5,.int .i64 i)]) 0 qy ?_ ?_
 ·exact ⟨S,zB0 _,fun j hj=>absurd hj (zB7 _)⟩
 clear S;rintro i h ⟨S,g1,g2⟩;have e:∀ j,j<gs.length→((gs.map (fun g:QM=>g.toGu)).getD j default).name=(gs.getD j default).name:=fun j hj=>by rw [zx (f:=fun g:QM=>g.toGu) hj]
 all_goals (repeat' (first|refine qi ?_|refine qg rfl ?_|refine qj ?_|refine qo ?_|refine qh ?_|(refine qc 2 ?_;refine mv ?_;refine mv ?_;refine Qa S ?_;(first|(refine cS ?_ ?_<;>intro hc))<;>(refine qf ?_))))
 ·have hil:i<gs.length:=by omega
  all_goals (repeat' (first|refine qi ?_|refine qg rfl ?_|refine qj ?_|(refine qc 4 ?_;refine mv ?_;refine mv ?_;refine Qv S ?_;refine fB S ?_;refine zu S ?_;refine mv ?_;(refine tS ?_ ?_<;>intro hc)<;>(refine qf ?_))|(refine qc 5 ?_;refine mv ?_;refine mv ?_;refine qf ?_)))
  all_goals (try simp only [zA0] at *)
  ·refine qC ⟨_,rfl,?_⟩;refine ⟨.inl ⟨i,?_,hil,rfl⟩,S⟩;cases hq:gat (gs.map (·.toGu)) n with
   | none=>exact absurd (by rw [e i hil];exact hc) (Jj.1 hq _ (qO (show i<(gs.map (·.toGu)).length by simp;exact hil)))
   | some k =>
    obtain ⟨h1,h2,h3⟩:=Yy hq;simp only [zC5] at h1;rw [e k h1] at h2;rcases zE7 i k with q|q|q
    ·exact absurd (by rw [e i hil];exact hc) (h3 i q)
    ·rw [q]
    ·exact absurd h2 (g2 k q)
  ·all_goals (repeat' (first|(refine qc 3 ?_;refine mv ?_;refine ad ?_;refine mv ?_;refine qf ?_)))
   refine ⟨i+1,?_,?_,qy⟩
   ·show gs.length - (i+1)<gs.length - i;omega
   ·exact ⟨S,by omega,Zb g2 hc⟩
 ·skip
  all_goals (repeat' (first|(refine qc 6 ?_;refine mv ?_;refine qf ?_)))
  refine qC ⟨_,rfl,?_⟩;refine ⟨.inr ⟨Jj.2 fun g hg=>?_,rfl⟩,S⟩;obtain ⟨j,hj,rfl⟩:=qQ.1 hg;simp only [zC5] at hj;rw [e j hj];exact g2 j (by omega)
theorem qcz {h0:AH} (w:WfH h0) (v:Value) (ts:List Ti) (hr:Qq h0 v 3 jb ts) (hl:ts.length≤9223372036854775807) (a b:List UInt8):Fn Tryz.prog Xh 131 [v,str a,str b] h0 (fun u h'=>((∃ i:Nat,i<ts.length∧btw (ts.getD i default) a b∧(∀ j,j<i→¬ btw (ts.getD j default) a b)∧u = .int .i64 i)∨((∀ j,j<ts.length→¬ btw (ts.getD j default) a b)∧u = .int .i64 (-1)))∧Hs h0 h' []):=by
 have S:=Hs.start w;refine qV rfl Tryz.func131 rfl rfl ?_;all_goals (repeat' (first|refine qi ?_|refine qh ?_|(refine qc 0 ?_;refine mv ?_;refine qf ?_)|(refine qc 1 ?_;refine mv ?_;refine qf ?_)))
 refine qJ (σ:=Nat) (fun i h'=>Hs h0 h' []∧i≤ts.length∧∀ j,j<i→¬ btw (ts.getD j default) a b) (fun i=>ts.length - i) (fun i=>[(0,v),(1,str a),(2,str b),(7,.int .i64 i)]) 0 qy ?_ ?_
 ·exact ⟨S,zB0 _,fun j hj=>absurd hj (zB7 _)⟩
 clear S;rintro i h ⟨S,g1,g2⟩;all_goals (repeat' (first|refine qi ?_|refine qg rfl ?_|refine qj ?_|refine qo ?_|(refine qc 2 ?_;refine mv ?_;refine mv ?_;refine Qa S ?_;(first|(refine cS ?_ ?_<;>intro hc))<;>(refine qf ?_))))
 ·have hil:i<ts.length:=by omega
  (repeat (refine qi ?_));first|refine Xv (σ:=Unit) (fun _ h'=>Hs h0 h' []∧¬ btw (ts.getD i default) a b) (fun _=>[(0,v),(1,str a),(2,str b),(7,.int .i64 i)]) ?_ ?_
  ·all_goals (repeat' (first|refine qi ?_|refine qg rfl ?_|refine qj ?_|refine qh ?_|(refine qc 4 ?_;refine mv ?_;refine mv ?_;refine Qv S ?_;refine fB S ?_;refine zu S ?_;refine mv ?_;(refine tS ?_ ?_<;>intro hc)<;>(refine mv ?_;(first|refine off ?_|refine mv ?_);(first|refine off ?_|refine mv ?_);(first|refine off ?_|(refine Qv S ?_));(first|refine off ?_|(refine fB S ?_));(first|refine off ?_|(refine zu S ?_));(first|refine off ?_|refine mv ?_);(first|refine off ?_|(refine tS ?_ ?_<;>intro hc))<;>(refine vl ?_;refine mv ?_;(first|refine off ?_|refine mv ?_);(first|refine off ?_|refine mv ?_);(first|refine off ?_|(refine Qv S ?_));(first|refine off ?_|(refine fB S ?_));(first|refine off ?_|(refine zu S ?_));(first|refine off ?_|refine mv ?_);(first|refine off ?_|(refine tS ?_ ?_<;>intro hc))<;>((first|refine off ?_|refine mv ?_);(first|refine off ?_|refine mv ?_);(first|refine off ?_|refine mv ?_);(first|refine off ?_|(refine Qv S ?_));(first|refine off ?_|(refine fB S ?_));(first|refine off ?_|(refine zu S ?_));(first|refine off ?_|refine mv ?_);(first|refine off ?_|(refine tS ?_ ?_<;>intro hc))<;>((first|refine off ?_|refine vl ?_);refine vl ?_;refine qf ?_)))))|(refine qc 5 ?_;refine mv ?_;refine mv ?_;refine qf ?_)))
   all_goals (try simp only [zA0] at *)
   all_goals first
    | exact ⟨(),⟨S,by unfold btw;grind⟩,(qy)⟩
    | (refine qC ⟨_,rfl,?_⟩;exact ⟨.inl ⟨i,hil,by unfold btw;grind,g2,rfl⟩,S⟩)
  ·clear S;rintro - h ⟨S,hb⟩;all_goals (repeat' (first|(refine qc 3 ?_;refine mv ?_;refine ad ?_;refine mv ?_;refine qf ?_)))
   refine ⟨i+1,?_,?_,qy⟩
   ·show ts.length - (i+1)<ts.length - i;omega
   ·exact ⟨S,by omega,Zb g2 hb⟩
 ·skip
  all_goals (repeat' (first|(refine qc 6 ?_;refine mv ?_;refine qf ?_)))
  refine qC ⟨_,rfl,?_⟩;exact ⟨.inr ⟨fun j hj=>g2 j (by omega),rfl⟩,S⟩
theorem qa3 {h0:AH} (w:WfH h0) (v:RlV) (r:Rl) (HR:RlOk h0 v r) (H:RO r) (na nb:List UInt8):Fn Tryz.prog Xh 83 [v.val,str na,str nb] h0 (fun u h'=>((∃ t,Zv r.ts na nb=some t∧u = .tuple #[.int .u8 t.k,.bool true])∨(Zv r.ts na nb=none∧u = .tuple #[.int .u8 0,.bool false]))∧Hs h0 h' []):=by
 have S:=Hs.start w;have hrt:=HR.rt;have hlt:=HR.lt;unfold RlV.val;refine qV rfl Tryz.func83 rfl rfl ?_;all_goals (repeat' (first|refine qi ?_|(refine qc 0 ?_;(refine bx S ?_;clear S;intro b h S);refine mv ?_;refine mv ?_;refine qf ?_)|(refine qc 1 ?_;refine vl ?_;refine lB S rfl rfl ?_;refine mv ?_;refine mv ?_)))
 (refine qx rfl rfl rfl rfl rfl ((qcz S.wf v.vt.val r.ts (hrt.ext w S.ext) hlt na nb).mono ?_);rintro _ h ⟨⟨i,i1,i2,i3,rfl⟩|⟨i1,rfl⟩,x⟩)<;>(replace S:=S.qL x;clear x;refine mv ?_;refine qf ?_)
 ·all_goals (repeat' (first|refine qi ?_|refine qg rfl ?_|refine qj ?_|(refine qc 2 ?_;refine mv ?_;(refine cF ?_)<;>(refine qf ?_))|(refine qc 4 ?_;refine vl ?_;refine lB S rfl rfl ?_;refine mv ?_;refine Qv S ?_;refine fB S ?_;refine zu S ?_;refine mv ?_;refine mv ?_;refine qf ?_)))
  refine qC ⟨_,rfl,?_⟩;exact ⟨.inl ⟨_,qaz H (qO i1) i2,rfl⟩,S.drop⟩
 ·skip
  all_goals (repeat' (first|refine qi ?_|refine qg rfl ?_|(refine qc 2 ?_;refine mv ?_;(refine cT ?_)<;>(refine qf ?_))|(refine qc 3 ?_;refine mv ?_;refine mv ?_;refine qf ?_)))
  refine qC ⟨_,rfl,?_⟩;refine ⟨.inr ⟨?_,rfl⟩,S.drop⟩;cases hq:Zv r.ts na nb with
  | none=>rfl
  | some t =>
   obtain ⟨j,j1,j2⟩:=qQ.1 (Jy hq).1;exact absurd (j2 ▸ PY hq) (i1 j j1)
theorem qbw {h0:AH} (w:WfH h0) (v:Value) (l:List (List UInt8)) (hr:Qq h0 v 1 eS l) (hl:l.length≤8796093021952):Fn Tryz.prog Xh 124 [v] h0 (fun u h'=>Hs h0 h' [.sl u 9 1 eS l]):=by
 have S:=Hs.start w;refine qV rfl Tryz.func124 rfl rfl ?_;all_goals (repeat' (first|refine qi ?_|refine qh ?_|(refine qc 0 ?_;refine mv ?_;refine qf ?_)|(refine qc 1 ?_;refine mv ?_;refine qf ?_)|(refine qc 2 ?_;refine mv ?_;refine qf ?_)))
 have S:=S.Zg (e:=9) (z:=1) (enc:=eS);refine qJ (σ:=Nat×Value) (fun (i,v3) h'=>Hs h0 h' [.sl v3 9 1 eS (l.take i)]∧i≤l.length) (fun (i,v3)=>l.length - i) (fun (i,v3)=>[(0,v),(3,v3),(4,.int .i64 i)]) (0,.slice none 0 0) qy ?_ ?_
 ·exact ⟨S,zB0 _⟩
 clear S;rintro ⟨i,v3⟩ h ⟨S,g1⟩;have htl:(l.take i).length≤8796093021952:=by simp;omega
 all_goals (repeat' (first|refine qi ?_|refine qg rfl ?_|refine qj ?_|refine qo ?_|refine qh ?_|(refine qc 3 ?_;refine mv ?_;refine mv ?_;refine Qa S ?_;(first|(refine cS ?_ ?_<;>intro hc))<;>(refine qf ?_))))
 ·have hil:i<l.length:=by omega
  all_goals (repeat' (first|(refine qc 5 ?_;(iterate 3 refine mv ?_);refine Qv S ?_;refine zu S ?_;(refine one 1 S ?_;clear S;intro u h S))))
  simp only [zA0] at *;refine app (y0:=l.getD i default) S rfl rfl ?_;clear S;intro v3 h S;(refine mv ?_;refine qf ?_);all_goals (repeat' (first|(refine qc 4 ?_;refine mv ?_;refine ad ?_;refine mv ?_;refine qf ?_)))
  refine ⟨(i+1,v3),?_,?_,qy⟩
  ·show l.length - (i+1)<l.length - i;omega
  ·refine ⟨?_,by (try dsimp only);omega⟩;dsimp only;rw [zi hil];exact S
 ·obtain rfl:i=l.length:=by omega
  rw [zD4] at S;all_goals (repeat' (first|(refine qc 6 ?_;refine mv ?_;refine mv ?_;refine qf ?_)))
  refine qC ⟨_,rfl,?_⟩;exact S
end Go.Proofs.Xx
namespace Go.Proofs.Xx
open Go Go.Proofs
theorem qdc {r:Rl} {i:Nat} (h:¬ ((r.ts.getD i default).k=1∨(r.ts.getD i default).k=2)∨¬ zB (r.ts.getD i default).a (r.ts.getD i default).b∨(0<i∧Zu (r.ts.getD i default) (r.ts.getD (i - 1) default))):Xw r i=23:=by
 unfold Xw;split
 ·rename_i q
  rcases h with h|h|h
  ·unfold QP;rw [if_pos (.inl (by omega))]
  ·exact absurd q.1 h
  ·rcases q.2 with z|z
   ·omega
   ·exact absurd h.2 z
 ·rfl
structure TGd (r:Rl) (i:Nat):Prop where
 k:(r.ts.getD i default).k=1∨(r.ts.getD i default).k=2
 lt:zB (r.ts.getD i default).a (r.ts.getD i default).b
 pl:i=0∨¬ Zu (r.ts.getD i default) (r.ts.getD (i - 1) default)
theorem TGd.eq {r:Rl} {i:Nat} (g:TGd r i):Xw r i=(QP ⟨r.us,r.ts.take i⟩ (r.ts.getD i default).a (r.ts.getD i default).b (r.ts.getD i default).k).2:=by
 unfold Xw;rw [if_pos ⟨g.lt,g.pl⟩]
theorem TGd.nk {r:Rl} {i:Nat} (g:TGd r i):¬ (((r.ts.getD i default).k≠1∧(r.ts.getD i default).k≠2)∨(r.ts.getD i default).a=(r.ts.getD i default).b):=by
 rintro (q|q)
 ·have:=g.k;omega
 ·exact vw g.lt q
theorem TGd.e6 {r:Rl} {i:Nat} (g:TGd r i) (h:gat r.us (r.ts.getD i default).a=none∨gat r.us (r.ts.getD i default).b=none):Xw r i=6:=by
 rw [g.eq,KW (r:=⟨r.us,r.ts.take i⟩) g.nk h]
theorem TGd.tied {r:Rl} {i:Nat} (g:TGd r i) (hi:i<r.ts.length) (hp:TS (r.ts.take i)):tied (r.ts.take i) (r.ts.getD i default).a (r.ts.getD i default).b↔(0<i∧¬ Zu (r.ts.getD (i - 1) default) (r.ts.getD i default)):=by
 unfold Xx.tied;rw [QY g.lt,QZ g.lt];have hl:(r.ts.take i).length=i:=by simp;omega
 constructor
 ·rintro ⟨t,h1,h2,h3⟩;obtain ⟨j,j1,j2⟩:=qQ.1 h1;rw [hl] at j1;rw [getD_take j1] at j2;refine ⟨by omega,fun q=>?_⟩;have hb:Zu t (r.ts.getD i default):=by
   rcases Nat.eq_or_lt_of_le (show j≤i - 1 by omega) with e|e
   ·rw [← j2,e];exact q
   ·have:=hp.lt e (by rw [hl];omega);rw [getD_take j1,getD_take (by omega),j2] at this;exact QW this q
  rcases hb with q|q
  ·rw [h2] at q;exact zh _ q
  ·rw [h3] at q;exact zh _ q.2
 ·rintro ⟨h0,h1⟩;rcases V6 (r.ts.getD (i - 1) default) (r.ts.getD i default) with q|q|q
  ·exact absurd q h1
  ·refine ⟨r.ts.getD (i - 1) default,?_,q⟩;have:=qO (l:=r.ts.take i) (i:=i - 1) (by rw [hl];omega);rwa [getD_take (by omega)] at this
  ·exact absurd q (g.pl.resolve_left (by omega))
theorem TGd.e5 {r:Rl} {i:Nat} (g:TGd r i) (hi:i<r.ts.length) (hp:TS (r.ts.take i)) (h:¬ (gat r.us (r.ts.getD i default).a=none∨gat r.us (r.ts.getD i default).b=none)) (hb:0<i∧¬ Zu (r.ts.getD (i - 1) default) (r.ts.getD i default)):Xw r i=5:=by
 rw [g.eq,yU (r:=⟨r.us,r.ts.take i⟩) g.nk h ((g.tied hi hp).2 hb)]
theorem TGd.e7 {r:Rl} {i:Nat} (g:TGd r i) (hi:i<r.ts.length) (hp:TS (r.ts.take i)) (h:¬ (gat r.us (r.ts.getD i default).a=none∨gat r.us (r.ts.getD i default).b=none)) (hb:¬ (0<i∧¬ Zu (r.ts.getD (i - 1) default) (r.ts.getD i default))) (h7:256≤i):Xw r i=7:=by
 rw [g.eq,yT (r:=⟨r.us,r.ts.take i⟩) g.nk h (fun q=>hb ((g.tied hi hp).1 q)) (by simp;omega)]
theorem TGd.e0 {r:Rl} {i:Nat} (g:TGd r i) (hi:i<r.ts.length) (hp:TS (r.ts.take i)) (h:¬ (gat r.us (r.ts.getD i default).a=none∨gat r.us (r.ts.getD i default).b=none)) (hb:¬ (0<i∧¬ Zu (r.ts.getD (i - 1) default) (r.ts.getD i default))) (h7:¬ 256≤i):Xw r i=0:=by
 rw [g.eq,We (r:=⟨r.us,r.ts.take i⟩) g.nk h (fun q=>hb ((g.tied hi hp).1 q)) (by simp;omega)]
variable [Flag]
theorem yM {h0:AH} (w:WfH h0) (x y:Ti):Fn Tryz.prog Xh 81 [tiV x,tiV y] h0 (fun u h'=>Zk u (Zu x y)∧Hs h0 h' []):=by
 have S:=Hs.start w;unfold tiV;refine qV rfl Tryz.func81 rfl rfl ?_;all_goals (repeat' (first|refine qi ?_|refine qg rfl ?_|refine qj ?_|refine qo ?_|refine qh ?_|refine qp ?_|refine qw ?_|(refine qc 0 ?_;(refine bx S ?_;clear S;intro b h S);(refine bx S ?_;clear S;intro b h S);refine mv ?_;refine qf ?_)|(refine qc 1 ?_;(first|refine vl ?_|refine fB S ?_|refine fS S rfl rfl ?_|refine fA ?_);(first|refine lB S rfl rfl ?_|refine qB S rfl rfl ?_|refine zu S ?_|refine lH S ?_);(first|refine vl ?_|refine fB S ?_|refine fS S rfl rfl ?_|refine fA ?_);(first|refine lB S rfl rfl ?_|refine qB S rfl rfl ?_|refine zu S ?_|refine lH S ?_);(refine tO ?_ ?_<;>intro hc)<;>(refine mv ?_;(first|refine off ?_|(first|refine vl ?_|refine fB S ?_|refine fS S rfl rfl ?_|refine fA ?_));(first|refine off ?_|(first|refine lB S rfl rfl ?_|refine qB S rfl rfl ?_|refine zu S ?_|refine lH S ?_));(first|refine off ?_|(first|refine vl ?_|refine fB S ?_|refine fS S rfl rfl ?_|refine fA ?_));(first|refine off ?_|(first|refine lB S rfl rfl ?_|refine qB S rfl rfl ?_|refine zu S ?_|refine lH S ?_));(first|refine off ?_|(refine tS ?_ ?_<;>intro hc))<;>((first|refine off ?_|refine mv ?_);(first|refine off ?_|(first|refine vl ?_|refine fB S ?_|refine fS S rfl rfl ?_|refine fA ?_));(first|refine off ?_|(first|refine lB S rfl rfl ?_|refine qB S rfl rfl ?_|refine zu S ?_|refine lH S ?_));(first|refine off ?_|(first|refine vl ?_|refine fB S ?_|refine fS S rfl rfl ?_|refine fA ?_));(first|refine off ?_|(first|refine lB S rfl rfl ?_|refine qB S rfl rfl ?_|refine zu S ?_|refine lH S ?_));(first|refine off ?_|(refine tO ?_ ?_<;>intro hc))<;>((first|refine off ?_|refine vl ?_);refine vl ?_;refine mv ?_;refine qf ?_))))))
 all_goals (refine qC ⟨_,rfl,?_⟩)
 all_goals first
  | exact ⟨.inl ⟨rfl,by unfold Zu;grind⟩,S.drop⟩
  | exact ⟨.inr ⟨rfl,by unfold Zu;grind⟩,S.drop⟩
theorem qbF {h0:AH} (w:WfH h0) (v:RlV) (r:Rl) (HR:RlOk h0 v r):Fn Tryz.prog Xh 31 [v.val] h0 (fun u h'=>Zk u (r.us.length≤200∧r.ts.length≤600)∧Hs h0 h' []):=by
 have S:=Hs.start w;have hrg:=HR.rg;have hrt:=HR.rt;have hgl:=HR.len;have hlg:=HR.lg;have hlt:=HR.lt;unfold RlV.val;refine qV rfl Tryz.func31 rfl rfl ?_;all_goals (repeat' (first|refine qi ?_|refine qg rfl ?_|refine qj ?_|refine qo ?_|refine qh ?_|refine qp ?_|refine qw ?_|(refine qc 0 ?_;(refine bx S ?_;clear S;intro b h S);refine mv ?_;refine qf ?_)|(refine qc 1 ?_;(first|refine vl ?_|refine fB S ?_|refine fS S rfl rfl ?_|refine fA ?_);(first|refine lB S rfl rfl ?_|refine qB S rfl rfl ?_|refine zu S ?_|refine lH S ?_);(first|refine Qa S ?_|refine QC S rfl rfl ?_);(first|refine cT ?_|refine cF ?_|(refine cS ?_ ?_<;>intro hc))<;>(refine mv ?_;(first|refine off ?_|(first|refine vl ?_|refine fB S ?_|refine fS S rfl rfl ?_|refine fA ?_));(first|refine off ?_|(first|refine lB S rfl rfl ?_|refine qB S rfl rfl ?_|refine zu S ?_|refine lH S ?_));(first|refine off ?_|(first|refine Qa S ?_|refine QC S rfl rfl ?_));(first|refine off ?_|(first|refine cT ?_|refine cF ?_|(refine cS ?_ ?_<;>intro hc)))<;>(refine vl ?_;refine mv ?_;refine qf ?_)))))
 all_goals (refine qC ⟨_,rfl,?_⟩)
 all_goals first
  | exact ⟨.inl ⟨rfl,by omega⟩,S.drop⟩
  | exact ⟨.inr ⟨rfl,by omega⟩,S.drop⟩
end Go.Proofs.Xx
namespace Go.Proofs.Xx
open Go Go.Proofs
variable [Flag]
theorem yw {h0:AH} (w:WfH h0) (v:RlV) (r:Rl) (HR:RlOk h0 v r) (hcap:XJ v.vg.val) (hb:r.us.length≤200∧r.ts.length≤600):Fn Tryz.prog Xh 32 [v.val] h0 (fun u h'=>((u = .tuple #[.int .i64 0,.int .i64 0]∧VRl r)∨∃ i e,u = .tuple #[.int .i64 i,.int .i64 e]∧Bad r i e)∧Hs h0 h' []):=by
 have S:=Hs.start w;have hrg:=HR.rg;have hrt:=HR.rt;have hgl:=HR.len;unfold RlV.val;refine qV rfl Tryz.func32 rfl rfl ?_;all_goals (repeat' (first|refine qi ?_|refine qg rfl ?_|refine qj ?_|refine qo ?_|refine qh ?_|refine qp ?_|refine qw ?_|(refine qc 0 ?_;(refine bx S ?_;clear S;intro b h S);refine mv ?_;refine mv ?_;refine qf ?_)))
 obtain ⟨b1,hnm⟩:∃ x,x=b:=⟨_,rfl⟩;subst hnm;replace S:Hs h0 h (.blk b1 [v.vg.val,v.vt.val] 32 :: []):=S;all_goals (repeat' (first|refine qi ?_|refine qg rfl ?_|refine qj ?_|refine qo ?_|refine qh ?_|refine qp ?_|refine qw ?_|(refine qc 1 ?_;refine mv ?_;refine qf ?_)))
 refine qJ (σ:=Nat) (fun i h'=>Hs h0 h' [.blk b1 [v.vg.val,v.vt.val] 32]∧i≤r.us.length∧(∀ k,k<i→gE0 r.us k=0)) (fun i=>r.us.length - i) (fun i=>[(1,.pointer (some ⟨b1,0,none⟩)),(4,.int .i64 i)]) 0 qy ?_ ?_
 ·exact ⟨S,zB0 _,fun j hj=>absurd hj (zB7 _)⟩
 clear S;rintro i h ⟨S,g1,g2⟩;all_goals (repeat' (first|refine qi ?_|refine qg rfl ?_|refine qj ?_|refine qo ?_|refine qh ?_|refine qp ?_|refine qw ?_|(refine qc 2 ?_;refine mv ?_;(first|refine vl ?_|refine fB S ?_|refine fS S rfl rfl ?_|refine fA ?_);(first|refine lB S rfl rfl ?_|refine qB S rfl rfl ?_|refine zu S ?_|refine lH S ?_);(first|refine Qa S ?_|refine QC S rfl rfl ?_);(first|refine cT ?_|refine cF ?_|(refine cS ?_ ?_<;>intro hc))<;>(refine qf ?_))))
 ·have hil:i<v.gs.length:=by omega
  have hg:(v.gs.getD i default).toGu=r.us.getD i default:=HR.at_ hil;have hge:gE0 r.us i=(JV ⟨r.us.take i,[]⟩ (r.us.getD i default)).2:=rfl;have hbad:∀ e,gE0 r.us i=e→e≠0→Bad r i e:=fun e h1 h2=>⟨h2,.inl ⟨i,by omega,g2,h1,rfl⟩⟩
  all_goals (repeat' (first|refine qi ?_|refine qg rfl ?_|refine qj ?_|refine qo ?_|refine qh ?_|refine qp ?_|refine qw ?_|(refine qc 4 ?_;(first|refine vl ?_|refine fB S ?_|refine fS S rfl rfl ?_|refine fA ?_);(first|refine lB S rfl rfl ?_|refine qB S rfl rfl ?_|refine zu S ?_|refine lH S ?_);refine mv ?_;(first|refine Qv S ?_|refine qF S rfl rfl ?_);(first|refine lB S rfl rfl ?_|refine qB S rfl rfl ?_|refine zu S ?_|refine lH S ?_))))
  simp only [zA0];(refine qx rfl rfl rfl rfl rfl ((Vy S.wf (v.gs.getD i default) ⟨(HR.tg i hil).1.ext w S.ext,(HR.tg i hil).2⟩).mono ?_);rintro _ h ⟨rfl,x⟩)<;>(replace S:=S.qL x;clear x;refine mv ?_;refine qf ?_)
  rw [hg];all_goals (repeat' (first|refine qi ?_|refine qg rfl ?_|refine qj ?_|refine qo ?_|refine qh ?_|refine qp ?_|refine qw ?_|(refine qc 4 ?_;(first|refine vl ?_|refine fB S ?_|refine fS S rfl rfl ?_|refine fA ?_);(first|refine lB S rfl rfl ?_|refine qB S rfl rfl ?_|refine zu S ?_|refine lH S ?_);refine mv ?_;(first|refine Qv S ?_|refine qF S rfl rfl ?_);(first|refine lB S rfl rfl ?_|refine qB S rfl rfl ?_|refine zu S ?_|refine lH S ?_))|(refine qc 5 ?_;refine mv ?_;(first|refine cT ?_|refine cF ?_|(refine cS ?_ ?_<;>intro hc))<;>(refine qf ?_))))
  ·have hne:QJ (r.us.getD i default)≠0:=by assumption
   all_goals (repeat' (first|refine qi ?_|refine qg rfl ?_|refine qj ?_|refine qo ?_|refine qh ?_|refine qp ?_|refine qw ?_|(refine qc 6 ?_;(iterate 4 refine mv ?_);refine qf ?_)))
   refine qC ⟨_,rfl,?_⟩;exact ⟨.inr ⟨_,_,rfl,hbad _ (by rw [hge,pF hne]) hne⟩,S.drop⟩
  ·have hz:QJ (r.us.getD i default)=0:=by omega
   have hnm:(v.gs.getD i default).name=(r.us.getD i default).name:=by rw [← hg]
   all_goals (repeat' (first|refine qi ?_|refine qg rfl ?_|refine qj ?_|refine qo ?_|refine qh ?_|refine qp ?_|refine qw ?_|(refine qK 7 ?_;(first|refine vl ?_|refine fB S ?_|refine fS S rfl rfl ?_|refine fA ?_);(first|refine lB S rfl rfl ?_|refine qB S rfl rfl ?_|refine zu S ?_|refine lH S ?_);refine mv ?_)))
   refine su 0 i (hrg.ext w S.ext) hcap (fun va' ra' ca'=>?_);((first|refine vl ?_|refine fB S ?_|refine fS S rfl rfl ?_|refine fA ?_);(first|refine lB S rfl rfl ?_|refine qB S rfl rfl ?_|refine zu S ?_|refine lH S ?_);refine mv ?_;(first|refine Qv S ?_|refine qF S rfl rfl ?_);(first|refine vl ?_|refine fB S ?_|refine fS S rfl rfl ?_|refine fA ?_);(first|refine lB S rfl rfl ?_|refine qB S rfl rfl ?_|refine zu S ?_|refine lH S ?_));simp only [zA0,hnm];have hmp:((v.gs.drop 0).take (i - 0)).map (·.toGu)=r.us.take i:=by rw [List.drop_zero,Nat.sub_zero,List.map_take,HR.us]
   have hll:((v.gs.drop 0).take (i - 0)).length≤9223372036854775807:=by simp;omega
   (refine qx rfl rfl rfl rfl rfl ((J3 S.wf va' ((v.gs.drop 0).take (i - 0)) ra' hll (r.us.getD i default).name).mono ?_);rintro _ h ⟨⟨j,j1,j2,rfl⟩|⟨j1,rfl⟩,x⟩)<;>(replace S:=S.qL x;clear x;(first|refine cT ?_|refine cF ?_|(refine cS ?_ ?_<;>intro hc))<;>(refine qf ?_))
   all_goals rw [hmp] at j1
   ·all_goals (repeat' (first|refine qi ?_|refine qg rfl ?_|refine qj ?_|refine qo ?_|refine qh ?_|refine qp ?_|refine qw ?_|(refine qK 7 ?_;(first|refine vl ?_|refine fB S ?_|refine fS S rfl rfl ?_|refine fA ?_);(first|refine lB S rfl rfl ?_|refine qB S rfl rfl ?_|refine zu S ?_|refine lH S ?_);refine mv ?_)|(refine qc 8 ?_;(iterate 3 refine mv ?_);refine qf ?_)))
    refine qC ⟨_,rfl,?_⟩;exact ⟨.inr ⟨_,_,rfl,hbad _ (by rw [hge,wC hz (by show gat (r.us.take i) _≠none;rw [j1];simp)]) (by decide)⟩,S.drop⟩
   ·skip
    all_goals (repeat' (first|refine qi ?_|refine qg rfl ?_|refine qj ?_|refine qo ?_|refine qh ?_|refine qp ?_|refine qw ?_|(refine qK 7 ?_;(first|refine vl ?_|refine fB S ?_|refine fS S rfl rfl ?_|refine fA ?_);(first|refine lB S rfl rfl ?_|refine qB S rfl rfl ?_|refine zu S ?_|refine lH S ?_);refine mv ?_)|(refine qc 9 ?_;refine mv ?_;(first|refine cT ?_|refine cF ?_|(refine cS ?_ ?_<;>intro hc))<;>(refine qf ?_))))
    ·all_goals (repeat' (first|refine qi ?_|refine qg rfl ?_|refine qj ?_|refine qo ?_|refine qh ?_|refine qp ?_|refine qw ?_|(refine qc 10 ?_;(iterate 3 refine mv ?_);refine qf ?_)))
     refine qC ⟨_,rfl,?_⟩;exact ⟨.inr ⟨_,_,rfl,hbad _ (by rw [hge,wB hz j1 (by show 64≤(r.us.take i).length;simp;omega)]) (by decide)⟩,S.drop⟩
    ·skip
     all_goals (repeat' (first|refine qi ?_|refine qg rfl ?_|refine qj ?_|refine qo ?_|refine qh ?_|refine qp ?_|refine qw ?_|(refine qc 3 ?_;refine mv ?_;(first|refine ad ?_|refine vl ?_);refine mv ?_;refine qf ?_)))
     refine ⟨i+1,?_,?_,qy⟩
     ·show r.us.length - (i+1)<r.us.length - i;omega
     ·exact ⟨S,by omega,Zb g2 (by rw [hge,wE hz j1 (by show ¬ 64≤(r.us.take i).length;simp;omega)])⟩
 ·have hi:i=r.us.length:=by omega
  rw [hi] at g2;clear hi;all_goals (repeat' (first|refine qi ?_|refine qg rfl ?_|refine qj ?_|refine qo ?_|refine qh ?_|refine qp ?_|refine qw ?_|(refine qc 11 ?_;refine mv ?_;refine qf ?_)))
  refine qJ (σ:=Nat) (fun i h'=>Hs h0 h' [.blk b1 [v.vg.val,v.vt.val] 32]∧i≤r.ts.length∧(∀ k,k<i→Xw r k=0)) (fun i=>r.ts.length - i) (fun i=>[(1,.pointer (some ⟨b1,0,none⟩)),(6,.int .i64 i)]) 0 qy ?_ ?_
  ·exact ⟨S,zB0 _,fun j hj=>absurd hj (zB7 _)⟩
  clear S;rintro i h ⟨S,k1,k2⟩;all_goals (repeat' (first|refine qi ?_|refine qg rfl ?_|refine qj ?_|refine qo ?_|refine qh ?_|refine qp ?_|refine qw ?_|(refine qc 12 ?_;refine mv ?_;(first|refine vl ?_|refine fB S ?_|refine fS S rfl rfl ?_|refine fA ?_);(first|refine lB S rfl rfl ?_|refine qB S rfl rfl ?_|refine zu S ?_|refine lH S ?_);(first|refine Qa S ?_|refine QC S rfl rfl ?_);(first|refine cT ?_|refine cF ?_|(refine cS ?_ ?_<;>intro hc))<;>(refine qf ?_))))
  ·have hil:i<r.ts.length:=by omega
   have hts:=(yV k1 k2).1;have hbad:∀ e,Xw r i=e→e≠0→Bad r ((v.gs.length:Int)+i) e:=fun e h1 h2=>⟨h2,.inr ⟨g2,i,hil,k2,h1,by rw [hgl]⟩⟩
   all_goals (repeat' (first|refine qi ?_|refine qg rfl ?_|refine qj ?_|refine qo ?_|refine qh ?_|refine qp ?_|refine qw ?_|(refine qc 14 ?_;(first|refine vl ?_|refine fB S ?_|refine fS S rfl rfl ?_|refine fA ?_);(first|refine lB S rfl rfl ?_|refine qB S rfl rfl ?_|refine zu S ?_|refine lH S ?_);refine mv ?_;(first|refine Qv S ?_|refine qF S rfl rfl ?_);(first|refine lB S rfl rfl ?_|refine qB S rfl rfl ?_|refine zu S ?_|refine lH S ?_);(refine al S ?_;clear S;intro b h S);(first|(refine sB S rfl rfl ?_;clear S;intro h S)|(refine zZ S rfl rfl ?_;clear S;intro h S));refine qf ?_)))
   obtain ⟨b7,hnm⟩:∃ x,x=b:=⟨_,rfl⟩;subst hnm;simp only [zA0] at S;obtain ⟨t,ht⟩:∃ t,r.ts.getD i default=t:=⟨_,rfl⟩
   rw [ht] at S;replace S:Hs h0 h [.blk b7 [str t.a,str t.b,.int .u8 t.k] 111,.blk b1 [v.vg.val,v.vt.val] 32]:=S;all_goals (repeat' (first|refine qi ?_|refine qg rfl ?_|refine qj ?_|refine qo ?_|refine qh ?_|refine qp ?_|refine qw ?_|(refine qc 15 ?_;(first|refine vl ?_|refine fB S ?_|refine fS S rfl rfl ?_|refine fA ?_);(first|refine lB S rfl rfl ?_|refine qB S rfl rfl ?_|refine zu S ?_|refine lH S ?_);(first|refine Qa S ?_|refine QC S rfl rfl ?_);refine mv ?_;(first|refine ad ?_|refine vl ?_);refine mv ?_;refine qf ?_)))
   (repeat (refine qi ?_));first|refine PR (σ:=Unit) (fun _ h'=>Hs h0 h' [.blk b7 [str t.a,str t.b,.int .u8 t.k] 111,.blk b1 [v.vg.val,v.vt.val] 32]∧TGd r i) (fun _=>[(1,.pointer (some ⟨b1,0,none⟩)),(6,.int .i64 i),(7,.pointer (some ⟨b7,0,none⟩)),(8,.int .i64 ((v.gs.length:Int)+i))]) ?_ ?_|refine Zj (σ:=Unit) (fun _ h'=>Hs h0 h' [.blk b7 [str t.a,str t.b,.int .u8 t.k] 111,.blk b1 [v.vg.val,v.vt.val] 32]∧TGd r i) (fun _=>[(1,.pointer (some ⟨b1,0,none⟩)),(6,.int .i64 i),(7,.pointer (some ⟨b7,0,none⟩)),(8,.int .i64 ((v.gs.length:Int)+i))]) ?_ ?_
   ·have hpr:((i:Int) - 1).toNat=i - 1:=by omega
    all_goals (repeat' (first|refine qi ?_|refine qg rfl ?_|refine qj ?_|refine qo ?_|refine qh ?_|refine qp ?_|refine qw ?_|(refine qK 16 ?_;(first|refine vl ?_|refine fB S ?_|refine fS S rfl rfl ?_|refine fA ?_);(first|refine lB S rfl rfl ?_|refine qB S rfl rfl ?_|refine zu S ?_|refine lH S ?_);(first|refine cT ?_|refine cF ?_|(refine cS ?_ ?_<;>intro hc))<;>(refine mv ?_;(first|refine off ?_|(first|refine vl ?_|refine fB S ?_|refine fS S rfl rfl ?_|refine fA ?_));(first|refine off ?_|(first|refine lB S rfl rfl ?_|refine qB S rfl rfl ?_|refine zu S ?_|refine lH S ?_));(first|refine off ?_|(first|refine cT ?_|refine cF ?_|(refine cS ?_ ?_<;>intro hc)))<;>(refine vl ?_;refine mv ?_;(first|refine off ?_|(first|refine vl ?_|refine fB S ?_|refine fS S rfl rfl ?_|refine fA ?_));(first|refine off ?_|(first|refine lB S rfl rfl ?_|refine qB S rfl rfl ?_|refine zu S ?_|refine lH S ?_));(first|refine off ?_|(first|refine vl ?_|refine fB S ?_|refine fS S rfl rfl ?_|refine fA ?_));(first|refine off ?_|(first|refine lB S rfl rfl ?_|refine qB S rfl rfl ?_|refine zu S ?_|refine lH S ?_));(first|refine off ?_|(refine tO ?_ ?_<;>intro hc))<;>(refine vl ?_;refine mv ?_;(first|refine off ?_|refine mv ?_);(first|refine off ?_|(first|refine cT ?_|refine cF ?_|(refine cS ?_ ?_<;>intro hc)))<;>((first|refine off ?_|refine mv ?_);(first|refine off ?_|(first|refine lB S rfl rfl ?_|refine qB S rfl rfl ?_|refine zu S ?_|refine lH S ?_));(first|refine off ?_|(first|refine vl ?_|refine fB S ?_|refine fS S rfl rfl ?_|refine fA ?_));(first|refine off ?_|(first|refine lB S rfl rfl ?_|refine qB S rfl rfl ?_|refine zu S ?_|refine lH S ?_));(first|refine off ?_|refine mv ?_);(first|refine off ?_|(first|refine sb ?_|refine vl ?_));(first|refine off ?_|(first|refine Qv S ?_|refine qF S rfl rfl ?_));(first|refine off ?_|(first|refine lB S rfl rfl ?_|refine qB S rfl rfl ?_|refine zu S ?_|refine lH S ?_));(first|(refine off ?_;(first|refine off ?_|refine vl ?_);refine vl ?_;refine qf ?_)|skip))))))))
    all_goals first
     | exact ⟨(),⟨S,⟨by rw [ht];omega,by rw [ht];exact zF3.1 (by assumption),.inl (by omega)⟩⟩,(qy)⟩
     | skip
    all_goals (try simp only [hpr])
    all_goals (try ((refine qx rfl rfl rfl rfl rfl ((yM S.wf t (r.ts.getD (i - 1) default)).mono ?_);rintro _ h ⟨⟨rfl,z⟩|⟨rfl,z⟩,x⟩)<;>(replace S:=S.qL x;clear x;(first|refine off ?_|refine vl ?_);refine vl ?_;refine qf ?_)))
    all_goals (all_goals (repeat' (first|refine qi ?_|refine qg rfl ?_|refine qj ?_|refine qo ?_|refine qh ?_|refine qp ?_|refine qw ?_|(refine qK 16 ?_;(first|refine vl ?_|refine fB S ?_|refine fS S rfl rfl ?_|refine fA ?_);(first|refine lB S rfl rfl ?_|refine qB S rfl rfl ?_|refine zu S ?_|refine lH S ?_);(first|refine cT ?_|refine cF ?_|(refine cS ?_ ?_<;>intro hc))<;>(refine mv ?_;(first|refine off ?_|(first|refine vl ?_|refine fB S ?_|refine fS S rfl rfl ?_|refine fA ?_));(first|refine off ?_|(first|refine lB S rfl rfl ?_|refine qB S rfl rfl ?_|refine zu S ?_|refine lH S ?_));(first|refine off ?_|(first|refine cT ?_|refine cF ?_|(refine cS ?_ ?_<;>intro hc)))<;>(refine vl ?_;refine mv ?_;(first|refine off ?_|(first|refine vl ?_|refine fB S ?_|refine fS S rfl rfl ?_|refine fA ?_));(first|refine off ?_|(first|refine lB S rfl rfl ?_|refine qB S rfl rfl ?_|refine zu S ?_|refine lH S ?_));(first|refine off ?_|(first|refine vl ?_|refine fB S ?_|refine fS S rfl rfl ?_|refine fA ?_));(first|refine off ?_|(first|refine lB S rfl rfl ?_|refine qB S rfl rfl ?_|refine zu S ?_|refine lH S ?_));(first|refine off ?_|(refine tO ?_ ?_<;>intro hc))<;>(refine vl ?_;refine mv ?_;(first|refine off ?_|refine mv ?_);(first|refine off ?_|(first|refine cT ?_|refine cF ?_|(refine cS ?_ ?_<;>intro hc)))<;>((first|refine off ?_|refine mv ?_);(first|refine off ?_|(first|refine lB S rfl rfl ?_|refine qB S rfl rfl ?_|refine zu S ?_|refine lH S ?_));(first|refine off ?_|(first|refine vl ?_|refine fB S ?_|refine fS S rfl rfl ?_|refine fA ?_));(first|refine off ?_|(first|refine lB S rfl rfl ?_|refine qB S rfl rfl ?_|refine zu S ?_|refine lH S ?_));(first|refine off ?_|refine mv ?_);(first|refine off ?_|(first|refine sb ?_|refine vl ?_));(first|refine off ?_|(first|refine Qv S ?_|refine qF S rfl rfl ?_));(first|refine off ?_|(first|refine lB S rfl rfl ?_|refine qB S rfl rfl ?_|refine zu S ?_|refine lH S ?_));(first|(refine off ?_;(first|refine off ?_|refine vl ?_);refine vl ?_;refine qf ?_)|skip))))))|(refine qc 17 ?_;(iterate 3 refine mv ?_);refine qf ?_))))
    all_goals first
     | exact ⟨(),⟨S,⟨by rw [ht];omega,by rw [ht];exact zF3.1 (by assumption),.inr (by rw [ht];exact z)⟩⟩,(qy)⟩
     | (refine qC ⟨_,rfl,?_⟩;exact ⟨.inr ⟨_,_,rfl,hbad _ (qdc (by rw [ht];first|exact .inl (by omega)|exact .inr (.inl (by assumption))|exact .inr (.inr ⟨by omega,z⟩))) (by decide)⟩,S.drop⟩)
   clear S;rintro - h ⟨S,G⟩;all_goals (repeat' (first|refine qi ?_|refine qg rfl ?_|refine qj ?_|refine qo ?_|refine qh ?_|refine qp ?_|refine qw ?_|(refine qc 18 ?_;(first|refine vl ?_|refine fB S ?_|refine fS S rfl rfl ?_|refine fA ?_);(first|refine lB S rfl rfl ?_|refine qB S rfl rfl ?_|refine zu S ?_|refine lH S ?_);(first|refine vl ?_|refine fB S ?_|refine fS S rfl rfl ?_|refine fA ?_);(first|refine lB S rfl rfl ?_|refine qB S rfl rfl ?_|refine zu S ?_|refine lH S ?_))))
   (refine qx rfl rfl rfl rfl rfl ((J3 S.wf v.vg.val v.gs (hrg.ext w S.ext) (by omega) t.a).mono ?_);rintro _ h ⟨⟨j,j1,j2,rfl⟩|⟨j1,rfl⟩,x⟩)<;>(replace S:=S.qL x;clear x;(first|refine cT ?_|refine cF ?_|(refine cS ?_ ?_<;>intro hc))<;>(refine mv ?_;(first|refine off ?_|(first|refine vl ?_|refine fB S ?_|refine fS S rfl rfl ?_|refine fA ?_));(first|refine off ?_|(first|refine lB S rfl rfl ?_|refine qB S rfl rfl ?_|refine zu S ?_|refine lH S ?_));(first|refine off ?_|(first|refine vl ?_|refine fB S ?_|refine fS S rfl rfl ?_|refine fA ?_));(first|refine off ?_|(first|refine lB S rfl rfl ?_|refine qB S rfl rfl ?_|refine zu S ?_|refine lH S ?_));(first|(refine off ?_;(first|refine off ?_|(first|refine cT ?_|refine cF ?_|(refine cS ?_ ?_<;>intro hc)))<;>(refine vl ?_;refine qf ?_))|skip)))
   all_goals rw [HR.us] at j1
   rotate_left
   ·skip
    all_goals (repeat' (first|refine qi ?_|refine qg rfl ?_|refine qj ?_|refine qo ?_|refine qh ?_|refine qp ?_|refine qw ?_|(refine qc 18 ?_;(first|refine vl ?_|refine fB S ?_|refine fS S rfl rfl ?_|refine fA ?_);(first|refine lB S rfl rfl ?_|refine qB S rfl rfl ?_|refine zu S ?_|refine lH S ?_);(first|refine vl ?_|refine fB S ?_|refine fS S rfl rfl ?_|refine fA ?_);(first|refine lB S rfl rfl ?_|refine qB S rfl rfl ?_|refine zu S ?_|refine lH S ?_))|(refine qc 19 ?_;(iterate 3 refine mv ?_);refine qf ?_)))
    refine qC ⟨_,rfl,?_⟩;exact ⟨.inr ⟨_,_,rfl,hbad _ (G.e6 (.inl (by rw [ht];exact j1))) (by decide)⟩,S.drop⟩
   all_goals (repeat' (first|refine qi ?_|refine qg rfl ?_|refine qj ?_|refine qo ?_|refine qh ?_|refine qp ?_|refine qw ?_|(refine qc 18 ?_;(first|refine vl ?_|refine fB S ?_|refine fS S rfl rfl ?_|refine fA ?_);(first|refine lB S rfl rfl ?_|refine qB S rfl rfl ?_|refine zu S ?_|refine lH S ?_);(first|refine vl ?_|refine fB S ?_|refine fS S rfl rfl ?_|refine fA ?_);(first|refine lB S rfl rfl ?_|refine qB S rfl rfl ?_|refine zu S ?_|refine lH S ?_))))
   (refine qx rfl rfl rfl rfl rfl ((J3 S.wf v.vg.val v.gs (hrg.ext w S.ext) (by omega) t.b).mono ?_);rintro _ h ⟨⟨j',m1,m2,rfl⟩|⟨m1,rfl⟩,x⟩)<;>(replace S:=S.qL x;clear x;(first|refine off ?_|(first|refine cT ?_|refine cF ?_|(refine cS ?_ ?_<;>intro hc)))<;>(refine vl ?_;refine qf ?_))
   all_goals rw [HR.us] at m1
   rotate_left
   ·skip
    all_goals (repeat' (first|refine qi ?_|refine qg rfl ?_|refine qj ?_|refine qo ?_|refine qh ?_|refine qp ?_|refine qw ?_|(refine qc 18 ?_;(first|refine vl ?_|refine fB S ?_|refine fS S rfl rfl ?_|refine fA ?_);(first|refine lB S rfl rfl ?_|refine qB S rfl rfl ?_|refine zu S ?_|refine lH S ?_);(first|refine vl ?_|refine fB S ?_|refine fS S rfl rfl ?_|refine fA ?_);(first|refine lB S rfl rfl ?_|refine qB S rfl rfl ?_|refine zu S ?_|refine lH S ?_))|(refine qc 19 ?_;(iterate 3 refine mv ?_);refine qf ?_)))
    refine qC ⟨_,rfl,?_⟩;exact ⟨.inr ⟨_,_,rfl,hbad _ (G.e6 (.inr (by rw [ht];exact m1))) (by decide)⟩,S.drop⟩
   have hkn:¬ (gat r.us (r.ts.getD i default).a=none∨gat r.us (r.ts.getD i default).b=none):=by
    rw [ht,j1,m1];simp
   have hpr:((i:Int) - 1).toNat=i - 1:=by omega
   all_goals (repeat' (first|refine qi ?_|refine qg rfl ?_|refine qj ?_|refine qo ?_|refine qh ?_|refine qp ?_|refine qw ?_|(refine qc 18 ?_;(first|refine vl ?_|refine fB S ?_|refine fS S rfl rfl ?_|refine fA ?_);(first|refine lB S rfl rfl ?_|refine qB S rfl rfl ?_|refine zu S ?_|refine lH S ?_);(first|refine vl ?_|refine fB S ?_|refine fS S rfl rfl ?_|refine fA ?_);(first|refine lB S rfl rfl ?_|refine qB S rfl rfl ?_|refine zu S ?_|refine lH S ?_))))
   (repeat (refine qi ?_));first|refine PR (σ:=Unit) (fun _ h'=>Hs h0 h' [.blk b7 [str t.a,str t.b,.int .u8 t.k] 111,.blk b1 [v.vg.val,v.vt.val] 32]∧¬ (0<i∧¬ Zu (r.ts.getD (i - 1) default) (r.ts.getD i default))) (fun _=>[(1,.pointer (some ⟨b1,0,none⟩)),(6,.int .i64 i),(7,.pointer (some ⟨b7,0,none⟩)),(8,.int .i64 ((v.gs.length:Int)+i))]) ?_ ?_|refine Zj (σ:=Unit) (fun _ h'=>Hs h0 h' [.blk b7 [str t.a,str t.b,.int .u8 t.k] 111,.blk b1 [v.vg.val,v.vt.val] 32]∧¬ (0<i∧¬ Zu (r.ts.getD (i - 1) default) (r.ts.getD i default))) (fun _=>[(1,.pointer (some ⟨b1,0,none⟩)),(6,.int .i64 i),(7,.pointer (some ⟨b7,0,none⟩)),(8,.int .i64 ((v.gs.length:Int)+i))]) ?_ ?_
   ·all_goals (repeat' (first|refine qi ?_|refine qg rfl ?_|refine qj ?_|refine qo ?_|refine qh ?_|refine qp ?_|refine qw ?_|(refine qK 20 ?_;refine mv ?_;(first|refine cT ?_|refine cF ?_|(refine cS ?_ ?_<;>intro hc))<;>(refine mv ?_;(first|refine off ?_|(first|refine vl ?_|refine fB S ?_|refine fS S rfl rfl ?_|refine fA ?_));(first|refine off ?_|(first|refine lB S rfl rfl ?_|refine qB S rfl rfl ?_|refine zu S ?_|refine lH S ?_));(first|refine off ?_|refine mv ?_);(first|refine off ?_|(first|refine sb ?_|refine vl ?_));(first|refine off ?_|(first|refine Qv S ?_|refine qF S rfl rfl ?_));(first|refine off ?_|(first|refine lB S rfl rfl ?_|refine qB S rfl rfl ?_|refine zu S ?_|refine lH S ?_));(first|refine off ?_|(first|refine lB S rfl rfl ?_|refine qB S rfl rfl ?_|refine zu S ?_|refine lH S ?_));(first|(refine off ?_;(first|refine off ?_|refine vl ?_);refine vl ?_;refine qf ?_)|skip)))))
    ·simp only [hpr];(refine qx rfl rfl rfl rfl rfl ((yM S.wf (r.ts.getD (i - 1) default) t).mono ?_);rintro _ h ⟨⟨rfl,z⟩|⟨rfl,z⟩,x⟩)<;>(replace S:=S.qL x;clear x;(first|refine off ?_|refine vl ?_);refine vl ?_;refine qf ?_)
     ·all_goals (repeat' (first|refine qi ?_|refine qg rfl ?_|refine qj ?_|refine qo ?_|refine qh ?_|refine qp ?_|refine qw ?_|(refine qK 20 ?_;refine mv ?_;(first|refine cT ?_|refine cF ?_|(refine cS ?_ ?_<;>intro hc))<;>(refine mv ?_;(first|refine off ?_|(first|refine vl ?_|refine fB S ?_|refine fS S rfl rfl ?_|refine fA ?_));(first|refine off ?_|(first|refine lB S rfl rfl ?_|refine qB S rfl rfl ?_|refine zu S ?_|refine lH S ?_));(first|refine off ?_|refine mv ?_);(first|refine off ?_|(first|refine sb ?_|refine vl ?_));(first|refine off ?_|(first|refine Qv S ?_|refine qF S rfl rfl ?_));(first|refine off ?_|(first|refine lB S rfl rfl ?_|refine qB S rfl rfl ?_|refine zu S ?_|refine lH S ?_));(first|refine off ?_|(first|refine lB S rfl rfl ?_|refine qB S rfl rfl ?_|refine zu S ?_|refine lH S ?_));(first|(refine off ?_;(first|refine off ?_|refine vl ?_);refine vl ?_;refine qf ?_)|skip)))))
      exact ⟨(),⟨S,fun q=>q.2 (by rw [ht];exact z)⟩,(qy)⟩
     ·skip
      all_goals (repeat' (first|refine qi ?_|refine qg rfl ?_|refine qj ?_|refine qo ?_|refine qh ?_|refine qp ?_|refine qw ?_|(refine qK 20 ?_;refine mv ?_;(first|refine cT ?_|refine cF ?_|(refine cS ?_ ?_<;>intro hc))<;>(refine mv ?_;(first|refine off ?_|(first|refine vl ?_|refine fB S ?_|refine fS S rfl rfl ?_|refine fA ?_));(first|refine off ?_|(first|refine lB S rfl rfl ?_|refine qB S rfl rfl ?_|refine zu S ?_|refine lH S ?_));(first|refine off ?_|refine mv ?_);(first|refine off ?_|(first|refine sb ?_|refine vl ?_));(first|refine off ?_|(first|refine Qv S ?_|refine qF S rfl rfl ?_));(first|refine off ?_|(first|refine lB S rfl rfl ?_|refine qB S rfl rfl ?_|refine zu S ?_|refine lH S ?_));(first|refine off ?_|(first|refine lB S rfl rfl ?_|refine qB S rfl rfl ?_|refine zu S ?_|refine lH S ?_));(first|(refine off ?_;(first|refine off ?_|refine vl ?_);refine vl ?_;refine qf ?_)|skip)))|(refine qc 21 ?_;(iterate 3 refine mv ?_);refine qf ?_)))
      refine qC ⟨_,rfl,?_⟩;exact ⟨.inr ⟨_,_,rfl,hbad _ (G.e5 hil hts hkn ⟨by omega,by rw [ht];exact z⟩) (by decide)⟩,S.drop⟩
    ·exact ⟨(),⟨S,fun q=>by omega⟩,(qy)⟩
   clear S;rintro - h ⟨S,hb5⟩;all_goals (repeat' (first|refine qi ?_|refine qg rfl ?_|refine qj ?_|refine qo ?_|refine qh ?_|refine qp ?_|refine qw ?_|(refine qc 22 ?_;refine mv ?_;(first|refine cT ?_|refine cF ?_|(refine cS ?_ ?_<;>intro hc))<;>(refine qf ?_))))
   ·all_goals (repeat' (first|refine qi ?_|refine qg rfl ?_|refine qj ?_|refine qo ?_|refine qh ?_|refine qp ?_|refine qw ?_|(refine qc 23 ?_;(iterate 3 refine mv ?_);refine qf ?_)))
    refine qC ⟨_,rfl,?_⟩;exact ⟨.inr ⟨_,_,rfl,hbad _ (G.e7 hil hts hkn hb5 (by omega)) (by decide)⟩,S.drop⟩
   ·skip
    all_goals (repeat' (first|refine qi ?_|refine qg rfl ?_|refine qj ?_|refine qo ?_|refine qh ?_|refine qp ?_|refine qw ?_|(refine qc 13 ?_;refine mv ?_;(first|refine ad ?_|refine vl ?_);refine mv ?_;refine qf ?_)))
    refine ⟨i+1,?_,?_,qy⟩
    ·show r.ts.length - (i+1)<r.ts.length - i;omega
    ·exact ⟨S.tail,by omega,Zb k2 (G.e0 hil hts hkn hb5 (by omega))⟩
  ·have hi:i=r.ts.length:=by omega
   rw [hi] at k2;all_goals (repeat' (first|refine qi ?_|refine qg rfl ?_|refine qj ?_|refine qo ?_|refine qh ?_|refine qp ?_|refine qw ?_|(refine qc 24 ?_;refine mv ?_;refine mv ?_;refine qf ?_)))
   refine qC ⟨_,rfl,?_⟩;exact ⟨.inl ⟨rfl,g2,k2⟩,S.drop⟩
end Go.Proofs.Xx
namespace Go.Proofs.Xx
open Go Go.Proofs
def WI (n:Nat):Nat:=if n<256 then (lenTab.getD n 0).toNat else 8+(lenTab.getD (n / 256) 0).toNat
theorem gK:∀ n,n<512→0<n→WI n≤9∧n<2 ^ WI n∧2 ^ WI n≤2*n:=by decide +kernel
theorem qck (n:Nat) (h:n<512):WI n≤9:=by
 rcases zF4 n with q|q
 ·subst q;decide
 ·exact (gK n h q).1
abbrev cvT:Value:=.func (.func 82) #[] #[]
variable [Flag]
theorem qan {h0:AH} (w:WfH h0) (n:Nat) (hn:n<512):Fn Tryz.prog Xh 162 [.int .u64 n] h0 (fun v h'=>v = .int .i64 (WI n:Int)∧Hs h0 h' []):=by
 rcases zA7 n 256 with q|q
 ·have:=gQ w n q;unfold WI;rw [if_pos q];exact this
 unfold WI;rw [if_neg (by omega)];have S:=Hs.start w;have hl:=WJ;have hb:(lenTab.getD (n / 256) 0).toNat<256:=UInt8.toNat_lt _;refine qV rfl Tryz.func162 rfl rfl ?_;have e:(n:Int) / ((2 ^ min (Int.toNat 8) IntKind.u64.bits:Nat):Int)=((n / 256:Nat):Int):=by
  rw [show (2 ^ min (Int.toNat 8) IntKind.u64.bits:Nat)=256 by decide];rfl
 all_goals (repeat' (first|refine qi ?_|refine qg rfl ?_|refine qj ?_|refine qo ?_|refine qh ?_|refine qp ?_|refine qw ?_|(refine qc 0 ?_;refine mv ?_;refine qf ?_)|(refine qc 1 ?_;refine mv ?_;(first|refine cT ?_|refine cF ?_|(refine cS ?_ ?_<;>intro hc))<;>(refine qf ?_))|(refine qc 4 ?_;refine mv ?_;(first|refine cT ?_|refine cF ?_|(refine cS ?_ ?_<;>intro hc))<;>(refine qf ?_))|(refine qc 7 ?_;refine mv ?_;(first|refine cT ?_|refine cF ?_|(refine cS ?_ ?_<;>intro hc))<;>(refine qf ?_))|(refine qc 8 ?_;refine mv ?_;(first|refine sR1 ?_|refine sR ?_);refine mv ?_;refine qf ?_)|(refine qc 9 ?_;refine mv ?_;(first|refine ad ?_|refine vl ?_);refine mv ?_;refine qf ?_)))
 simp only [e];refine qc 10 ?_;refine mv ?_;refine mv ?_;refine cU ?_;refine ti (l:=lenTab) ?_;rw [zA0];(first|refine cI ?_|refine vl ?_);(first|refine ad ?_|refine vl ?_);refine mv ?_;refine qf ?_;all_goals (repeat' (first|refine qi ?_|refine qg rfl ?_|refine qj ?_|refine qo ?_|refine qh ?_|refine qp ?_|refine qw ?_|(refine qc 0 ?_;refine mv ?_;refine qf ?_)|(refine qc 1 ?_;refine mv ?_;(first|refine cT ?_|refine cF ?_|(refine cS ?_ ?_<;>intro hc))<;>(refine qf ?_))|(refine qc 2 ?_;refine mv ?_;(first|refine sR1 ?_|refine sR ?_);refine mv ?_;refine qf ?_)|(refine qc 3 ?_;refine mv ?_;refine qf ?_)|(refine qc 4 ?_;refine mv ?_;(first|refine cT ?_|refine cF ?_|(refine cS ?_ ?_<;>intro hc))<;>(refine qf ?_))|(refine qc 5 ?_;refine mv ?_;(first|refine sR1 ?_|refine sR ?_);refine mv ?_;refine qf ?_)|(refine qc 6 ?_;refine mv ?_;(first|refine ad ?_|refine vl ?_);refine mv ?_;refine qf ?_)|(refine qc 7 ?_;refine mv ?_;(first|refine cT ?_|refine cF ?_|(refine cS ?_ ?_<;>intro hc))<;>(refine qf ?_))|(refine qc 8 ?_;refine mv ?_;(first|refine sR1 ?_|refine sR ?_);refine mv ?_;refine qf ?_)|(refine qc 9 ?_;refine mv ?_;(first|refine ad ?_|refine vl ?_);refine mv ?_;refine qf ?_)|(refine qc 10 ?_;refine mv ?_;refine mv ?_;(first|refine cU ?_|refine vl ?_);(first|refine ti ?_|refine vl ?_);(first|refine cI ?_|refine vl ?_);(first|refine ad ?_|refine vl ?_);refine mv ?_;refine qf ?_)))
 refine qC ⟨_,rfl,?_⟩;exact ⟨by show Value.int .i64 (8+_)=_;rfl,S⟩
theorem Po {h0:AH} (w:WfH h0) (n:Nat) (hn:n<512):Fn Tryz.prog Xh 126 [.int .u64 n] h0 (fun v h'=>v = .int .i64 (WI n:Int)∧Hs h0 h' []):=by
 have S:=Hs.start w;refine qV rfl Tryz.func126 rfl rfl ?_;all_goals (repeat' (first|refine qi ?_|refine qg rfl ?_|refine qj ?_|refine qo ?_|refine qh ?_|refine qp ?_|refine qw ?_|(refine qc 0 ?_;refine mv ?_;refine qf ?_)|(refine qc 2 ?_;refine mv ?_)))
 (refine qx rfl rfl rfl rfl rfl ((qan S.wf n hn).mono ?_);rintro _ h ⟨rfl,x⟩)<;>(replace S:=S.qL x;clear x;refine mv ?_;refine qf ?_)
 all_goals (repeat' (first|refine qi ?_|refine qg rfl ?_|refine qj ?_|refine qo ?_|refine qh ?_|refine qp ?_|refine qw ?_|(refine qc 0 ?_;refine mv ?_;refine qf ?_)|(refine qc 1 ?_;refine mv ?_;refine cv32 ?_)|(refine qc 2 ?_;refine mv ?_)))
 refine qC ⟨_,rfl,?_⟩;exact ⟨rfl,S⟩
theorem qbb {h0:AH} (w:WfH h0) (n:Nat) (hn:0<n∧n<512):Fn Tryz.prog Xh 189 [.int .i64 n] h0 (fun v h'=>∃ P:Int,v = .int .u64 P∧(n:Int)<P∧P≤2*n∧Hs h0 h' []):=by
 have S:=Hs.start w;have hk:=gK n hn.2 hn.1;refine qV rfl Tryz.func189 rfl rfl ?_;all_goals (repeat' (first|refine qi ?_|refine qg rfl ?_|refine qj ?_|refine qo ?_|refine qh ?_|refine qp ?_|refine qw ?_|(refine qc 0 ?_;refine mv ?_;refine qf ?_)|(refine qc 1 ?_;refine mv ?_;(first|refine cW ?_|refine vl ?_))))
 (refine qx rfl rfl rfl rfl rfl ((Po S.wf n hn.2).mono ?_);rintro _ h ⟨rfl,x⟩)<;>(replace S:=S.qL x;clear x;(first|refine sL ?_|(refine aW ?_;intro r1 hr1 hr2));refine mv ?_;refine qf ?_)
 all_goals (repeat' (first|refine qi ?_|refine qg rfl ?_|refine qj ?_|refine qo ?_|refine qh ?_|refine qp ?_|refine qw ?_))
 refine qC ⟨_,rfl,?_⟩;refine ⟨_,rfl,?_,?_,S⟩
 ·have:(n:Int)<((2 ^ WI n:Nat):Int):=by exact_mod_cast hk.2.1
  simpa using this
 ·have:((2 ^ WI n:Nat):Int)≤((2*n:Nat):Int):=by exact_mod_cast hk.2.2
  simpa using this
end Go.Proofs.Xx
namespace Go.Proofs.Xx
open Go Go.Proofs
structure Ct where
 d:List UInt8
 n:Int
instance instInhCt:Inhabited Ct:=⟨⟨[],0⟩⟩
def jP (c:Ct):List Value:=[str c.d,.int .i64 c.n]
def ctV (c:Ct):Value:=.agg #[str c.d,.int .i64 c.n]
def jI (x y:Ct):Prop:=zB x.d y.d
theorem Qk:WOrd jI:=⟨fun x h=>zh x.d h,fun h1 h2=>jX h1 h2,fun h1 h2=>yg h1 h2⟩
abbrev ZF:Value:=.func (.func 110) #[] #[]
variable [Flag]
theorem jL {h0:AH} (w:WfH h0) (x y:Ct):Fn Tryz.prog Xh 110 [ctV x,ctV y] h0 (fun v h'=>∃ d,v = .int .i64 d∧((d<0∧jI x y)∨(0≤d∧¬ jI x y))∧Hs h0 h' []):=by
 have S:=Hs.start w;unfold ctV;refine qV rfl Tryz.func110 rfl rfl ?_;all_goals (repeat' (first|refine qi ?_|refine qg rfl ?_|refine qj ?_|refine qo ?_|refine qh ?_|refine qp ?_|refine qw ?_|(refine qc 0 ?_;(refine bx S ?_;clear S;intro b h S);(refine bx S ?_;clear S;intro b h S);refine mv ?_;refine qf ?_)|(refine qc 1 ?_;(first|refine vl ?_|refine fB S ?_|refine fS S rfl rfl ?_|refine fA ?_);(first|refine lB S rfl rfl ?_|refine qB S rfl rfl ?_|refine zu S ?_|refine lH S ?_);(first|refine vl ?_|refine fB S ?_|refine fS S rfl rfl ?_|refine fA ?_);(first|refine lB S rfl rfl ?_|refine qB S rfl rfl ?_|refine zu S ?_|refine lH S ?_);(refine tO ?_ ?_<;>intro hc)<;>(refine qf ?_))|(refine qc 2 ?_;refine mv ?_;refine qf ?_)|(refine qc 3 ?_;refine mv ?_;refine qf ?_)))
 all_goals (refine qC ⟨_,rfl,?_⟩)
 ·exact ⟨-1,rfl,.inl ⟨by decide,hc⟩,S.drop⟩
 ·exact ⟨1,rfl,.inr ⟨by decide,hc⟩,S.drop⟩
end Go.Proofs.Xx
