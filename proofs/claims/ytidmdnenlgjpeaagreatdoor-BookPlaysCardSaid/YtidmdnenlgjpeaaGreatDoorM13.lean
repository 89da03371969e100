/-
  Ties tied and untied: plain laws.
-/
import Derived.Test.YtidmdnenlgjpeaaGreatDoorM12
import Derived.Test.YtidmdnenlgjpeaaGreatDoorM9
set_option linter.unusedSimpArgs false
set_option linter.unusedVariables false
set_option linter.unusedSectionVars false
set_option maxRecDepth 100000
set_option maxHeartbeats 4000000
namespace Go.Proofs.Xx
open Go Go.Proofs
theorem Vs (a b:List UInt8):jY a b=jY b a:=by
 unfold jY;rcases Jy a b with h|h|h
 ·rw [if_neg (zZ h),if_pos h]
 ·subst h;rfl
 ·rw [if_pos h,if_neg (zZ h)]
theorem Vt (a b:List UInt8):jZ a b=jZ b a:=by
 unfold jZ;rcases Jy a b with h|h|h
 ·rw [if_pos h,if_neg (zZ h)]
 ·subst h;rfl
 ·rw [if_neg (zZ h),if_pos h]
theorem qcN {a b:List UInt8} (h:a≠b):zG (jY a b) (jZ a b)∧((jY a b=a∧jZ a b=b)∨(jY a b=b∧jZ a b=a)):=by
 rcases Jy a b with q|q|q
 ·rw [Z7 q,Z8 q];exact ⟨q,.inl ⟨rfl,rfl⟩⟩
 ·exact absurd q h
 ·rw [Vs,Vt,Z7 q,Z8 q];exact ⟨q,.inr ⟨rfl,rfl⟩⟩
theorem qei {ts:List Ti} (hs:TS ts) (y:Ti):∃ i,Plc ts y i:=by
 induction ts with
 | nil=>exact ⟨0,zA3 _,fun j hj=>absurd hj (zB7 _),fun j _ hj=>absurd hj (zB7 _)⟩
 | cons x r ih =>
  by_cases h:zW x y
  ·obtain ⟨i,i1,i2,i3⟩:=ih (zH7.1 hs).2;refine ⟨i+1,by simp;exact i1,fun j hj=>?_,fun j h1 h2=>?_⟩
   ·cases j with
    | zero=>exact h
    | succ j=>exact i2 j (by omega)
   ·cases j with
    | zero=>omega
    | succ j=>exact i3 j (by omega) (by simp at h2;omega)
  ·refine ⟨0,zB0 _,fun j hj=>absurd hj (zB7 _),fun j _ hj q=>h ?_⟩;rcases zF5 j with z|z
   ·subst z;exact q
   ·exact Qg (hs.lt z hj) q
theorem Plc.kind {ts:List Ti} {a b:List UInt8} {k k':Int} {i:Nat} (h:Plc ts ⟨a,b,k⟩ i):Plc ts ⟨a,b,k'⟩ i:=⟨h.1,h.2.1,h.2.2⟩
theorem qd3 {ts:List Ti} {a b:List UInt8} {k:Int} (hs:TS ts) (hn:¬ tied ts a b):∃ i,i≤ts.length∧kL ts (jW a b k)=ts.take i ++ jW a b k :: ts.drop i∧TS (kL ts (jW a b k)):=by
 obtain ⟨i,hi⟩:=qei hs ⟨jY a b,jZ a b,0⟩;have e:=xG (t:=jW a b k) (hi.kind (k':=k));refine ⟨i,hi.1,e,?_⟩;rw [e,TS,List.pairwise_append];refine ⟨List.Pairwise.sublist (List.take_sublist i ts) hs,zH7.2 ⟨fun y hy=>?_,List.Pairwise.sublist (List.drop_sublist i ts) hs⟩,fun x hx y hy=>?_⟩
 ·obtain ⟨j,hj,rfl⟩:=qL.1 hy;simp only [zB4] at hj;have ej:(ts.drop i).getD j default=ts.getD (i+j) default:=by
   rw [zA2,zA2,zC3]
  rw [ej];rcases Ye (ts.getD (i+j) default) (jW a b k) with q|q|q
  ·exact absurd q (hi.2.2 (i+j) (by omega) (by omega))
  ·exact absurd ⟨_,qM (show i+j<ts.length by omega),q⟩ hn
  ·exact q
 ·obtain ⟨j,hj,rfl⟩:=qL.1 hx;simp only [zA9] at hj;rw [getD_take (by omega)];have h1:=hi.2.1 j (by omega);rcases zE8.1 hy with rfl|hy
  ·exact h1
  ·obtain ⟨m,hm,rfl⟩:=qL.1 hy;simp only [zB4] at hm;have ej:(ts.drop i).getD m default=ts.getD (i+m) default:=by
    rw [zA2,zA2,zC3]
   rw [ej];exact hs.lt (by omega) (by omega)
theorem RO.tie {r:Rl} (H:RO r) {a b:List UInt8} {k:Int} (h:(ZH r a b k).2=0):RO (ZH r a b k).1:=by
 obtain ⟨h1,h2,h3,h4,h5,h6,h7⟩:=qaF h;rw [h7];obtain ⟨i,hi,e,hs⟩:=qd3 (k:=k) H.ts h5;obtain ⟨m1,m2⟩:=qcN h2;refine ⟨H.chk,H.nd,H.l64,hs,fun t ht=>?_,?_⟩
 ·simp only at ht;rw [e] at ht;have:t∈r.ts∨t=jW a b k:=by
   rcases zB8.1 ht with q|q
   ·exact .inl (List.mem_of_mem_take q)
   ·rcases zE8.1 q with q|q
    ·exact .inr q
    ·exact .inl (List.mem_of_mem_drop q)
  rcases this with q|rfl
  ·exact H.tt t q
  ·refine ⟨m1,h1,?_⟩;rcases m2 with ⟨e1,e2⟩|⟨e1,e2⟩
   ·show Xx.gat r.us (jY a b)≠none∧Xx.gat r.us (jZ a b)≠none
    rw [e1,e2];exact ⟨h3,h4⟩
   ·show Xx.gat r.us (jY a b)≠none∧Xx.gat r.us (jZ a b)≠none
    rw [e1,e2];exact ⟨h4,h3⟩
 ·simp only;rw [e];simp;omega
theorem RO.qe0 {r:Rl} (H:RO r) (a b:List UInt8):RO (Qj r a b).1:=by
 unfold Qj;split
 ·refine ⟨H.chk,H.nd,H.l64,List.Pairwise.sublist List.filter_sublist H.ts,fun t ht=>H.tt t (zE0.1 ht).1,?_⟩;have:=zF0 (fun t:Ti=>!decide (t.a=jY a b∧t.b=jZ a b)) r.ts;have:=H.l256;show (qaD r.ts a b).length≤256
  unfold qaD;omega
 ·exact H
def QK (ts:List Ti) (a b:List UInt8):Option Ti:=ts.find? fun t=>decide (t.a=jY a b∧t.b=jZ a b)
theorem WZ (ts:List Ti) (a b:List UInt8):QK ts a b=QK ts b a:=by unfold QK;rw [Vs a b,Vt a b]
theorem QU {ts:List Ti} {a b:List UInt8} {t:Ti} (h:QK ts a b=some t):t∈ts∧t.a=jY a b∧t.b=jZ a b:=by
 have h1:=List.find?_some h;exact ⟨List.mem_of_find?_eq_some h,by simpa using h1⟩
theorem pJ {ts:List Ti} {a b:List UInt8} (h:QK ts a b=none):¬ tied ts a b:=by
 rintro ⟨t,ht,h1,h2⟩;have:=List.find?_eq_none.1 h t ht;simp [h1,h2] at this
theorem Jh {ts:List Ti} {a b:List UInt8} {t:Ti} (hs:TS ts) (ht:t∈ts) (h1:t.a=jY a b) (h2:t.b=jZ a b):QK ts a b=some t:=by
 cases h:QK ts a b with
 | none=>exact absurd ⟨t,ht,h1,h2⟩ (pJ h)
 | some u =>
  obtain ⟨hu,u1,u2⟩:=QU h;obtain ⟨i,hi,rfl⟩:=qL.1 ht;obtain ⟨j,hj,rfl⟩:=qL.1 hu;rcases zE7 i j with q|q|q
  ·rcases hs.lt q hj with y|y
   ·rw [h1,u1] at y;exact absurd y (zA _)
   ·rw [h2,u2] at y;exact absurd y.2 (zA _)
  ·rw [q]
  ·rcases hs.lt q hi with y|y
   ·rw [h1,u1] at y;exact absurd y (zA _)
   ·rw [h2,u2] at y;exact absurd y.2 (zA _)
def tkd (o:Option Ti):Value:=match o with|some t=>.tuple #[.int .u8 t.k,.bool true]|none=>.tuple #[.int .u8 0,.bool false]
variable [Flag]
theorem qbr {h0:AH} (w:WfH h0) {p:Nat} {r:Rl} (B:BkRd h0 p r) (H:RO r) (a b:List UInt8):Fn Tryz.prog Xh 36 [.pointer (some ⟨p,0,none⟩),str a,str b] h0 (fun u h'=>u=tkd (QK r.ts a b)∧Hs h0 h' []) :=
 (qcD w B H a b).mono fun u h' q=>by
  refine ⟨?_,q.2⟩;rcases q.1 with ⟨t,h1,h2,h3,h4⟩|⟨h1,h2⟩
  ·rw [Jh H.ts h1 h2 h3,h4];rfl
  ·cases h:QK r.ts a b with
   | none=>rw [h2];rfl
   | some t=>exact absurd ⟨t,QU h⟩ h1
end Go.Proofs.Xx
namespace Go.Proofs.Xx
open Go Go.Proofs
theorem Vq {r:Rl} (H:RO r) {k:Int} {a b:List UInt8} (h:adj r k a b):∃ t,QK r.ts a b=some t∧t.k=k:=by
 obtain ⟨t,h1,h2,h3⟩:=h;have hlt:=(H.tt t h1).1;refine ⟨t,?_,h2⟩;rcases h3 with ⟨rfl,rfl⟩|⟨rfl,rfl⟩
 ·exact Jh H.ts h1 (Z7 hlt).symm (Z8 hlt).symm
 ·rw [WZ];exact Jh H.ts h1 (Z7 hlt).symm (Z8 hlt).symm
theorem VP {r:Rl} {a b:List UInt8} {t:Ti} (h:QK r.ts a b=some t):adj r t.k a b:=by
 obtain ⟨h1,h2,h3⟩:=QU h;refine ⟨t,h1,rfl,?_⟩;by_cases q:zG b a
 ·have e1:jY a b=b:=if_pos q;have e2:jZ a b=a:=if_neg (zZ q);exact .inr ⟨by rw [h3,e2],by rw [h2,e1]⟩
 ·have e1:jY a b=a:=if_neg q;refine .inl ⟨by rw [h2,e1],?_⟩;rw [h3];unfold jZ;split
  ·rfl
  ·rename_i q2
   rcases Zr q with e|e
   ·exact e
   ·exact absurd e q2
variable [Flag]
end Go.Proofs.Xx
namespace Go.Proofs.Xx
open Go Go.Proofs
variable [Flag]
theorem qdl {h0 h:AH} {rs:List Rs} {v:SlV} {l:List Qi} (i:Nat) (hi:i<l.length) (hl:l.length≤1000000) (S:Hs h0 h (.sl v.val 24 9 eG l :: rs)) :
 Fn Tryz.prog Xh 90 [v.val,.int .i64 i,.int .i64 ((i:Int)+1)] h (fun u h'=>Hs h0 h' (.sl u 24 9 eG (l.take i ++ l.drop (i+1)) :: rs)):=by
 have S0:=S;obtain ⟨f1,k1,k2,k3⟩:=S.sep;have hr:=Rd.jm S .here;rcases k1 with ⟨-,rfl⟩|⟨b,o,cc,slk,cap,e1,g1,fb,t1,c1,s1⟩
 ·simp at hi
 rw [e1] at hr ⊢;have hb:=g1;have w:=S.wf;have hcc:o+cap*9≤cc.length:=c1.2;replace S:=Hs.start S.wf;have hfl:=zl (enc:=eG) (z:=9) (by intro _;rfl) l;have hcap:=c1.1;refine qZ rfl Tryz.func90 rfl rfl ?_;all_goals (repeat' (first|refine qg ?_|(refine qc 0 ?_;refine qK ?_)|(refine qc 1 ?_;refine qE ?_;refine qE ?_;refine Zx S ?_)))
 refine rw3 (l:=i) (r:=i+1) (m:=l.length) hb w (fun ha ca=>?_);have xa:Ext h ha:=⟨ca.next,fun j hj=>by
  by_cases q:j=b
  ·subst q;rw [ca.at_,hb]
  ·exact ca.old j q hj,ca.wf⟩
 have ra:=hr.ext w xa;have wa:=ca.wf;have ba:=ca.at_;clear S;have S:=Hs.start wa;(refine qf ?_);all_goals (repeat' (first|refine qg ?_|refine qh rfl ?_|refine qj ?_|(refine qc 2 ?_;refine qE ?_;(refine cF ?_)<;>(refine qf ?_))|(refine qc 4 ?_;refine mv ?_;refine Zx S ?_;refine qK ?_)|(refine qJ 5 ?_;refine qE ?_)))
 refine rw2 (l:=0) (r:=i) ba (fun o2 q1 _=>?_);rw [show o2=o by have:=q1 (by omega);omega];refine qE ?_;refine rw2 (l:=i+1) (r:=l.length) ba (fun o3 q3 q4=>?_);have ru:Rd ha (.slice (some ⟨b,o3,none⟩) (l.length - (i+1)) (cap - (i+1))) 9 (l.length - (i+1)) ((l.drop (i+1)).flatMap eG):=by
  refine .inr ⟨b,o3,_,cc,24,slk,false,rfl,ba,?_⟩;rcases zA7 (i+1) cap with z|z
  ·have z1:=q3 z;have z2:o3=o+(i+1)*9:=z1;have:=jS (i:=(i+1)*9) (m:=(l.length - (i+1))*9) t1 (by omega);rw [z2,this,jl (z:=9) (by intro _;rfl),zF9 (by rw [zB4,hfl];omega)]
  ·rw [show l.length - (i+1)=0 by omega,List.drop_of_length_le (by omega)];rfl
 have hone:((l.drop (i+1)).flatMap eG).all one? = true:=by
  rw [zC8];intro x hx;obtain ⟨y,-,hy⟩:=zH1.1 hx;simp [eG] at hy
  rcases hy with rfl|rfl|rfl|rfl|rfl|rfl|rfl|rfl|rfl<;>rfl
 refine rwa (z:=9) ba wa ru (fun hd cd=>?_);(refine qK ?_);have hln:l.length - (i - 0+(l.length - (i+1)))=1:=by omega
 (repeat (refine qg ?_));refine qc 6 ?_;refine qE ?_;refine vl ?_;refine mv ?_;refine rw2 (l:=i - 0+(l.length - (i+1))) (r:=l.length) cd.at_ (fun o4 q5 _=>?_);have q6:=q5 (by omega);have hq6:o4=o+(i - 0+(l.length - (i+1)))*9:=q6;have hsl:(splice cc (o+(i - 0)*9) ((l.drop (i+1)).flatMap eG)).length=cc.length:=qU _ _ _ (by rw [zl (z:=9) (by intro _;rfl),zB4];omega);refine rwc cd.at_ cd.wf (fun he ce=>?_) (hfit:=?_);rotate_left
 ·rw [hsl];show o4+(l.length - (i - 0+(l.length - (i+1))))*9≤cc.length
  omega
 (refine qf ?_)
 all_goals (repeat' (first|refine qg ?_|(refine qc 7 ?_;refine qX ?_)))
 refine qC ⟨_,rfl,?_⟩;have C:=(ca.trans cd).trans ce;have hm:∀ a c:Nat,a - 0+c=a+c:=fun a c=>by omega
 have hlen:(l.take i ++ l.drop (i+1)).length=i - 0+(l.length - (i+1)):=by rw [zB2,zA9,zB4];omega
 have hzl:(zg (Value.agg #[Value.string { data:=#[] },Value.string { data:=#[] },Value.string { data:=#[] },Value.int IntKind.i64 0,Value.int IntKind.i64 0,Value.string { data:=#[] },Value.bool false,Value.bool false,Value.slice none 0 0]).cells.toList (l.length - (i - 0+(l.length - (i+1))))).length=(i+1)*9 - i*9:=by
  rw [JQ,hln];show 1*9=_;omega
 have hdrop:=jl (enc:=eG) (z:=9) (by intro _;rfl) l (i+1);have htake:=jk (enc:=eG) (z:=9) (by intro _;rfl) l i;show Hs h0 he (.sl (.slice (some ⟨b,o,none⟩) (i - 0+(l.length - (i+1))) (cap - 0)) 24 9 eG (l.take i ++ l.drop (i+1)) :: rs)
 refine S0.turn .here C.next C.wf fun fp p1 p2=>?_
 rcases p1 with ⟨p1,-⟩|⟨b2,o2,cc2,sl2,cap2,p1,-,p3,-⟩
 ·rw [p1] at e1;cases e1
 obtain rfl:b2=b:=by rw [p1] at e1;cases e1;rfl
 refine ⟨fun j hj hf=>C.old j (fun q=>by subst q;exact hf p3) hj,fun j=>j=b2,.inr ⟨b2,o,_,slk,cap - 0,by rw [hlen],C.at_,rfl,?_,⟨by rw [hlen];omega,?_⟩,s1⟩,fun j hj=>?_⟩
 ·rw [hlen];have hg:∀ j,j<l.length*9→cc[o+j]? = (l.flatMap eG)[j]?:=fun j hj=>Ji t1 hj;have D:=qap (zr:=zg (Value.agg #[Value.string { data:=#[] },Value.string { data:=#[] },Value.string { data:=#[] },Value.int IntKind.i64 0,Value.int IntKind.i64 0,Value.string { data:=#[] },Value.bool false,Value.bool false,Value.slice none 0 0]).cells.toList (l.length - (i - 0+(l.length - (i+1))))) (a:=i*9) (b:=(i+1)*9) (z:=9) hg hfl (by omega) hzl (by omega);rw [hdrop,hq6,Nat.sub_zero,show (i+(l.length - (i+1)))*9=i*9+(l.length*9 - (i+1)*9) by omega];have e2:(l.take i ++ l.drop (i+1)).flatMap eG=(l.flatMap eG).take (i*9) ++ (l.flatMap eG).drop ((i+1)*9):=by rw [List.flatMap_append,htake,hdrop]
  rw [e2];rw [Nat.sub_zero] at D;refine Xl ?_ ?_ D
  ·rw [zB2,zA9,zB4,hfl];omega
  ·rw [qU,qU]
   ·omega
   ·rw [zB4,hfl];omega
   ·rw [qU _ _ _ (by rw [zB4,hfl];omega)];have hz2:=hzl;simp only [Nat.sub_zero] at hz2 ⊢;rw [hz2];omega
 ·rw [qU,hsl]
  ·show o+(cap - 0)*9≤_;omega
  ·rw [hsl,hzl];omega
 ·subst hj;exact ⟨C.wf.lt C.at_,.inl p3⟩
end Go.Proofs.Xx
namespace Go.Proofs.Xx
open Go Go.Proofs
section
variable {P:Program} {X:Extern} {sz:Nat} {L L':Ks} {h h0:AH} {rs:List Rs} {ops:Array Oper} {os:List Oper} {o:Oper} {R:Ks→AH→Prop}
theorem qgf {α:Type} {b:Nat} {enc:α→Value} {l:List (List UInt8×α)} {rs':List Rs} {x:Operand} {ty kt et:TypeId} (S:Hs h0 h rs) (a:At rs (.mp b enc l)) (u:Ut rs (.mp b enc l) (.mp b enc []) rs') (w:∀ h',Hs h0 h' rs'→KO P X sz ops os L' h' R)
 (ho:o.op = .call { callee:=.builtin .clear,args:=#[x],argTypes:=#[ty] }:=by exact rfl) (hg:qF ops L.tree o.guard=some true:=by exact rfl) (hx:kA L x=some (.map (some b)):=by exact rfl) (hu:P.underlying ty=some (.map kt et):=by exact rfl) (hp:qW sz L o.dst (.tuple #[])=some L':=by exact rfl):KO P X sz ops (o :: os) L h R:=by
 obtain ⟨es,clock,h1,h2,h3,h4⟩:=xU S a;refine zT (v:=.tuple #[]) (h':=h.put b (.map [] clock)) hg ?_ hp (w _ (S.qbG (es2:=[]) u rfl (fun e he=>by cases he) List.Pairwise.nil));rw [ho];simp [jB,qY hx,jO,jF,Xy,hu,Yj,h1]
end
variable [Flag]
theorem GK {h0 h:AH} {rs:List Rs} {p m:Nat} {vg vt:SlV} {gs:List Qi} {mp:List (List UInt8×Int)} (S:Hs h0 h (.mp m (.int .i64) mp :: .blk p [vg.val,vt.val,.map (some m)] 86 :: .sl vg.val 24 9 eG gs :: rs)) (hl:gs.length≤64) (nd:∀ i j,i<j→j<gs.length→(gs.getD i default).name≠(gs.getD j default).name) :
 Fn Tryz.prog Xh 93 [.pointer (some ⟨p,0,none⟩)] h (fun _ h'=>∃ mp',AtOk mp' (gs.map (·.toGu))∧Hs h0 h' (.mp m (.int .i64) mp' :: .blk p [vg.val,vt.val,.map (some m)] 86 :: .sl vg.val 24 9 eG gs :: rs)):=by
 refine qZ rfl Tryz.func93 rfl rfl ?_;all_goals (repeat' (first|refine qg ?_|(refine qc 0 ?_;refine Jc ?_;refine lB S rfl rfl ?_)))
 refine qgf S .here .here (fun h S=>?_);(refine qf ?_);all_goals (repeat' (first|refine qg ?_|refine qi ?_|(refine qc 1 ?_;refine Qz ?_;refine lB S rfl rfl ?_;refine ZJ S rfl rfl ?_;refine qK ?_)))
 refine qH (σ:=Nat×List (List UInt8×Int)) (fun (i,mp) h'=>Hs h0 h' (.mp m (.int .i64) mp :: .blk p [vg.val,vt.val,.map (some m)] 86 :: .sl vg.val 24 9 eG gs :: rs)∧i≤gs.length∧AtOk mp ((gs.map (·.toGu)).take i)) (fun (i,mp)=>gs.length - i) (fun (i,mp)=>[(0,.pointer (some ⟨p,0,none⟩)),(12,vg.val),(13,.int .i64 gs.length),(14,.int .i64 i)]) (0,[]) qo ?_ ?_
 ·exact ⟨S,zB0 _,fun n=>rfl⟩
 clear S;rintro ⟨i,mp⟩ h ⟨S,g1,g2⟩;all_goals (repeat' (first|refine qg ?_|refine qh rfl ?_|refine qj ?_|refine qw ?_|refine qi ?_|(refine qc 2 ?_;(first|(refine cS ?_ ?_<;>intro hc))<;>(refine qf ?_))))
 ·all_goals (repeat' (first|(refine qc 3 ?_;refine mv ?_;refine qy S rfl rfl ?_;refine qI S rfl rfl ?_;(refine al S ?_;clear S;intro b h S);refine mv ?_;(first|(refine sB S rfl rfl ?_;clear S;intro h S));refine qf ?_)|(refine qJ 4 ?_;refine Jc ?_;refine lB S rfl rfl ?_;refine vl ?_;refine lB S rfl rfl ?_;refine mv ?_)))
  simp only [zA0] at S;simp only [zA0];replace S:Hs h0 h (.blk b (eG (gs.getD i default)) 24 :: .mp m (.int .i64) mp :: .blk p [vg.val,vt.val,.map (some m)] 86 :: .sl vg.val 24 9 eG gs :: rs):=S;refine up (x:=(i:Int)) (key:=(gs.getD i default).name) S (.there .here) (.there .here) (fun h S=>?_) (.inl rfl);(refine qf ?_);all_goals (repeat' (first|(refine qc 5 ?_;refine jR ?_)))
  refine ⟨(i+1,Ql mp (gs.getD i default).name i),?_,?_,qo⟩
  ·show gs.length - (i+1)<gs.length - i;omega
  ·refine ⟨S.tail,by (try dsimp only);omega,?_⟩;dsimp only;have hil:i<(gs.map (·.toGu)).length:=by simp;omega
   have e:(gs.map (·.toGu)).getD i default=(gs.getD i default).toGu:=zf (f:=fun g:Qi=>g.toGu) (by omega);have hlen:((gs.map (·.toGu)).take i).length=i:=by simp;omega
   rw [qQ hil,e];have:=g2.app (g:=(gs.getD i default).toGu) (Zi.2 fun g hg=>by
    obtain ⟨j,hj,rfl⟩:=qL.1 hg;rw [hlen] at hj;rw [getD_take hj,zf (f:=fun g:Qi=>g.toGu) (by omega)];exact nd j i hj (by omega))
   rwa [hlen] at this
 ·obtain rfl:i=gs.length:=by omega
  refine ⟨_,rfl,?_⟩;rw [zF9 (by simp)] at g2;exact ⟨mp,g2,S⟩
end Go.Proofs.Xx
namespace Go.Proofs.Xx
open Go Go.Proofs
def yV (n:List UInt8) (t:Ti):Prop:=t.a=n∨t.b=n
instance (n:List UInt8) (t:Ti):Decidable (yV n t):=inferInstanceAs (Decidable (_∨_))
def cvN (b:Nat):Value:=.func (.func 92) #[] #[.pointer (some ⟨b,0,none⟩)]
def jK (n:List UInt8) (t:Ti):Bool:=!decide (yV n t)
theorem Y6 {n:List UInt8} {t:Ti} (h:¬ yV n t):jK n t=true:=by unfold jK;rw [decide_eq_false h];rfl
theorem Y7 {n:List UInt8} {t:Ti} (h:yV n t):jK n t=false:=by unfold jK;rw [decide_eq_true h];rfl
variable [Flag]
theorem qaf {h0:AH} (w:WfH h0) {b3:Nat} {n:List UInt8} (hb:h0.get b3=some (.cells [str n] 9 none false)) (t:Ti):Fn Tryz.prog Xh 92 [pq t,.pointer (some ⟨b3,0,none⟩)] h0 (fun v h'=>Zm v (yV n t)∧Hs h0 h' []):=by
 have S:=Hs.start w;unfold pq;refine qZ rfl Tryz.func92 rfl rfl ?_;all_goals (repeat' (first|refine qg ?_|(refine qc 0 ?_;(refine bx S ?_;clear S;intro b h S);refine qK ?_)|(refine qc 1 ?_;refine vl ?_;refine lB S rfl rfl ?_;refine lH S ?_;(refine tS ?_ ?_<;>intro hc)<;>(refine mv ?_;(first|refine off ?_|(refine vl ?_));(first|refine off ?_|(refine lB S rfl rfl ?_));(first|refine off ?_|(refine lH S ?_));(first|refine off ?_|(refine tS ?_ ?_<;>intro hc))<;>(refine Jb ?_)))))
 all_goals (refine qC ⟨_,rfl,?_⟩)
 ·exact ⟨.inl ⟨rfl,.inl hc⟩,S.drop⟩
 ·exact ⟨.inl ⟨rfl,.inr (by assumption)⟩,S.drop⟩
 ·exact ⟨.inr ⟨rfl,fun q=>q.elim (by assumption) (by assumption)⟩,S.drop⟩
theorem qdd {h0:AH} (w:WfH h0) {b3:Nat} {n:List UInt8} (hb:h0.get b3=some (.cells [str n] 9 none false)) (v:Value) (l:List Ti) (hr:Qh h0 v 3 zh l) (hl:l.length≤1000000) :
 Fn Tryz.prog Xh 137 [v,cvN b3] h0 (fun u h'=>((u = .int .i64 (-1)∧∀ i,i<l.length→¬ yV n (l.getD i default))∨∃ i:Nat,u = .int .i64 i∧i<l.length∧yV n (l.getD i default)∧∀ j,j<i→¬ yV n (l.getD j default))∧Hs h0 h' []):=by
 have S:=Hs.start w;unfold cvN;refine qZ rfl Tryz.func137 rfl rfl ?_;all_goals (repeat' (first|refine qg ?_|refine qi ?_|(refine qc 0 ?_;refine qK ?_)|(refine qc 1 ?_;refine mv ?_;refine Zx S ?_;refine qK ?_)))
 refine qH (σ:=Nat) (fun i h'=>Hs h0 h' []∧i≤l.length∧∀ j,j<i→¬ yV n (l.getD j default)) (fun i=>l.length - i) (fun i=>[(0,v),(1,cvN b3),(7,.int .i64 l.length),(8,.int .i64 i)]) 0 qo ?_ ?_
 ·exact ⟨S,zB0 _,fun j hj=>absurd hj (zB7 _)⟩
 clear S;rintro i h ⟨S,g1,g2⟩;unfold cvN;all_goals (repeat' (first|refine qg ?_|refine qh rfl ?_|refine qj ?_|refine qw ?_|refine qi ?_|(refine qc 2 ?_;(first|(refine cS ?_ ?_<;>intro hc))<;>(refine qf ?_))))
 ·all_goals (repeat' (first|refine qg ?_|(refine qc 3 ?_;refine qX ?_)|(refine qc 4 ?_;refine qE ?_;refine mv ?_;refine QN S ?_;refine jQ S ?_)))
  simp only [zA0];(refine zx rfl rfl rfl rfl ((qaf S.wf (S.ext.get w hb) (l.getD i default)).mono ?_);rintro _ h ⟨⟨rfl,z⟩|⟨rfl,z⟩,x⟩)<;>(replace S:=S.qN x;clear x;refine qf ?_)
  ·all_goals (repeat' (first|refine qg ?_|refine qh rfl ?_|(refine qc 5 ?_;refine qX ?_)))
   refine qC ⟨_,rfl,?_⟩;exact ⟨.inr ⟨i,rfl,by omega,z,g2⟩,S⟩
  ·all_goals (repeat' (first|refine qh rfl ?_|refine qj ?_|(refine qc 6 ?_;refine jR ?_)))
   refine ⟨i+1,?_,?_,qo⟩
   ·show l.length - (i+1)<l.length - i;omega
   ·exact ⟨S,by omega,Ze g2 z⟩
 ·skip
  all_goals (repeat' (first|(refine qc 7 ?_;refine qK ?_)))
  refine qC ⟨_,rfl,?_⟩;exact ⟨.inl ⟨rfl,fun j hj=>g2 j (by omega)⟩,S⟩
theorem qdm {h0 h:AH} {rs:List Rs} {v:SlV} {l:List Ti} {b3:Nat} {n:List UInt8} (hl:l.length≤1000000) (S:Hs h0 h (.sl v.val 111 3 zh l :: .blk b3 [str n] 9 :: rs)) :
 Fn Tryz.prog Xh 91 [v.val,cvN b3] h (fun u h'=>Hs h0 h' (.sl u 111 3 zh (l.filter (jK n)) :: .blk b3 [str n] 9 :: rs)):=by
 refine qZ rfl Tryz.func91 rfl rfl ?_;all_goals (repeat' (first|refine qg ?_|(refine qc 0 ?_;refine qK ?_)|(refine qc 1 ?_;refine qE ?_)))
 (refine qx rfl rfl rfl rfl rfl ((qdd S.wf (jV S (.there .here)) v.val l (Rd.jm S .here) hl).mono ?_);rintro _ h ⟨⟨rfl,z⟩|⟨i0,rfl,z1,z2,z3⟩,x⟩)<;>(replace S:=S.qN x;clear x;refine qK ?_)
 ·all_goals (repeat' (first|refine qg ?_|refine qh rfl ?_|(refine qc 2 ?_;refine mv ?_;(refine cT ?_)<;>(refine qf ?_))|(refine qc 3 ?_;refine qX ?_)))
  refine qC ⟨_,rfl,?_⟩;rw [zI0.2 fun t ht=>by
   obtain ⟨j,hj,rfl⟩:=qL.1 ht;exact Y6 (z j hj)]
  exact S
 ·all_goals (repeat' (first|refine qg ?_|refine qh rfl ?_|refine qj ?_|refine qi ?_|(refine qc 2 ?_;refine mv ?_;(refine cF ?_)<;>(refine qf ?_))|(refine qc 4 ?_;refine qO ?_)))
  have hst:l.take i0=(l.take (i0+1)).filter (jK n):=by
   rw [qQ z1,zD1,zD8,Y7 z2,zI0.2 fun t ht=>by
    obtain ⟨j,hj,rfl⟩:=qL.1 ht;simp only [zA9] at hj;rw [getD_take (by omega)];exact Y6 (z3 j (by omega))]
   simp
  refine qH (σ:=Nat×Nat×List Ti) (fun (i,j,m) h'=>Hs h0 h' (.sl v.val 111 3 zh m :: .blk b3 [str n] 9 :: rs)∧(i<j∧j≤l.length)∧m.length=l.length∧m.take i=(l.take j).filter (jK n)∧∀ k,j≤k→k<l.length→m.getD k default=l.getD k default) (fun (i,j,m)=>l.length - j) (fun (i,j,m)=>[(0,v.val),(1,cvN b3),(5,.int .i64 i),(6,.int .i64 j)]) (i0,i0+1,l) qo ?_ ?_
  ·exact ⟨S,by (try dsimp only);omega,rfl,hst,fun _ _ _=>rfl⟩
  clear S;rintro ⟨i,j,m⟩ h ⟨S,k1,k2,k3,k4⟩;unfold cvN;all_goals (repeat' (first|refine qg ?_|refine qh rfl ?_|refine qj ?_|refine qw ?_|refine qi ?_|(refine qc 5 ?_;refine qE ?_;refine ZJ S rfl rfl ?_;(first|(refine cS ?_ ?_<;>intro hc))<;>(refine qf ?_))))
  ·have hjl:j<l.length:=by omega
   all_goals (repeat' (first|refine qg ?_|(refine qc 7 ?_;refine qE ?_;refine qy S rfl rfl ?_;refine qI S rfl rfl ?_;(refine al S ?_;clear S;intro b h S);(first|(refine sB S rfl rfl ?_;clear S;intro h S));refine qf ?_)|(refine qc 8 ?_;refine mv ?_;refine lB S rfl rfl ?_)))
   simp only [zA0] at S;simp only [zA0];rw [k4 j (zA3 _) hjl] at S;simp only [k4 j (zA3 _) hjl];replace S:Hs h0 h (.blk b (zh (l.getD j default)) 111 :: .sl v.val 111 3 zh m :: .blk b3 [str n] 9 :: rs):=S;(refine zx rfl rfl rfl rfl ((qaf S.wf (jV S (.there (.there .here))) (l.getD j default)).mono ?_);rintro _ h ⟨⟨rfl,y⟩|⟨rfl,y⟩,x⟩)<;>(replace S:=S.qN x;clear x;refine zU ?_)
   ·all_goals (repeat' (first|refine qh rfl ?_|refine qj ?_|(refine qc 6 ?_;refine qO ?_)))
    refine ⟨(i,j+1,m),?_,?_,qo⟩
    ·show l.length - (j+1)<l.length - j;omega
    ·refine ⟨S.tail,by (try dsimp only);omega,k2,?_,fun k q1 q2=>k4 k (by (try dsimp only at q1);omega) q2⟩;dsimp only;rw [qQ hjl,zD1,zD8,Y7 y,k3];simp
   ·all_goals (repeat' (first|refine qg ?_|refine qh rfl ?_|(refine qc 9 ?_;refine qE ?_;refine lB S rfl rfl ?_;refine qy S rfl rfl ?_;(first|(refine zY S rfl rfl ?_;clear S;intro h S));refine qf ?_)))
    simp only [zA0] at S;all_goals (repeat' (first|(refine qc 6 ?_;refine qO ?_)|(refine qc 10 ?_;refine qO ?_)))
    refine ⟨(i+1,j+1,m.set i (l.getD j default)),?_,?_,qo⟩
    ·show l.length - (j+1)<l.length - j;omega
    ·have hset:∀ k,(m.set i (l.getD j default)).getD k default=if k=i then l.getD j default else m.getD k default:=fun k=>jC _ _ (by omega) k
     refine ⟨S.tail,by (try dsimp only);omega,by simp;exact k2,?_,fun k q1 q2=>?_⟩
     ·dsimp only;rw [qQ hjl,zD1,zD8,Y6 y,← k3,qQ (by simp;omega),hset,if_pos rfl];congr 1
      apply QH (by simp)
      intro k hk;simp only [zA9,zF6] at hk;rw [getD_take (by omega),getD_take (by omega),hset,if_neg (by omega)]
     ·dsimp only at q1 ⊢;rw [hset,if_neg (by omega)];exact k4 k (by omega) q2
  ·have hj:j=l.length:=by omega
   subst hj;rw [zD4] at k3;have S0:=S;obtain ⟨f1,p1,p2,p3⟩:=S.sep;have hbb:=jV S (.there .here);rcases p1 with ⟨-,e0⟩|⟨b,o,cc,slk,cap,e1,g1,fb,t1,c1,s1⟩
   ·rw [e0] at k2;simp at k2;omega
   rw [e1];have w:=S.wf;have hfl:=zl (enc:=zh) (z:=3) (by intro _;rfl) m;have hcap:=c1.1;have hcc:=c1.2;(repeat (refine qg ?_));refine qc 11 ?_;refine qE ?_;refine rw2 (l:=i) (r:=m.length) g1 (fun o2 q1 _=>?_);have q2:o2=o+i*3:=q1 (by omega);refine rwc g1 w (fun hd cd=>?_) (hfit:=?_);rotate_left
   ·show o2+(m.length - i)*3≤cc.length
    omega
   (refine qf ?_)
   (repeat (refine qg ?_));refine qc 12 ?_;refine qE ?_;refine rw2 (l:=0) (r:=i) cd.at_ (fun o3 q3 _=>?_);have q4:o3=o:=by have:=q3 (by omega);omega
   (refine qK ?_)
   all_goals (repeat' (fail))
   refine qC ⟨_,rfl,?_⟩;have hfil:l.filter (jK n)=m.take i:=k3.symm;have htl:(m.take i).length=i:=by simp;omega
   show Hs h0 hd (.sl (.slice (some ⟨b,o3,none⟩) (i - 0) (cap - 0)) 111 3 zh (l.filter (jK n)) :: .blk b3 [str n] 9 :: rs)
   rw [hfil,q4];have htake:=jk (enc:=zh) (z:=3) (by intro _;rfl) m i;have hzl:(zg (Value.agg #[Value.string { data:=#[] },Value.string { data:=#[] },Value.int IntKind.u8 0]).cells.toList (m.length - i)).length=(m.length - i)*3:=JQ _ _;refine S0.turn .here cd.next cd.wf fun fp p1 p2=>?_
   rcases p1 with ⟨p1,-⟩|⟨b2,o5,cc2,sl2,cap2,p1,-,p3,-⟩
   ·rw [p1] at e1;cases e1
   obtain rfl:b2=b:=by rw [p1] at e1;cases e1;rfl
   refine ⟨fun j hj hf=>cd.old j (fun q=>by subst q;exact hf p3) hj,fun j=>j=b2,.inr ⟨b2,o,_,slk,cap - 0,by rw [htl];rfl,cd.at_,rfl,?_,⟨by rw [htl];omega,?_⟩,s1⟩,fun j hj=>?_⟩
   ·rw [htl,htake];refine Xl ?_ ?_ fun k hk=>?_
    ·rw [zA9,hfl];omega
    ·rw [qU _ _ _ (by rw [hzl];omega)];omega
    ·rw [zV _ _ _ (by rw [hzl];omega),if_pos (by omega),zC7,if_pos hk];exact Ji t1 (by omega)
   ·rw [qU _ _ _ (by rw [hzl];omega)];show o+(cap - 0)*3≤_
    omega
   ·subst hj;exact ⟨cd.wf.lt cd.at_,.inl p3⟩
end Go.Proofs.Xx
namespace Go.Proofs.Xx
open Go Go.Proofs
variable [Flag]
theorem xB {h0 h:AH} {rs:List Rs} {v:Value} {l:List (List UInt8)} (S:Hs h0 h (.sl v 9 1 eS l :: rs)) (hl:l.length≤1000000) :
 Fn Tryz.prog Xh 76 [v] h (fun _ h'=>Hs h0 h' (.sl v 9 1 eS l.reverse :: rs)):=by
 refine qZ rfl Tryz.func76 rfl rfl ?_;all_goals (repeat' (first|refine qg ?_|refine qh rfl ?_|refine qj ?_|refine qw ?_|refine qi ?_|refine zo ?_|refine zq ?_|(refine qc 0 ?_;refine mv ?_;(first|refine Zx S ?_|refine ZJ S rfl rfl ?_);(first|refine sb ?_|refine vl ?_);refine qX ?_)))
 refine qH (σ:=Nat×List (List UInt8)) (fun (i,m) h'=>Hs h0 h' (.sl v 9 1 eS m :: rs)∧2*i≤l.length+1∧m.length=l.length∧(∀ k,k<l.length→m.getD k default=l.getD (if k<i∨l.length - 1 - i<k then l.length - 1 - k else k) default)) (fun (i,m)=>l.length - i) (fun (i,m)=>[(0,v),(2,.int .i64 i),(3,.int .i64 ((l.length:Int) - 1 - i))]) (0,l) qo ?_ ?_
 ·exact ⟨S,by omega,rfl,fun k hk=>by rw [if_neg (by omega)]⟩
 clear S;rintro ⟨i,m⟩ h ⟨S,g1,g2,g3⟩;all_goals (repeat' (first|refine qg ?_|refine qh rfl ?_|refine qj ?_|refine qw ?_|refine qi ?_|refine zo ?_|refine zq ?_|(refine qc 1 ?_;refine qE ?_;(first|refine cT ?_|refine cF ?_|(refine cS ?_ ?_<;>intro hc))<;>(refine qf ?_))|(refine qc 2 ?_;refine mv ?_;(first|refine ad ?_|refine vl ?_);refine mv ?_;(first|refine sb ?_|refine vl ?_);refine qX ?_)|(refine qJ 3 ?_;refine qE ?_;refine qE ?_;refine qE ?_;(first|refine QN S ?_|refine qy S rfl rfl ?_);(first|refine lB S rfl rfl ?_|refine qI S rfl rfl ?_|refine jQ S ?_|refine lH S ?_);refine qE ?_;(first|refine QN S ?_|refine qy S rfl rfl ?_);(first|refine lB S rfl rfl ?_|refine qI S rfl rfl ?_|refine jQ S ?_|refine lH S ?_);(first|refine QN S ?_|refine qy S rfl rfl ?_);(first|(refine sB S rfl rfl ?_;clear S;intro h S)|(refine zY S rfl rfl ?_;clear S;intro h S));(first|refine QN S ?_|refine qy S rfl rfl ?_);(first|(refine sB S rfl rfl ?_;clear S;intro h S)|(refine zY S rfl rfl ?_;clear S;intro h S));refine qf ?_)))
 ·have e:((l.length:Int) - 1 - (i:Int)).toNat=l.length - 1 - i:=by omega
  simp only [zA0,e] at S;have s1:∀ k,((m.set i (m.getD (l.length - 1 - i) default)).set (l.length - 1 - i) (m.getD i default)).getD k default=if k=l.length - 1 - i then m.getD i default else if k=i then m.getD (l.length - 1 - i) default else m.getD k default:=fun k=>by
   rw [jC _ _ (by simp;omega) k,jC _ _ (by omega) k]
  refine ⟨(i+1,(m.set i (m.getD (l.length - 1 - i) default)).set (l.length - 1 - i) (m.getD i default)),?_,?_,qo⟩
  ·show l.length - (i+1)<l.length - i;omega
  ·refine ⟨S,by (try dsimp only);omega,by simp;exact g2,fun k hk=>?_⟩;rw [s1];split
   ·rename_i q
    rw [g3 i (by omega),if_neg (by omega),if_pos (by omega)];congr 1;omega
   ·split
    ·rename_i q q2
     rw [g3 _ (by omega),if_neg (by omega),if_pos (by omega),q2]
    ·rename_i q q2
     rw [g3 k hk];congr 1
     split<;>split<;>omega
 ·refine ⟨_,rfl,?_⟩;have:m=l.reverse:=QH (by simp;exact g2) fun k hk=>by
   rw [g3 k (by omega),zA2,zA2,List.getElem?_reverse (by omega)];congr 2
   split<;>omega
  rw [← this];exact S
end Go.Proofs.Xx
namespace Go.Proofs.Xx
open Go Go.Proofs
def cvC (b:Nat):Value:=.func (.func 78) #[] #[.pointer (some ⟨b,0,none⟩)]
def ZK (g:Qi) (t:List UInt8):Bool:=decide (t∈g.tg)
theorem X9 {g:Qi} {t:List UInt8} (h:t∈g.tg):ZK g t=true:=decide_eq_true h
theorem yf {g:Qi} {t:List UInt8} (h:¬ t∈g.tg):ZK g t=false:=decide_eq_false h
def y9 (r:Rl) (a b:List UInt8):List (List UInt8):=match gat r.us a,gat r.us b with
 | some i,some j=>(r.us.getD i default).tg.filter fun t=>decide (t∈(r.us.getD j default).tg)
 | _,_=>[]
def spk (r:Rl) (a b:List UInt8):Prop:=∃ i j,gat r.us a=some i∧gat r.us b=some j∧∃ t,t∈(r.us.getD i default).tg∧t∈(r.us.getD j default).tg
theorem spk.symm {r:Rl} {a b:List UInt8} (h:spk r a b):spk r b a:=by
 obtain ⟨i,j,h1,h2,t,h3,h4⟩:=h;exact ⟨j,i,h2,h1,t,h4,h3⟩
theorem spk.kn {r:Rl} {a b:List UInt8} (h:spk r a b):gat r.us a≠none∧gat r.us b≠none:=by
 obtain ⟨i,j,h1,h2,t,h3,h4⟩:=h;rw [h1,h2];simp
theorem J9 {r:Rl} {a b:List UInt8}:0<(y9 r a b).length↔spk r a b:=by
 unfold y9 spk;cases h1:gat r.us a with
 | none=>simp
 | some i =>
  cases h2:gat r.us b with
  | none=>simp
  | some j =>
   simp only [List.length_pos_iff_exists_mem,zE0,decide_eq_true_eq];constructor
   ·rintro ⟨t,h⟩;exact ⟨i,j,rfl,rfl,t,h⟩
   ·rintro ⟨i',j',e1,e2,t,h⟩;cases e1;cases e2;exact ⟨t,h⟩
variable [Flag]
theorem qdc {h0:AH} (w:WfH h0) (v:Value) (l:List (List UInt8)) (r:Qh h0 v 1 eS l) (hl:l.length≤1000000) (n:List UInt8):Fn Tryz.prog Xh 129 [v,str n] h0 (fun u h'=>((u = .int .i64 (-1)∧¬ n∈l)∨∃ i:Nat,u = .int .i64 i∧i≤1000000∧n∈l)∧Hs h0 h' []):=by
 have S:=Hs.start w;refine qZ rfl Tryz.func129 rfl rfl ?_;all_goals (repeat' (first|refine qg ?_|refine qi ?_|(refine qc 0 ?_;refine qK ?_)|(refine qc 1 ?_;refine mv ?_;refine Zx S ?_;refine qK ?_)))
 refine qH (σ:=Nat) (fun i h'=>Hs h0 h' []∧i≤l.length∧∀ j,j<i→l.getD j default≠n) (fun i=>l.length - i) (fun i=>[(0,v),(1,str n),(7,.int .i64 l.length),(8,.int .i64 i)]) 0 qo ?_ ?_
 ·exact ⟨S,zB0 _,fun j hj=>absurd hj (zB7 _)⟩
 clear S;rintro i h ⟨S,g1,g2⟩;all_goals (repeat' (first|refine qg ?_|refine qh rfl ?_|refine qj ?_|refine qw ?_|refine qi ?_|(refine qc 2 ?_;(first|(refine cS ?_ ?_<;>intro hc))<;>(refine qf ?_))|(refine qc 3 ?_;refine qX ?_)|(refine qc 4 ?_;refine qE ?_;refine mv ?_;refine QN S ?_;refine jQ S ?_;(refine tS ?_ ?_<;>intro hc)<;>(refine qf ?_))|(refine qc 5 ?_;refine qX ?_)|(refine qc 6 ?_;refine jR ?_)|(refine qc 7 ?_;refine qK ?_)))
 all_goals (try simp only [zA0] at *)
 ·refine qC ⟨_,rfl,?_⟩;have hm:=qM (show i<l.length by omega);exact ⟨.inr ⟨i,rfl,by omega,by rw [hc];exact hm⟩,S⟩
 ·refine ⟨i+1,?_,?_,qo⟩
  ·show l.length - (i+1)<l.length - i;omega
  ·exact ⟨S,by omega,Ze g2 fun q=>hc q.symm⟩
 ·refine qC ⟨_,rfl,?_⟩;refine ⟨.inl ⟨rfl,fun q=>?_⟩,S⟩;obtain ⟨j,h1,h2⟩:=qL.1 q;exact g2 j (by omega) h2
theorem qdn {h0:AH} (w:WfH h0) (v:Value) (l:List (List UInt8)) (r:Qh h0 v 1 eS l) (hl:l.length≤1000000) (n:List UInt8):Fn Tryz.prog Xh 79 [v,str n] h0 (fun u h'=>Zm u (n∈l)∧Hs h0 h' []):=by
 have S:=Hs.start w;refine qZ rfl Tryz.func79 rfl rfl ?_;all_goals (repeat' (first|refine qg ?_|(refine qc 0 ?_;refine qK ?_)|(refine qc 1 ?_;refine qE ?_)))
 (refine qx rfl rfl rfl rfl rfl ((qdc S.wf v l (r.ext w S.ext) hl n).mono ?_);rintro _ h ⟨⟨rfl,z⟩|⟨i,rfl,z1,z⟩,x⟩)<;>(replace S:=S.qN x;clear x;(first|refine cT ?_|refine cF ?_)<;>(refine qK ?_))
 ·all_goals (repeat' (fail))
  refine qC ⟨_,rfl,?_⟩;exact ⟨.inr ⟨rfl,z⟩,S⟩
 ·skip
  all_goals (repeat' (fail))
  refine qC ⟨_,rfl,?_⟩;exact ⟨.inl ⟨rfl,z⟩,S⟩
theorem qar {h0:AH} (w:WfH h0) {b:Nat} {g:Qi} (hb:h0.get b=some (.cells (eG g) 24 none false)) (hg:Qh h0 g.tv.val 1 eS g.tg) (hl:g.tg.length≤1000000) (t:List UInt8):Fn Tryz.prog Xh 78 [str t,.pointer (some ⟨b,0,none⟩)] h0 (fun v h'=>Zm v (¬ t∈g.tg)∧Hs h0 h' []):=by
 have S:=Hs.start w;unfold eG at hb;refine qZ rfl Tryz.func78 rfl rfl ?_;all_goals (repeat' (first|refine qg ?_|(refine qc 0 ?_;refine qK ?_)|(refine qc 1 ?_;refine vl ?_;refine lH S ?_;refine mv ?_)))
 (refine qx rfl rfl rfl rfl rfl ((qdn S.wf g.tv.val g.tg (hg.ext w S.ext) hl t).mono ?_);rintro _ h ⟨⟨rfl,z⟩|⟨rfl,z⟩,x⟩)<;>(replace S:=S.qN x;clear x;refine Jb ?_)
 ·all_goals (repeat' (fail))
  refine qC ⟨_,rfl,?_⟩;exact ⟨.inr ⟨rfl,fun q=>q z⟩,S⟩
 ·skip
  all_goals (repeat' (fail))
  refine qC ⟨_,rfl,?_⟩;exact ⟨.inl ⟨rfl,z⟩,S⟩
theorem qde {h0:AH} (w:WfH h0) {b:Nat} {g:Qi} (hb:h0.get b=some (.cells (eG g) 24 none false)) (hg:Qh h0 g.tv.val 1 eS g.tg) (hgl:g.tg.length≤1000000) (v:Value) (l:List (List UInt8)) (hr:Qh h0 v 1 eS l) (hl:l.length≤1000000) :
 Fn Tryz.prog Xh 128 [v,cvC b] h0 (fun u h'=>((u = .int .i64 (-1)∧∀ i,i<l.length→l.getD i default∈g.tg)∨∃ i:Nat,u = .int .i64 i∧i<l.length∧¬ l.getD i default∈g.tg∧∀ j,j<i→l.getD j default∈g.tg)∧Hs h0 h' []):=by
 have S:=Hs.start w;unfold cvC;refine qZ rfl Tryz.func128 rfl rfl ?_;all_goals (repeat' (first|refine qg ?_|refine qi ?_|(refine qc 0 ?_;refine qK ?_)|(refine qc 1 ?_;refine mv ?_;refine Zx S ?_;refine qK ?_)))
 refine qH (σ:=Nat) (fun i h'=>Hs h0 h' []∧i≤l.length∧∀ j,j<i→l.getD j default∈g.tg) (fun i=>l.length - i) (fun i=>[(0,v),(1,cvC b),(7,.int .i64 l.length),(8,.int .i64 i)]) 0 qo ?_ ?_
 ·exact ⟨S,zB0 _,fun j hj=>absurd hj (zB7 _)⟩
 clear S;rintro i h ⟨S,g1,g2⟩;unfold cvC;all_goals (repeat' (first|refine qg ?_|refine qh rfl ?_|refine qj ?_|refine qw ?_|refine qi ?_|(refine qc 2 ?_;(first|(refine cS ?_ ?_<;>intro hc))<;>(refine qf ?_))))
 ·all_goals (repeat' (first|refine qg ?_|(refine qc 3 ?_;refine qX ?_)|(refine qc 4 ?_;refine qE ?_;refine mv ?_;refine QN S ?_;refine jQ S ?_)))
  simp only [zA0];(refine zx rfl rfl rfl rfl ((qar S.wf (S.ext.get w hb) (hg.ext w S.ext) hgl (l.getD i default)).mono ?_);rintro _ h ⟨⟨rfl,z⟩|⟨rfl,z⟩,x⟩)<;>(replace S:=S.qN x;clear x;refine qf ?_)
  ·all_goals (repeat' (first|refine qg ?_|refine qh rfl ?_|(refine qc 5 ?_;refine qX ?_)))
   refine qC ⟨_,rfl,?_⟩;exact ⟨.inr ⟨i,rfl,by omega,z,g2⟩,S⟩
  ·all_goals (repeat' (first|refine qh rfl ?_|refine qj ?_|(refine qc 6 ?_;refine jR ?_)))
   refine ⟨i+1,?_,?_,qo⟩
   ·show l.length - (i+1)<l.length - i;omega
   ·exact ⟨S,by omega,Ze g2 (zF4.1 z)⟩
 ·skip
  all_goals (repeat' (first|(refine qc 7 ?_;refine qK ?_)))
  refine qC ⟨_,rfl,?_⟩;exact ⟨.inl ⟨rfl,fun j hj=>g2 j (by omega)⟩,S⟩
theorem qdk {h0 h:AH} {rs:List Rs} {v:SlV} {l:List (List UInt8)} {b:Nat} {g:Qi} (hl:l.length≤1000000) (hgl:g.tg.length≤1000000) (S:Hs h0 h (.sl v.val 9 1 eS l :: .blk b (eG g) 24 :: .sl g.tv.val 9 1 eS g.tg :: rs)) :
 Fn Tryz.prog Xh 77 [v.val,cvC b] h (fun u h'=>Hs h0 h' (.sl u 9 1 eS (l.filter (ZK g)) :: .blk b (eG g) 24 :: .sl g.tv.val 9 1 eS g.tg :: rs)):=by
 refine qZ rfl Tryz.func77 rfl rfl ?_;all_goals (repeat' (first|refine qg ?_|(refine qc 0 ?_;refine qK ?_)|(refine qc 1 ?_;refine qE ?_)))
 (refine qx rfl rfl rfl rfl rfl ((qde S.wf (jV S (.there .here)) (Rd.jm S (.there (.there .here))) hgl v.val l (Rd.jm S .here) hl).mono ?_);rintro _ h ⟨⟨rfl,z⟩|⟨i0,rfl,z1,z2,z3⟩,x⟩)<;>(replace S:=S.qN x;clear x;refine qK ?_)
 ·all_goals (repeat' (first|refine qg ?_|refine qh rfl ?_|(refine qc 2 ?_;refine mv ?_;(refine cT ?_)<;>(refine qf ?_))|(refine qc 3 ?_;refine qX ?_)))
  refine qC ⟨_,rfl,?_⟩;rw [zI0.2 fun t ht=>by
   obtain ⟨j,hj,rfl⟩:=qL.1 ht;exact X9 (z j hj)]
  exact S
 ·all_goals (repeat' (first|refine qg ?_|refine qh rfl ?_|refine qj ?_|refine qi ?_|(refine qc 2 ?_;refine mv ?_;(refine cF ?_)<;>(refine qf ?_))|(refine qc 4 ?_;refine qO ?_)))
  have hst:l.take i0=(l.take (i0+1)).filter (ZK g):=by
   rw [qQ z1,zD1,zD8,yf z2,zI0.2 fun t ht=>by
    obtain ⟨j,hj,rfl⟩:=qL.1 ht;simp only [zA9] at hj;rw [getD_take (by omega)];exact X9 (z3 j (by omega))]
   simp
  refine qH (σ:=Nat×Nat×List (List UInt8)) (fun (i,j,m) h'=>Hs h0 h' (.sl v.val 9 1 eS m :: .blk b (eG g) 24 :: .sl g.tv.val 9 1 eS g.tg :: rs)∧(i<j∧j≤l.length)∧m.length=l.length∧m.take i=(l.take j).filter (ZK g)∧∀ k,j≤k→k<l.length→m.getD k default=l.getD k default) (fun (i,j,m)=>l.length - j) (fun (i,j,m)=>[(0,v.val),(1,cvC b),(5,.int .i64 i),(6,.int .i64 j)]) (i0,i0+1,l) qo ?_ ?_
  ·exact ⟨S,by (try dsimp only);omega,rfl,hst,fun _ _ _=>rfl⟩
  clear S;rintro ⟨i,j,m⟩ h ⟨S,k1,k2,k3,k4⟩;unfold cvC;all_goals (repeat' (first|refine qg ?_|refine qh rfl ?_|refine qj ?_|refine qw ?_|refine qi ?_|(refine qc 5 ?_;refine qE ?_;refine ZJ S rfl rfl ?_;(first|(refine cS ?_ ?_<;>intro hc))<;>(refine qf ?_))))
  ·have hjl:j<l.length:=by omega
   all_goals (repeat' (first|refine qg ?_|(refine qc 7 ?_;refine qE ?_;refine qy S rfl rfl ?_;refine qI S rfl rfl ?_;refine qK ?_)|(refine qc 8 ?_;refine qE ?_)))
   simp only [zA0] at *;simp only [k4 j (zA3 _) hjl] at *;(refine zx rfl rfl rfl rfl ((qar S.wf (jV S (.there .here)) (Rd.jm S (.there (.there .here))) hgl (l.getD j default)).mono ?_);rintro _ h ⟨⟨rfl,y⟩|⟨rfl,y⟩,x⟩)<;>(replace S:=S.qN x;clear x;refine zU ?_)
   ·all_goals (repeat' (first|refine qh rfl ?_|refine qj ?_|(refine qc 6 ?_;refine qO ?_)))
    refine ⟨(i,j+1,m),?_,?_,qo⟩
    ·show l.length - (j+1)<l.length - j;omega
    ·refine ⟨S,by (try dsimp only);omega,k2,?_,fun k q1 q2=>k4 k (by (try dsimp only at q1);omega) q2⟩;dsimp only;rw [qQ hjl,zD1,zD8,yf y,k3];simp
   ·have y:=zF4.1 y;all_goals (repeat' (first|refine qg ?_|refine qh rfl ?_|(refine qc 9 ?_;refine qE ?_;refine mv ?_;refine qy S rfl rfl ?_;(first|(refine zY S rfl rfl ?_;clear S;intro h S));refine qf ?_)))
    simp only [zA0] at S;all_goals (repeat' (first|(refine qc 6 ?_;refine qO ?_)|(refine qc 10 ?_;refine qO ?_)))
    refine ⟨(i+1,j+1,m.set i (l.getD j default)),?_,?_,qo⟩
    ·show l.length - (j+1)<l.length - j;omega
    ·have hset:∀ k,(m.set i (l.getD j default)).getD k default=if k=i then l.getD j default else m.getD k default:=fun k=>jC _ _ (by omega) k
     refine ⟨S,by (try dsimp only);omega,by simp;exact k2,?_,fun k q1 q2=>?_⟩
     ·dsimp only;rw [qQ hjl,zD1,zD8,X9 y,← k3,qQ (by simp;omega),hset,if_pos rfl];congr 1
      apply QH (by simp)
      intro k hk;simp only [zA9,zF6] at hk;rw [getD_take (by omega),getD_take (by omega),hset,if_neg (by omega)]
     ·dsimp only at q1 ⊢;rw [hset,if_neg (by omega)];exact k4 k (by omega) q2
  ·have hj:j=l.length:=by omega
   subst hj;rw [zD4] at k3;have S0:=S;obtain ⟨f1,p1,p2,p3⟩:=S.sep;rcases p1 with ⟨-,e0⟩|⟨b2,o,cc,slk,cap,e1,g1,fb,t1,c1,s1⟩
   ·rw [e0] at k2;simp at k2;omega
   rw [e1];have w:=S.wf;have hfl:=zl (enc:=eS) (z:=1) (by intro _;rfl) m;have hcap:=c1.1;have hcc:=c1.2;(repeat (refine qg ?_));refine qc 11 ?_;refine qE ?_;refine rw2 (l:=i) (r:=m.length) g1 (fun o2 q1 _=>?_);have q2:o2=o+i*1:=q1 (by omega);refine rwc g1 w (fun hd cd=>?_) (hfit:=?_);rotate_left
   ·show o2+(m.length - i)*1≤cc.length
    omega
   (refine qf ?_)
   (repeat (refine qg ?_));refine qc 12 ?_;refine qE ?_;refine rw2 (l:=0) (r:=i) cd.at_ (fun o3 q3 _=>?_);have q4:o3=o:=by have:=q3 (by omega);omega
   (refine qK ?_)
   all_goals (repeat' (fail))
   refine qC ⟨_,rfl,?_⟩;have hfil:l.filter (ZK g)=m.take i:=k3.symm;have htl:(m.take i).length=i:=by simp;omega
   show Hs h0 hd (.sl (.slice (some ⟨b2,o3,none⟩) (i - 0) (cap - 0)) 9 1 eS (l.filter (ZK g)) :: .blk b (eG g) 24 :: .sl g.tv.val 9 1 eS g.tg :: rs)
   rw [hfil,q4];have htake:=jk (enc:=eS) (z:=1) (by intro _;rfl) m i;have hzl:(zg (Value.string { data:=#[] }).cells.toList (m.length - i)).length=(m.length - i)*1:=JQ _ _;refine S0.turn .here cd.next cd.wf fun fp p1 p2=>?_
   rcases p1 with ⟨p1,-⟩|⟨b3,o5,cc2,sl2,cap2,p1,-,p3,-⟩
   ·rw [p1] at e1;cases e1
   obtain rfl:b3=b2:=by rw [p1] at e1;cases e1;rfl
   refine ⟨fun j hj hf=>cd.old j (fun q=>by subst q;exact hf p3) hj,fun j=>j=b3,.inr ⟨b3,o,_,slk,cap - 0,by rw [htl];rfl,cd.at_,rfl,?_,⟨by rw [htl];omega,?_⟩,s1⟩,fun j hj=>?_⟩
   ·rw [htl,htake];refine Xl ?_ ?_ fun k hk=>?_
    ·rw [zA9,hfl];omega
    ·rw [qU _ _ _ (by rw [hzl];omega)];omega
    ·rw [zV _ _ _ (by rw [hzl];omega),if_pos (by omega),zC7,if_pos hk];exact Ji t1 (by omega)
   ·rw [qU _ _ _ (by rw [hzl];omega)];show o+(cap - 0)*1≤_
    omega
   ·subst hj;exact ⟨cd.wf.lt cd.at_,.inl p3⟩
theorem wP {h0:AH} (w:WfH h0) {p:Nat} {r:Rl} (B:BkRd h0 p r) (H:RO r) (na nb:List UInt8):Fn Tryz.prog Xh 30 [.pointer (some ⟨p,0,none⟩),str na,str nb] h0 (fun u h'=>∃ l,Hs h0 h' [.sl u 9 1 eS l]∧l=y9 r na nb∧l.length≤4):=by
 have S:=Hs.start w;refine qZ rfl Tryz.func30 rfl rfl ?_;all_goals (repeat' (first|refine qg ?_|(refine qc 0 ?_;refine qK ?_)|(refine qc 1 ?_;refine qE ?_)))
 (refine qx rfl rfl rfl rfl rfl ((find_ok S.wf (B.ext w S.ext) H na).mono ?_);rintro _ h (⟨i,tv,q1,rfl,x⟩|⟨q1,rfl,x⟩))<;>((first|replace S:=S.zQ x|replace S:=S.qN x);clear x;refine Jc ?_;(refine al S ?_;clear S;intro b h S);(first|(refine sB S rfl rfl ?_;clear S;intro h S));refine qK ?_)
 all_goals (all_goals (repeat' (first|refine qg ?_|(refine qc 2 ?_;refine qE ?_))))
 all_goals (obtain ⟨b7,hnm⟩:∃ x,x=b:=⟨_,rfl⟩;subst hnm)
 ·(refine qx rfl rfl rfl rfl rfl ((find_ok S.wf (B.ext w S.ext) H nb).mono ?_);rintro _ h (⟨j,tv2,q2,rfl,x⟩|⟨q2,rfl,x⟩))<;>((first|replace S:=S.zQ x|replace S:=S.qN x);clear x;refine Jc ?_;(refine al S ?_;clear S;intro b h S);(first|(refine sB S rfl rfl ?_;clear S;intro h S));refine qK ?_)
  all_goals (all_goals (repeat' (first|refine qg ?_|refine qh rfl ?_|refine qj ?_|(refine qc 3 ?_;refine mv ?_;refine vl ?_;refine mv ?_;refine Jc ?_;refine qf ?_)|(refine qc 4 ?_;refine qK ?_))))
  all_goals (obtain ⟨b9,hnm⟩:∃ x,x=b:=⟨_,rfl⟩;subst hnm)
  ·obtain ⟨i1,i2,-⟩:=jo q1;obtain ⟨j1,j2,-⟩:=jo q2;have t1:=(QI (H.chk _ (qM i1))).2.2.2.1;have t2:=(QI (H.chk _ (qM j1))).2.2.2.1;replace S:Hs h0 h (.blk b9 (eG ⟨r.us.getD j default,tv2⟩) 24 :: .sl tv2.val 9 1 eS (r.us.getD j default).tg :: .blk b7 (eG ⟨r.us.getD i default,tv⟩) 24 :: .sl tv.val 9 1 eS (r.us.getD i default).tg :: []):=S;unfold eG at S;all_goals (repeat' (first|(refine qc 5 ?_;refine vl ?_;refine lB S rfl rfl ?_;refine vl ?_)))
   replace S:Hs h0 h (.blk b9 (eG ⟨r.us.getD j default,tv2⟩) 24 :: .sl tv2.val 9 1 eS (r.us.getD j default).tg :: .blk b7 (eG ⟨r.us.getD i default,tv⟩) 24 :: .sl tv.val 9 1 eS (r.us.getD i default).tg :: []):=S;have S:=(show Hs h0 h (.sl tv.val 9 1 eS (r.us.getD i default).tg :: .blk b9 (eG ⟨r.us.getD j default,tv2⟩) 24 :: .sl tv2.val 9 1 eS (r.us.getD j default).tg :: .blk b7 (eG ⟨r.us.getD i default,tv⟩) 24 :: []) from S.pick)
   (refine qx rfl rfl rfl rfl rfl ((qdk (g:=⟨r.us.getD j default,tv2⟩) (zD0 t1 (by decide)) (zD0 t2 (by decide)) S).mono ?_);rintro _ h S)<;>(refine qK ?_)
   all_goals (repeat' (fail))
   refine qC ⟨_,rfl,?_⟩;have hle:=zF0 (ZK ⟨r.us.getD j default,tv2⟩) (r.us.getD i default).tg;exact ⟨_,S.only .here,by simp [y9,q1,q2];rfl,zD0 hle t1⟩
  ·refine qC ⟨_,rfl,?_⟩;exact ⟨[],(S.Qb (e:=9) (z:=1) (enc:=eS)).only .here,by simp [y9,q1,q2],by simp⟩
 ·(refine qx rfl rfl rfl rfl rfl ((find_ok S.wf (B.ext w S.ext) H nb).mono ?_);rintro _ h (⟨j,tv2,q2,rfl,x⟩|⟨q2,rfl,x⟩))<;>((first|replace S:=S.zQ x|replace S:=S.qN x);clear x;refine Jc ?_;(refine al S ?_;clear S;intro b h S);(first|(refine sB S rfl rfl ?_;clear S;intro h S));refine qK ?_)
  all_goals (all_goals (repeat' (first|refine qg ?_|refine qh rfl ?_|(refine qc 3 ?_;refine mv ?_;refine vl ?_;refine mv ?_;refine off ?_;refine off ?_;refine zU ?_)|(refine qc 4 ?_;refine qK ?_))))
  all_goals (refine qC ⟨_,rfl,?_⟩)
  all_goals exact ⟨[],(S.Qb (e:=9) (z:=1) (enc:=eS)).only .here,by simp [y9,q1],by simp⟩
end Go.Proofs.Xx
namespace Go.Proofs.Xx
open Go Go.Proofs
theorem SS.eq:∀ {l m:List (List UInt8)},SS l→SS m→(∀ x,x∈l↔x∈m)→l=m:=by
 intro l m hl hm h;have le:l.length=m.length:=Nat.le_antisymm (jw hl.nodup fun x hx=>(h x).1 hx) (jw hm.nodup fun x hx=>(h x).2 hx);apply QH le
 intro i;induction i using Nat.strongRecOn with
 | _ i ih =>
  intro hi;have key:∀ {a b:List (List UInt8)},SS a→SS b→(∀ x,x∈a→x∈b)→i<a.length→(∀ j,j<i→j<a.length→a.getD j default=b.getD j default)→¬ zG (a.getD i default) (b.getD i default):=fun {a b} ha hb hab hi hj q=>by
   obtain ⟨j,j1,j2⟩:=qL.1 (hab _ (qM hi));rcases zA7 j i with z|z
   ·have:=hj j z (by omega);have n:=ha j i z hi;rw [this,j2] at n;exact zA _ n
   ·have:=hb.le z j1;rw [j2] at this;exact this q
  have k1:=key hl hm (fun x=>(h x).1) hi fun j hj hj2=>ih j hj hj2;have k2:=key hm hl (fun x=>(h x).2) (by omega) fun j hj hj2=>(ih j hj (by omega)).symm;rcases Zr k1 with q|q
  ·exact q.symm
  ·exact absurd q k2
def btw (t:Ti) (a b:List UInt8):Prop:=(t.a=a∧t.b=b)∨(t.a=b∧t.b=a)
theorem VO {r:Rl} (H:RO r) {a b:List UInt8} {t:Ti} (ht:t∈r.ts) (h:btw t a b):QK r.ts a b=some t:=by
 have hlt:=(H.tt t ht).1;rcases h with ⟨rfl,rfl⟩|⟨rfl,rfl⟩
 ·exact Jh H.ts ht (Z7 hlt).symm (Z8 hlt).symm
 ·rw [WZ];exact Jh H.ts ht (Z7 hlt).symm (Z8 hlt).symm
theorem Vp {r:Rl} {a b:List UInt8} {t:Ti} (h:QK r.ts a b=some t):btw t a b:=by
 obtain ⟨x,h1,h2,h3⟩:=VP h;obtain ⟨g1,g2,g3⟩:=QU h;unfold btw;by_cases q:zG b a
 ·have e1:jY a b=b:=if_pos q;have e2:jZ a b=a:=if_neg (zZ q);exact .inr ⟨by rw [g2,e1],by rw [g3,e2]⟩
 ·have e1:jY a b=a:=if_neg q;refine .inl ⟨by rw [g2,e1],?_⟩;rw [g3];unfold jZ;split
  ·rfl
  ·rename_i q2
   rcases Zr q with e|e
   ·exact e
   ·exact absurd e q2
variable [Flag]
theorem jM {h0:AH} (w:WfH h0) (v:Value) (gs:List Qi) (hr:Qh h0 v 9 eG gs) (hl:gs.length≤9223372036854775807) (n:List UInt8):Fn Tryz.prog Xh 80 [v,str n] h0 (fun u h'=>((∃ i:Nat,gat (gs.map (·.toGu)) n=some i∧i<gs.length∧u = .int .i64 i)∨(gat (gs.map (·.toGu)) n=none∧u = .int .i64 (-1)))∧Hs h0 h' []):=by
 have S:=Hs.start w;refine qZ rfl Tryz.func80 rfl rfl ?_;all_goals (repeat' (first|refine qg ?_|refine qi ?_|(refine qc 0 ?_;refine qK ?_)|(refine qc 1 ?_;refine qK ?_)))
 refine qH (σ:=Nat) (fun i h'=>Hs h0 h' []∧i≤gs.length∧∀ j,j<i→(gs.getD j default).name≠n) (fun i=>gs.length - i) (fun i=>[(0,v),(1,str n),(5,.int .i64 i)]) 0 qo ?_ ?_
 ·exact ⟨S,zB0 _,fun j hj=>absurd hj (zB7 _)⟩
 clear S;rintro i h ⟨S,g1,g2⟩;have e:∀ j,j<gs.length→((gs.map (fun g:Qi=>g.toGu)).getD j default).name=(gs.getD j default).name:=fun j hj=>by rw [zf (f:=fun g:Qi=>g.toGu) hj]
 all_goals (repeat' (first|refine qg ?_|refine qh rfl ?_|refine qj ?_|refine qw ?_|refine qi ?_|(refine qc 2 ?_;refine qE ?_;refine Zx S ?_;(first|(refine cS ?_ ?_<;>intro hc))<;>(refine qf ?_))))
 ·have hil:i<gs.length:=by omega
  all_goals (repeat' (first|refine qg ?_|refine qh rfl ?_|refine qj ?_|(refine qc 4 ?_;refine qE ?_;refine QN S ?_;refine fB S ?_;refine jQ S ?_;refine mv ?_;(refine tS ?_ ?_<;>intro hc)<;>(refine qf ?_))|(refine qc 5 ?_;refine qX ?_)))
  all_goals (try simp only [zA0] at *)
  ·refine qC ⟨_,rfl,?_⟩;refine ⟨.inl ⟨i,?_,hil,rfl⟩,S⟩;cases hq:gat (gs.map (·.toGu)) n with
   | none=>exact absurd (by rw [e i hil];exact hc) (Zi.1 hq _ (qM (show i<(gs.map (·.toGu)).length by simp;exact hil)))
   | some k =>
    obtain ⟨h1,h2,h3⟩:=jo hq;simp only [zC5] at h1;rw [e k h1] at h2;rcases zE7 i k with q|q|q
    ·exact absurd (by rw [e i hil];exact hc) (h3 i q)
    ·rw [q]
    ·exact absurd h2 (g2 k q)
  ·all_goals (repeat' (first|(refine qc 3 ?_;refine qO ?_)))
   refine ⟨i+1,?_,?_,qo⟩
   ·show gs.length - (i+1)<gs.length - i;omega
   ·exact ⟨S,by omega,Ze g2 hc⟩
 ·skip
  all_goals (repeat' (first|(refine qc 6 ?_;refine qK ?_)))
  refine qC ⟨_,rfl,?_⟩;refine ⟨.inr ⟨Zi.2 fun g hg=>?_,rfl⟩,S⟩;obtain ⟨j,hj,rfl⟩:=qL.1 hg;simp only [zC5] at hj;rw [e j hj];exact g2 j (by omega)
theorem gQ {h0:AH} (w:WfH h0) (v:Value) (ts:List Ti) (hr:Qh h0 v 3 zh ts) (hl:ts.length≤9223372036854775807) (a b:List UInt8):Fn Tryz.prog Xh 131 [v,str a,str b] h0 (fun u h'=>((∃ i:Nat,i<ts.length∧btw (ts.getD i default) a b∧(∀ j,j<i→¬ btw (ts.getD j default) a b)∧u = .int .i64 i)∨((∀ j,j<ts.length→¬ btw (ts.getD j default) a b)∧u = .int .i64 (-1)))∧Hs h0 h' []):=by
 have S:=Hs.start w;refine qZ rfl Tryz.func131 rfl rfl ?_;all_goals (repeat' (first|refine qg ?_|refine qi ?_|(refine qc 0 ?_;refine qK ?_)|(refine qc 1 ?_;refine qK ?_)))
 refine qH (σ:=Nat) (fun i h'=>Hs h0 h' []∧i≤ts.length∧∀ j,j<i→¬ btw (ts.getD j default) a b) (fun i=>ts.length - i) (fun i=>[(0,v),(1,str a),(2,str b),(7,.int .i64 i)]) 0 qo ?_ ?_
 ·exact ⟨S,zB0 _,fun j hj=>absurd hj (zB7 _)⟩
 clear S;rintro i h ⟨S,g1,g2⟩;all_goals (repeat' (first|refine qg ?_|refine qh rfl ?_|refine qj ?_|refine qw ?_|(refine qc 2 ?_;refine qE ?_;refine Zx S ?_;(first|(refine cS ?_ ?_<;>intro hc))<;>(refine qf ?_))))
 ·have hil:i<ts.length:=by omega
  (repeat (refine qg ?_));first|refine ZG (σ:=Unit) (fun _ h'=>Hs h0 h' []∧¬ btw (ts.getD i default) a b) (fun _=>[(0,v),(1,str a),(2,str b),(7,.int .i64 i)]) ?_ ?_
  ·all_goals (repeat' (first|refine qg ?_|refine qh rfl ?_|refine qj ?_|refine qi ?_|(refine qc 4 ?_;refine qE ?_;refine QN S ?_;refine fB S ?_;refine jQ S ?_;refine mv ?_;(refine tS ?_ ?_<;>intro hc)<;>(refine mv ?_;(first|refine off ?_|refine mv ?_);(first|refine off ?_|refine mv ?_);(first|refine off ?_|(refine QN S ?_));(first|refine off ?_|(refine fB S ?_));(first|refine off ?_|(refine jQ S ?_));(first|refine off ?_|refine mv ?_);(first|refine off ?_|(refine tS ?_ ?_<;>intro hc))<;>(refine vl ?_;refine mv ?_;(first|refine off ?_|refine mv ?_);(first|refine off ?_|refine mv ?_);(first|refine off ?_|(refine QN S ?_));(first|refine off ?_|(refine fB S ?_));(first|refine off ?_|(refine jQ S ?_));(first|refine off ?_|refine mv ?_);(first|refine off ?_|(refine tS ?_ ?_<;>intro hc))<;>((first|refine off ?_|refine mv ?_);(first|refine off ?_|refine mv ?_);(first|refine off ?_|refine mv ?_);(first|refine off ?_|(refine QN S ?_));(first|refine off ?_|(refine fB S ?_));(first|refine off ?_|(refine jQ S ?_));(first|refine off ?_|refine mv ?_);(first|refine off ?_|(refine tS ?_ ?_<;>intro hc))<;>((first|refine off ?_|refine vl ?_);refine zU ?_)))))|(refine qc 5 ?_;refine qX ?_)))
   all_goals (try simp only [zA0] at *)
   all_goals first
    | exact ⟨(),⟨S,by unfold btw;grind⟩,(qo)⟩
    | (refine qC ⟨_,rfl,?_⟩;exact ⟨.inl ⟨i,hil,by unfold btw;grind,g2,rfl⟩,S⟩)
  ·clear S;rintro - h ⟨S,hb⟩;all_goals (repeat' (first|(refine qc 3 ?_;refine qO ?_)))
   refine ⟨i+1,?_,?_,qo⟩
   ·show ts.length - (i+1)<ts.length - i;omega
   ·exact ⟨S,by omega,Ze g2 hb⟩
 ·skip
  all_goals (repeat' (first|(refine qc 6 ?_;refine qK ?_)))
  refine qC ⟨_,rfl,?_⟩;exact ⟨.inr ⟨fun j hj=>g2 j (by omega),rfl⟩,S⟩
theorem xy {h0:AH} (w:WfH h0) (v:RlV) (r:Rl) (HR:RlOk h0 v r) (H:RO r) (na nb:List UInt8):Fn Tryz.prog Xh 83 [v.val,str na,str nb] h0 (fun u h'=>((∃ t,QK r.ts na nb=some t∧u = .tuple #[.int .u8 t.k,.bool true])∨(QK r.ts na nb=none∧u = .tuple #[.int .u8 0,.bool false]))∧Hs h0 h' []):=by
 have S:=Hs.start w;have hrt:=HR.rt;have hlt:=HR.lt;unfold RlV.val;refine qZ rfl Tryz.func83 rfl rfl ?_;all_goals (repeat' (first|refine qg ?_|(refine qc 0 ?_;(refine bx S ?_;clear S;intro b h S);refine qX ?_)|(refine qc 1 ?_;refine vl ?_;refine lB S rfl rfl ?_;refine qE ?_)))
 (refine qx rfl rfl rfl rfl rfl ((gQ S.wf v.vt.val r.ts (hrt.ext w S.ext) hlt na nb).mono ?_);rintro _ h ⟨⟨i,i1,i2,i3,rfl⟩|⟨i1,rfl⟩,x⟩)<;>(replace S:=S.qN x;clear x;refine qK ?_)
 ·all_goals (repeat' (first|refine qg ?_|refine qh rfl ?_|refine qj ?_|(refine qc 2 ?_;refine mv ?_;(refine cF ?_)<;>(refine qf ?_))|(refine qc 4 ?_;refine vl ?_;refine lB S rfl rfl ?_;refine mv ?_;refine QN S ?_;refine fB S ?_;refine jQ S ?_;refine qX ?_)))
  refine qC ⟨_,rfl,?_⟩;exact ⟨.inl ⟨_,VO H (qM i1) i2,rfl⟩,S.drop⟩
 ·skip
  all_goals (repeat' (first|refine qg ?_|refine qh rfl ?_|(refine qc 2 ?_;refine mv ?_;(refine cT ?_)<;>(refine qf ?_))|(refine qc 3 ?_;refine qX ?_)))
  refine qC ⟨_,rfl,?_⟩;refine ⟨.inr ⟨?_,rfl⟩,S.drop⟩;cases hq:QK r.ts na nb with
  | none=>rfl
  | some t =>
   obtain ⟨j,j1,j2⟩:=qL.1 (QU hq).1;exact absurd (j2 ▸ Vp hq) (i1 j j1)
theorem qb7 {h0:AH} (w:WfH h0) (v:Value) (l:List (List UInt8)) (hr:Qh h0 v 1 eS l) (hl:l.length≤8796093021952):Fn Tryz.prog Xh 124 [v] h0 (fun u h'=>Hs h0 h' [.sl u 9 1 eS l]):=by
 have S:=Hs.start w;refine qZ rfl Tryz.func124 rfl rfl ?_;all_goals (repeat' (first|refine qg ?_|refine qi ?_|(refine qc 0 ?_;refine qK ?_)|(refine qc 1 ?_;refine qK ?_)|(refine qc 2 ?_;refine qK ?_)))
 have S:=S.Qb (e:=9) (z:=1) (enc:=eS);refine qH (σ:=Nat×Value) (fun (i,v3) h'=>Hs h0 h' [.sl v3 9 1 eS (l.take i)]∧i≤l.length) (fun (i,v3)=>l.length - i) (fun (i,v3)=>[(0,v),(3,v3),(4,.int .i64 i)]) (0,.slice none 0 0) qo ?_ ?_
 ·exact ⟨S,zB0 _⟩
 clear S;rintro ⟨i,v3⟩ h ⟨S,g1⟩;have htl:(l.take i).length≤8796093021952:=by simp;omega
 all_goals (repeat' (first|refine qg ?_|refine qh rfl ?_|refine qj ?_|refine qw ?_|refine qi ?_|(refine qc 3 ?_;refine qE ?_;refine Zx S ?_;(first|(refine cS ?_ ?_<;>intro hc))<;>(refine qf ?_))))
 ·have hil:i<l.length:=by omega
  all_goals (repeat' (first|(refine qc 5 ?_;refine qE ?_;refine mv ?_;refine QN S ?_;refine jQ S ?_;(refine one 1 S ?_;clear S;intro u h S))))
  simp only [zA0] at *;refine app (y0:=l.getD i default) S rfl rfl ?_;clear S;intro v3 h S;(refine qK ?_);all_goals (repeat' (first|(refine qc 4 ?_;refine qO ?_)))
  refine ⟨(i+1,v3),?_,?_,qo⟩
  ·show l.length - (i+1)<l.length - i;omega
  ·refine ⟨?_,by (try dsimp only);omega⟩;dsimp only;rw [qQ hil];exact S
 ·obtain rfl:i=l.length:=by omega
  rw [zD4] at S;all_goals (repeat' (first|(refine qc 6 ?_;refine qX ?_)))
  refine qC ⟨_,rfl,?_⟩;exact S
end Go.Proofs.Xx
namespace Go.Proofs.Xx
open Go Go.Proofs
structure TGd (r:Rl) (i:Nat):Prop where
 k:(r.ts.getD i default).k=1∨(r.ts.getD i default).k=2
 lt:zG (r.ts.getD i default).a (r.ts.getD i default).b
 pl:i=0∨¬ zW (r.ts.getD i default) (r.ts.getD (i - 1) default)
theorem TGd.eq {r:Rl} {i:Nat} (g:TGd r i):tE0 r i=(ZH ⟨r.us,r.ts.take i⟩ (r.ts.getD i default).a (r.ts.getD i default).b (r.ts.getD i default).k).2:=by
 unfold tE0;rw [if_pos ⟨g.lt,g.pl⟩]
theorem TGd.nk {r:Rl} {i:Nat} (g:TGd r i):¬ (((r.ts.getD i default).k≠1∧(r.ts.getD i default).k≠2)∨(r.ts.getD i default).a=(r.ts.getD i default).b):=by
 rintro (q|q)
 ·have:=g.k;omega
 ·exact xx g.lt q
theorem TGd.e6 {r:Rl} {i:Nat} (g:TGd r i) (h:gat r.us (r.ts.getD i default).a=none∨gat r.us (r.ts.getD i default).b=none):tE0 r i=6:=by
 rw [g.eq,W9 (r:=⟨r.us,r.ts.take i⟩) g.nk h]
theorem TGd.tied {r:Rl} {i:Nat} (g:TGd r i) (hi:i<r.ts.length) (hp:TS (r.ts.take i)):tied (r.ts.take i) (r.ts.getD i default).a (r.ts.getD i default).b↔(0<i∧¬ zW (r.ts.getD (i - 1) default) (r.ts.getD i default)):=by
 unfold Xx.tied;rw [Z7 g.lt,Z8 g.lt];have hl:(r.ts.take i).length=i:=by simp;omega
 constructor
 ·rintro ⟨t,h1,h2,h3⟩;obtain ⟨j,j1,j2⟩:=qL.1 h1;rw [hl] at j1;rw [getD_take j1] at j2;refine ⟨by omega,fun q=>?_⟩;have hb:zW t (r.ts.getD i default):=by
   rcases Nat.eq_or_lt_of_le (show j≤i - 1 by omega) with e|e
   ·rw [← j2,e];exact q
   ·have:=hp.lt e (by rw [hl];omega);rw [getD_take j1,getD_take (by omega),j2] at this;exact Qg this q
  rcases hb with q|q
  ·rw [h2] at q;exact zA _ q
  ·rw [h3] at q;exact zA _ q.2
 ·rintro ⟨h0,h1⟩;rcases Ye (r.ts.getD (i - 1) default) (r.ts.getD i default) with q|q|q
  ·exact absurd q h1
  ·refine ⟨r.ts.getD (i - 1) default,?_,q⟩;have:=qM (l:=r.ts.take i) (i:=i - 1) (by rw [hl];omega);rwa [getD_take (by omega)] at this
  ·exact absurd q (g.pl.resolve_left (by omega))
theorem TGd.e5 {r:Rl} {i:Nat} (g:TGd r i) (hi:i<r.ts.length) (hp:TS (r.ts.take i)) (h:¬ (gat r.us (r.ts.getD i default).a=none∨gat r.us (r.ts.getD i default).b=none)) (hb:0<i∧¬ zW (r.ts.getD (i - 1) default) (r.ts.getD i default)):tE0 r i=5:=by
 rw [g.eq,ku (r:=⟨r.us,r.ts.take i⟩) g.nk h ((g.tied hi hp).2 hb)]
theorem TGd.e7 {r:Rl} {i:Nat} (g:TGd r i) (hi:i<r.ts.length) (hp:TS (r.ts.take i)) (h:¬ (gat r.us (r.ts.getD i default).a=none∨gat r.us (r.ts.getD i default).b=none)) (hb:¬ (0<i∧¬ zW (r.ts.getD (i - 1) default) (r.ts.getD i default))) (h7:256≤i):tE0 r i=7:=by
 rw [g.eq,wZ (r:=⟨r.us,r.ts.take i⟩) g.nk h (fun q=>hb ((g.tied hi hp).1 q)) (by simp;omega)]
theorem TGd.e0 {r:Rl} {i:Nat} (g:TGd r i) (hi:i<r.ts.length) (hp:TS (r.ts.take i)) (h:¬ (gat r.us (r.ts.getD i default).a=none∨gat r.us (r.ts.getD i default).b=none)) (hb:¬ (0<i∧¬ zW (r.ts.getD (i - 1) default) (r.ts.getD i default))) (h7:¬ 256≤i):tE0 r i=0:=by
 rw [g.eq,kz (r:=⟨r.us,r.ts.take i⟩) g.nk h (fun q=>hb ((g.tied hi hp).1 q)) (by simp;omega)]
variable [Flag]
theorem qa8 {h0:AH} (w:WfH h0) (x y:Ti):Fn Tryz.prog Xh 81 [pq x,pq y] h0 (fun u h'=>Zm u (zW x y)∧Hs h0 h' []):=by
 have S:=Hs.start w;unfold pq;refine qZ rfl Tryz.func81 rfl rfl ?_;all_goals (repeat' (first|refine qg ?_|refine qh rfl ?_|refine qj ?_|refine qw ?_|refine qi ?_|refine zo ?_|refine zq ?_|(refine qc 0 ?_;(refine bx S ?_;clear S;intro b h S);(refine bx S ?_;clear S;intro b h S);refine qK ?_)|(refine qc 1 ?_;(first|refine vl ?_|refine fB S ?_|refine fS S rfl rfl ?_|refine fA ?_);(first|refine lB S rfl rfl ?_|refine qI S rfl rfl ?_|refine jQ S ?_|refine lH S ?_);(first|refine vl ?_|refine fB S ?_|refine fS S rfl rfl ?_|refine fA ?_);(first|refine lB S rfl rfl ?_|refine qI S rfl rfl ?_|refine jQ S ?_|refine lH S ?_);(refine tO ?_ ?_<;>intro hc)<;>(refine mv ?_;(first|refine off ?_|(first|refine vl ?_|refine fB S ?_|refine fS S rfl rfl ?_|refine fA ?_));(first|refine off ?_|(first|refine lB S rfl rfl ?_|refine qI S rfl rfl ?_|refine jQ S ?_|refine lH S ?_));(first|refine off ?_|(first|refine vl ?_|refine fB S ?_|refine fS S rfl rfl ?_|refine fA ?_));(first|refine off ?_|(first|refine lB S rfl rfl ?_|refine qI S rfl rfl ?_|refine jQ S ?_|refine lH S ?_));(first|refine off ?_|(refine tS ?_ ?_<;>intro hc))<;>((first|refine off ?_|refine mv ?_);(first|refine off ?_|(first|refine vl ?_|refine fB S ?_|refine fS S rfl rfl ?_|refine fA ?_));(first|refine off ?_|(first|refine lB S rfl rfl ?_|refine qI S rfl rfl ?_|refine jQ S ?_|refine lH S ?_));(first|refine off ?_|(first|refine vl ?_|refine fB S ?_|refine fS S rfl rfl ?_|refine fA ?_));(first|refine off ?_|(first|refine lB S rfl rfl ?_|refine qI S rfl rfl ?_|refine jQ S ?_|refine lH S ?_));(first|refine off ?_|(refine tO ?_ ?_<;>intro hc))<;>((first|refine off ?_|refine vl ?_);refine Jb ?_))))))
 all_goals (refine qC ⟨_,rfl,?_⟩)
 all_goals first
  | exact ⟨.inl ⟨rfl,by unfold zW;grind⟩,S.drop⟩
  | exact ⟨.inr ⟨rfl,by unfold zW;grind⟩,S.drop⟩
end Go.Proofs.Xx
namespace Go.Proofs.Xx
open Go Go.Proofs
variable [Flag]
theorem qeG {h0:AH} (w:WfH h0) (v:Value) (l:List Ti) (hr:Qh h0 v 3 zh l) (hl:l.length*40≤140737488351232):Fn Tryz.prog Xh 99 [v] h0 (fun u h'=>Hs h0 h' [.sl u 111 3 zh l]):=by
 have S:=Hs.start w;refine qZ rfl Tryz.func99 rfl rfl ?_;all_goals (repeat' (first|refine qg ?_|refine qi ?_|(refine qc 0 ?_;refine qK ?_)|(refine qc 1 ?_;refine qK ?_)|(refine qc 2 ?_;refine qK ?_)))
 have S:=S.Qb (e:=111) (z:=3) (enc:=zh);refine qH (σ:=Nat×Value) (fun (i,v3) h'=>Hs h0 h' [.sl v3 111 3 zh (l.take i)]∧i≤l.length) (fun (i,v3)=>l.length - i) (fun (i,v3)=>[(0,v),(3,v3),(4,.int .i64 i)]) (0,.slice none 0 0) qo ?_ ?_
 ·exact ⟨S,zB0 _⟩
 clear S;rintro ⟨i,v3⟩ h ⟨S,g1⟩;have htl:(l.take i).length=i:=by simp;omega
 all_goals (repeat' (first|refine qg ?_|refine qh rfl ?_|refine qj ?_|refine qw ?_|refine qi ?_|(refine qc 3 ?_;refine qE ?_;refine Zx S ?_;(first|(refine cS ?_ ?_<;>intro hc))<;>(refine qf ?_))))
 ·have hil:i<l.length:=by omega
  all_goals (repeat' (first|(refine qc 5 ?_;refine qE ?_;refine mv ?_;refine QN S ?_;refine jQ S ?_;(refine one 3 S ?_;clear S;intro u h S))))
  simp only [zA0] at *;refine app (y0:=l.getD i default) S rfl rfl ?_;clear S;intro v3 h S;(refine qK ?_);all_goals (repeat' (first|(refine qc 4 ?_;refine qO ?_)))
  refine ⟨(i+1,v3),?_,?_,qo⟩
  ·show l.length - (i+1)<l.length - i;omega
  ·refine ⟨?_,by (try dsimp only);omega⟩;dsimp only;rw [qQ hil];exact S
 ·obtain rfl:i=l.length:=by omega
  rw [zD4] at S;all_goals (repeat' (first|(refine qc 6 ?_;refine qX ?_)))
  refine qC ⟨_,rfl,?_⟩;exact S
theorem gJ {h0:AH} (w:WfH h0) (g:Qi) (rd:Qh h0 g.tv.val 1 eS g.tg) (hl:g.tg.length≤8796093021952):Fn Tryz.prog Xh 103 [gV g] h0 (fun u h'=>∃ tv:SlV,u=gV { g with tv:=tv }∧Hs h0 h' [.sl tv.val 9 1 eS g.tg]):=by
 have S:=Hs.start w;obtain ⟨⟨n1,n2,n3,n4,n5,n6,n7,n8,n9⟩,n10⟩:=g;unfold gV;dsimp only at *;refine qZ rfl Tryz.func103 rfl rfl ?_;all_goals (repeat' (first|refine qg ?_|(refine qc 0 ?_;(refine bx S ?_;clear S;intro b h S);(refine al S ?_;clear S;intro b h S);refine qf ?_)))
 obtain ⟨b1,hnm⟩:∃ x,x=b:=⟨_,rfl⟩;subst hnm;all_goals (repeat' (first|(refine qc 1 ?_;refine vl ?_;refine lB S rfl rfl ?_)))
 (refine qx rfl rfl rfl rfl rfl ((qb7 S.wf n10.val n9 (rd.ext w S.ext) hl).mono ?_);rintro v h x)<;>(replace S:=S.zQ x;clear x;obtain ⟨tv,rfl⟩:=S.sV v;refine vl ?_;(first|(refine sB S rfl rfl ?_;clear S;intro h S));refine qf ?_)
 all_goals (repeat' (first|refine qg ?_|(refine qc 2 ?_;refine lB S rfl rfl ?_;(first|(refine sB S rfl rfl ?_;clear S;intro h S));refine qf ?_)))
 refine qC ⟨_,zD S rfl (by first|exact .there .here) (by exact rfl) (by exact rfl),?_⟩;exact ⟨tv,rfl,S.only .here⟩
theorem WW {h0:AH} (w:WfH h0) (v:Value) (l:List Qi) (hr:Qh h0 v 9 eG l) (ht:∀ i,i<l.length→Qh h0 (l.getD i default).tv.val 1 eS (l.getD i default).tg∧(l.getD i default).tg.length≤8796093021952) (hl:l.length*112≤140737488351232):Fn Tryz.prog Xh 98 [v] h0 (fun u h'=>∃ (vg:SlV) (gs:List Qi),u=vg.val∧gs.map (·.toGu)=l.map (·.toGu)∧Hs h0 h' [jX gs,.sl vg.val 24 9 eG gs]):=by
 have S:=Hs.start w;refine qZ rfl Tryz.func98 rfl rfl ?_;all_goals (repeat' (first|refine qg ?_|refine qi ?_|(refine qc 0 ?_;refine qK ?_)|(refine qc 1 ?_;refine qK ?_)|(refine qc 2 ?_;refine qK ?_)))
 have S:=((S.Qb (e:=24) (z:=9) (enc:=eG))).anyS (p:=fun h fp=>Star h (([]:List Qi).map Zo) fp) fun h'=>trivial;replace S:Hs h0 h0 [jX [],.sl (SlV.val ⟨none,0,0⟩) 24 9 eG []]:=S;refine qH (σ:=Nat×SlV×List Qi) (fun (i,vg,gs) h'=>Hs h0 h' [jX gs,.sl vg.val 24 9 eG gs]∧i≤l.length∧gs.map (·.toGu)=(l.take i).map (·.toGu)) (fun (i,vg,gs)=>l.length - i) (fun (i,vg,gs)=>[(0,v),(3,vg.val),(4,.int .i64 i)]) (0,⟨none,0,0⟩,[]) qo ?_ ?_
 ·exact ⟨S,zB0 _,rfl⟩
 clear S;rintro ⟨i,vg,gs⟩ h ⟨S,g1,g2⟩;have hgs:gs.length=i:=by have:=congrArg List.length g2;simp at this;omega
 all_goals (repeat' (first|refine qg ?_|refine qh rfl ?_|refine qj ?_|refine qw ?_|refine qi ?_|(refine qc 3 ?_;refine qE ?_;refine Zx S ?_;(first|(refine cS ?_ ?_<;>intro hc))<;>(refine qf ?_))))
 ·have hil:i<l.length:=by omega
  all_goals (repeat' (first|(refine qc 5 ?_;refine qE ?_;refine mv ?_;refine QN S ?_;refine jQ S ?_)))
  simp only [zA0];(refine qx rfl rfl rfl rfl rfl ((gJ S.wf (l.getD i default) ((ht i hil).1.ext w S.ext) (ht i hil).2).mono ?_);rintro _ h ⟨tv,rfl,x⟩)<;>(replace S:=S.zQ x;clear x;(refine one 9 S ?_;clear S;intro u h S))
  refine app (y0:={ l.getD i default with tv:=tv }) S rfl rfl ?_;clear S;intro v3 h S;obtain ⟨vg',rfl⟩:=S.sV v3;(refine qK ?_);all_goals (repeat' (first|(refine qc 4 ?_;refine qO ?_)))
  refine ⟨(i+1,vg',gs ++ [{ l.getD i default with tv:=tv }]),?_,?_,qo⟩
  ·show l.length - (i+1)<l.length - i;omega
  ·replace S:Hs h0 h (.sl vg'.val 24 9 eG (gs ++ [{ l.getD i default with tv:=tv }]) :: .sl tv.val 9 1 eS (l.getD i default).tg :: jX gs :: []):=S;have S:=(show Hs h0 h (.sl tv.val 9 1 eS (l.getD i default).tg :: jX gs :: .sl vg'.val 24 9 eG (gs ++ [{ l.getD i default with tv:=tv }]) :: []) from S.pick)
   refine ⟨Hs.kC (g:={ l.getD i default with tv:=tv }) S,by (try dsimp only);omega,?_⟩;dsimp only;rw [qQ (by omega),zC9,zC9,g2];rfl
 ·obtain rfl:i=l.length:=by omega
  rw [zD4] at g2;all_goals (repeat' (first|(refine qc 6 ?_;refine qX ?_)))
  refine qC ⟨_,rfl,?_⟩;exact ⟨vg,gs,rfl,g2,S⟩
structure RlFit (h:AH) (v:RlV) (r:Rl):Prop where
 ok:RlOk h v r
 tg:∀ i,i<v.gs.length→(v.gs.getD i default).tg.length≤8796093021952
 lg:r.us.length*112≤140737488351232
 lt:r.ts.length*40≤140737488351232
theorem RlFit.ext {h h':AH} {v:RlV} {r:Rl} (a:RlFit h v r) (w:WfH h) (x:Ext h h'):RlFit h' v r:=⟨a.ok.ext w x,a.tg,a.lg,a.lt⟩
theorem qb8 {h0:AH} (w:WfH h0) (v:RlV) (r:Rl) (H:RlFit h0 v r):Fn Tryz.prog Xh 43 [v.val] h0 (fun u h'=>∃ v':RlV,u=v'.val∧v'.gs.map (·.toGu)=r.us∧Hs h0 h' (XF v' r.ts)):=by
 have S:=Hs.start w;have hgl:=H.ok.len;have hlg:=H.lg;unfold RlV.val;refine qZ rfl Tryz.func43 rfl rfl ?_;all_goals (repeat' (first|refine qg ?_|(refine qc 0 ?_;(refine bx S ?_;clear S;intro b h S);(refine al S ?_;clear S;intro b h S);refine qf ?_)))
 obtain ⟨b2,hnm⟩:∃ x,x=b:=⟨_,rfl⟩;subst hnm;obtain ⟨b1,hnm⟩:∃ x,x=b:=⟨_,rfl⟩;subst hnm;(repeat (refine qg ?_));refine Qu (id:=1) [(4,(0,1))] [some (b1)] ?_;refine qp ?_;(first|(refine vl ?_<;>refine qf ⟨⟨by (first|exact True.intro),rfl⟩,?_⟩));refine qp ?_;(first|(refine lB S rfl rfl ?_<;>refine qf ⟨⟨by (first|exact True.intro),rfl⟩,?_⟩));((refine qp ?_;first|refine qx rfl rfl rfl rfl rfl ((WW S.wf v.vg.val v.gs (H.ok.rg.ext w S.ext) (fun i hi=>⟨(H.ok.tg i hi).1.ext w S.ext,H.tg i hi⟩) (by omega)).mono ?_));rintro _ h ⟨vg,gs,rfl,g2,x⟩)<;>((refine qf ⟨⟨True.intro,?_⟩,?_⟩;(focus ((show keepsX _ _ _ _ _;simp only [keepsX];(repeat' (first|exact True.intro|refine And.intro ?_ ?_));all_goals (intro hw;first|exact x.ext.old _ S.bB)))));replace S:=S.wH x;clear x;refine qp ?_;(first|(refine vl ?_<;>refine qf ⟨⟨by (first|exact True.intro),rfl⟩,?_⟩));refine qp ?_;(first|(refine lB S rfl rfl ?_<;>refine qf ⟨⟨by (first|exact Or.inr rfl),rfl⟩,?_⟩)))
 ((refine qp ?_;first|refine qx rfl rfl rfl rfl rfl ((qeG S.wf v.vt.val r.ts (H.ok.rt.ext w S.ext) H.lt).mono ?_));rintro u h x)<;>((refine qf ⟨⟨True.intro,?_⟩,?_⟩;(focus ((show keepsX _ _ _ _ _;simp only [keepsX];(repeat' (first|exact True.intro|refine And.intro ?_ ?_));all_goals (intro hw;first|exact x.ext.old _ S.bB)))));replace S:=S.zQ x;clear x;obtain ⟨vt',rfl⟩:=S.sV u;refine qp ?_;(first|(refine vl ?_<;>refine qf ⟨⟨by (first|exact True.intro),rfl⟩,?_⟩));refine qp ?_;(first|((refine sB S rfl rfl ?_;have S0:=S;clear S;intro h S);refine qf ⟨⟨True.intro,?_⟩,?_⟩;(focus ((show keepsX _ _ _ _ _;simp only [keepsX];(repeat' (first|exact True.intro|refine And.intro ?_ ?_));all_goals (intro hw;first|exact (S.gB).trans (S0.gB).symm))));clear S0));refine QL ?_)
 all_goals (repeat' (fail))
 refine qC ⟨_,zD S rfl (by first|exact .there (.there (.there .here))) (by exact rfl) (by exact rfl),?_⟩;refine ⟨⟨vg,vt',gs⟩,rfl,g2.trans H.ok.us,?_⟩;exact (show Hs h0 h [.sl vg.val 24 9 eG gs,.sl vt'.val 111 3 zh r.ts,jX gs] from S.pick)
end Go.Proofs.Xx
namespace Go.Proofs.Xx
open Go Go.Proofs
inductive Pth (r:Rl) (x:List UInt8):List (List UInt8)→List UInt8→Prop
 | one:Pth r x [x] x
 | snoc {Q:List (List UInt8)} {w z:List UInt8} (h:Pth r x Q w) (a:spk r w z):Pth r x (Q ++ [z]) z
theorem Pth.pos {r:Rl} {x y:List UInt8} {Q:List (List UInt8)} (h:Pth r x Q y):0<Q.length:=by
 cases h<;>simp
theorem Pth.cons {r:Rl} {z x y:List UInt8} {Q:List (List UInt8)} (a:spk r z x) (h:Pth r x Q y):Pth r z (z :: Q) y:=by
 induction h with
 | one=>exact Pth.snoc (.one) a
 | snoc h b ih=>exact Pth.snoc ih b
theorem Pth.rev {r:Rl} {x y:List UInt8} {Q:List (List UInt8)} (h:Pth r x Q y):Pth r y Q.reverse x:=by
 induction h with
 | one=>exact .one
 | snoc h b ih =>
  rw [List.reverse_append];exact ih.cons b.symm
theorem Pth.head {r:Rl} {x y:List UInt8} {Q:List (List UInt8)} (h:Pth r x Q y):Q.getD 0 default=x:=by
 induction h with
 | one=>rfl
 | snoc h b ih=>rw [Ym h.pos];exact ih
theorem Pth.last {r:Rl} {x y:List UInt8} {Q:List (List UInt8)} (h:Pth r x Q y):Q.getD (Q.length - 1) default=y:=by
 cases h with
 | one=>rfl
 | snoc h b=>rw [zB2,zD5,Nat.add_sub_cancel,KF (zA3 _),zG7];rfl
theorem Pth.adj {r:Rl} {x y:List UInt8} {Q:List (List UInt8)} (h:Pth r x Q y):∀ i,i+1<Q.length→spk r (Q.getD i default) (Q.getD (i+1) default):=by
 induction h with
 | one=>intro i hi;simp at hi
 | snoc h b ih =>
  rename_i Q w z
  intro i hi;rw [zB2,zD5] at hi;rcases zA7 (i+1) Q.length with q|q
  ·rw [Ym (by omega),Ym q];exact ih i q
  ·have e:i=Q.length - 1:=by omega
   have hp:=h.pos;rw [Ym (by omega),KF q,e,h.last,show Q.length - 1+1 - Q.length=0 by omega];exact b
def lxl (P Q:List (List UInt8)):Prop:=∃ k,k<P.length∧k<Q.length∧(∀ j,j<k→P.getD j default=Q.getD j default)∧zG (P.getD k default) (Q.getD k default)
theorem lxl.snoc {P Q:List (List UInt8)} {a b:List UInt8} (h:lxl P Q):lxl (P ++ [a]) (Q ++ [b]):=by
 obtain ⟨k,h1,h2,h3,h4⟩:=h;refine ⟨k,by simp;omega,by simp;omega,fun j hj=>?_,?_⟩
 ·rw [Ym (by omega),Ym (by omega)];exact h3 j hj
 ·rw [Ym h1,Ym h2];exact h4
theorem lxl.last {P:List (List UInt8)} {a b:List UInt8} (h:zG a b):lxl (P ++ [a]) (P ++ [b]):=by
 refine ⟨P.length,by simp,by simp,fun j hj=>?_,?_⟩
 ·rw [Ym hj,Ym hj]
 ·rw [KF (zA3 _),KF (zA3 _),zG7];exact h
theorem lxl.trans {P Q R:List (List UInt8)} (h:lxl P Q) (g:lxl Q R):lxl P R:=by
 obtain ⟨k,h1,h2,h3,h4⟩:=h;obtain ⟨m,g1,g2,g3,g4⟩:=g;rcases zE7 k m with q|q|q
 ·exact ⟨k,h1,by omega,fun j hj=>(h3 j hj).trans (g3 j (by omega)),by rw [← g3 k q];exact h4⟩
 ·subst q;exact ⟨k,h1,g2,fun j hj=>(h3 j hj).trans (g3 j hj),jv h4 g4⟩
 ·exact ⟨m,by omega,g2,fun j hj=>(h3 j (by omega)).trans (g3 j hj),by rw [h3 m q];exact g4⟩
def lxe (P Q:List (List UInt8)):Prop:=P=Q∨lxl P Q
theorem lxe.trans {P Q R:List (List UInt8)} (h:lxe P Q) (g:lxe Q R):lxe P R:=by
 rcases h with rfl|h
 ·exact g
 ·rcases g with rfl|g
  ·exact .inr h
  ·exact .inr (h.trans g)
theorem lxe.snoc {P Q:List (List UInt8)} {a:List UInt8} (h:lxe P Q):lxe (P ++ [a]) (Q ++ [a]):=by
 rcases h with rfl|h
 ·exact .inl rfl
 ·exact .inr h.snoc
structure ChainOk (r:Rl) (x y:List UInt8) (P:List (List UInt8)):Prop where
 pth:Pth r x P y
 sh:∀ Q,Pth r x Q y→P.length≤Q.length
 lx:∀ Q,Pth r x Q y→P.length=Q.length→lxe P Q
abbrev ZX:=List (List UInt8×List UInt8)
def Zn (mp:ZX) (j:Nat):List UInt8:=(mp.getD j default).1
def Q7 (mp:ZX) (pa:Nat→Nat) (j:Nat):List (List UInt8):=if h:0<j∧pa j<j then Q7 mp pa (pa j) ++ [Zn mp j] else [Zn mp j]
termination_by j
decreasing_by exact h.2
structure BC (r:Rl) (x:List UInt8) (mp:ZX) (pa:Nat→Nat):Prop where
 pos:0<mp.length
 d0:Zn mp 0=x
 f0:(mp.getD 0 default).2=[]
 kn:∀ j,j<mp.length→gat r.us (Zn mp j)≠none
 nd:(mp.map (·.1)).Nodup
 lt:∀ j,0<j→j<mp.length→pa j<j
 fr:∀ j,0<j→j<mp.length→(mp.getD j default).2=Zn mp (pa j)∧spk r (Zn mp (pa j)) (Zn mp j)
 mo:∀ j k,0<j→j≤k→k<mp.length→pa j≤pa k
 od:∀ j k,0<j→j<k→k<mp.length→pa j=pa k→zG (Zn mp j) (Zn mp k)
theorem BC.step {r:Rl} {x:List UInt8} {mp:ZX} {pa:Nat→Nat} (B:BC r x mp pa) {j:Nat} (h0:0<j) (hj:j<mp.length):Q7 mp pa j=Q7 mp pa (pa j) ++ [Zn mp j]:=by
 rw [Q7,dif_pos ⟨h0,B.lt j h0 hj⟩]
theorem vI (mp:ZX) (pa:Nat→Nat):Q7 mp pa 0=[Zn mp 0]:=by
 rw [Q7,dif_neg (by omega)]
theorem qbo (mp:ZX) (pa:Nat→Nat) (j:Nat):0<(Q7 mp pa j).length:=by
 rw [Q7];split<;>simp
theorem qbp (mp:ZX) (pa:Nat→Nat) (j:Nat):(Q7 mp pa j).length≤j+1:=by
 induction j using Nat.strongRecOn with
 | _ j ih =>
  rw [Q7];split
  ·rename_i h
   have:=ih _ h.2;simp;omega
  ·simp
theorem BC.pth {r:Rl} {x:List UInt8} {mp:ZX} {pa:Nat→Nat} (B:BC r x mp pa) (j:Nat) (hj:j<mp.length):Pth r x (Q7 mp pa j) (Zn mp j):=by
 induction j using Nat.strongRecOn with
 | _ j ih =>
  rcases zF5 j with q|q
  ·subst q;rw [vI,B.d0];exact .one
  ·rw [B.step q hj];have:=B.lt j q hj;exact (ih _ this (by omega)).snoc (B.fr j q hj).2
theorem BC.mono {r:Rl} {x:List UInt8} {mp:ZX} {pa:Nat→Nat} (B:BC r x mp pa) (k:Nat) (hk:k<mp.length):∀ j,j≤k→(Q7 mp pa j).length≤(Q7 mp pa k).length∧((Q7 mp pa j).length=(Q7 mp pa k).length→lxe (Q7 mp pa j) (Q7 mp pa k)):=by
 induction k using Nat.strongRecOn with
 | _ k ih =>
  intro j hj;rcases Nat.eq_or_lt_of_le hj with q|q
  ·subst q;exact ⟨zA3 _,fun _=>.inl rfl⟩
  ·rw [B.step (by omega) hk];rcases zF5 j with z|z
   ·subst z;have:=qbo mp pa (pa k);rw [vI];simp
    intro h;rw [h] at this;exact absurd this (by simp)
   ·rw [B.step z (by omega)];have hl:=B.lt k (by omega) hk;have hm:=B.mo j k z hj hk;obtain ⟨h1,h2⟩:=ih (pa k) hl (by omega) (pa j) hm;refine ⟨by simp;exact h1,fun e=>?_⟩;simp only [zB2,zD5] at e;rcases Nat.eq_or_lt_of_le hm with w|w
    ·rw [w];exact .inr (.last (B.od j k z q hk w))
    ·rcases h2 (by omega) with g|g
     ·exfalso
      have g1:=(B.pth (pa j) (by omega)).last;have g2:=(B.pth (pa k) (by omega)).last;rw [g,g2] at g1;refine ZI B.nd w (by simp;omega) ?_;rw [zf (by omega),zf (by omega)];exact g1.symm
     ·exact .inr g.snoc
structure BI (r:Rl) (x:List UInt8) (mp:ZX) (pa:Nat→Nat) (h:Nat):Prop where
 c:BC r x mp pa
 le:h≤mp.length
 ub:∀ j,0<j→j<mp.length→pa j<h
 cl:∀ i,i<h→∀ y,spk r (Zn mp i) y→∃ j,j<mp.length∧Zn mp j=y∧(j=0∨pa j≤i)
structure BJ (r:Rl) (ns:List (List UInt8)) (x:List UInt8) (mp:ZX) (pa:Nat→Nat) (h k:Nat):Prop where
 c:BC r x mp pa
 lt:h<mp.length
 ub:∀ j,0<j→j<mp.length→pa j≤h
 cl:∀ i,i<h→∀ y,spk r (Zn mp i) y→∃ j,j<mp.length∧Zn mp j=y∧(j=0∨pa j≤i)
 pm:∀ j,0<j→j<mp.length→pa j=h→∃ m,m<k∧Zn mp j=ns.getD m default
 dn:∀ m,m<k→spk r (Zn mp h) (ns.getD m default)→∃ j,j<mp.length∧Zn mp j=ns.getD m default
theorem BI.one {r:Rl} {x:List UInt8} (hx:gat r.us x≠none):BI r x [(x,[])] (fun _=>0) 0:=by
 refine ⟨⟨by simp,rfl,rfl,fun j hj=>?_,by simp,fun j h1 h2=>?_,fun j h1 h2=>?_,fun j k h1 h2 h3=>zA3 _,fun j k h1 h2 h3=>?_⟩,zB0 _,fun j h1 h2=>?_,fun i hi=>absurd hi (zB7 _)⟩
 ·simp at hj;subst hj;exact hx
 all_goals (simp only [zD5] at *;omega)
theorem BI.start {r:Rl} {ns:List (List UInt8)} {x:List UInt8} {mp:ZX} {pa:Nat→Nat} {h:Nat} (I:BI r x mp pa h) (hh:h<mp.length):BJ r ns x mp pa h 0 :=
 ⟨I.c,hh,fun j h1 h2=>Nat.le_of_lt (I.ub j h1 h2),I.cl,fun j h1 h2 e=>absurd (I.ub j h1 h2) (by omega),fun m hm=>absurd hm (zB7 _)⟩
theorem BJ.fin {r:Rl} {ns:List (List UInt8)} {x:List UInt8} {mp:ZX} {pa:Nat→Nat} {h:Nat} (J:BJ r ns x mp pa h ns.length) (hns:∀ y,gat r.us y≠none→y∈ns):BI r x mp pa (h+1):=by
 refine ⟨J.c,J.lt,fun j h1 h2=>Nat.lt_succ_of_le (J.ub j h1 h2),fun i hi y a=>?_⟩;rcases zA7 i h with q|q
 ·exact J.cl i q y a
 ·obtain rfl:i=h:=by omega
  obtain ⟨m,m1,m2⟩:=qL.1 (hns y a.kn.2);rw [← m2] at a ⊢;obtain ⟨j,j1,j2⟩:=J.dn m m1 a;refine ⟨j,j1,j2,?_⟩;rcases zF5 j with z|z
  ·exact .inl z
  ·exact .inr (J.ub j z j1)
theorem BJ.skip {r:Rl} {ns:List (List UInt8)} {x:List UInt8} {mp:ZX} {pa:Nat→Nat} {h k:Nat} (J:BJ r ns x mp pa h k) (hk:zK mp (ns.getD k default)≠none∨¬ spk r (Zn mp h) (ns.getD k default)) (hm:zK mp (ns.getD k default)≠none→ns.getD k default∈mp.map (·.1)):BJ r ns x mp pa h (k+1):=by
 refine ⟨J.c,J.lt,J.ub,J.cl,fun j h1 h2 e=>?_,fun m hm2 a=>?_⟩
 ·obtain ⟨m,m1,m2⟩:=J.pm j h1 h2 e;exact ⟨m,by omega,m2⟩
 ·rcases zA7 m k with q|q
  ·exact J.dn m q a
  ·obtain rfl:m=k:=by omega
   rcases hk with hk|hk
   ·obtain ⟨j,j1,j2⟩:=qL.1 (hm hk);simp only [zC5] at j1;rw [zf j1] at j2;exact ⟨j,j1,j2⟩
   ·exact absurd a hk
def paU (pa:Nat→Nat) (n h:Nat):Nat→Nat:=fun j=>if j=n then h else pa j
theorem BJ.add {r:Rl} {ns:List (List UInt8)} (hs:SS ns) {x:List UInt8} {mp:ZX} {pa:Nat→Nat} {h k:Nat} (J:BJ r ns x mp pa h k) (hk:k<ns.length) (hn:ns.getD k default ∉ mp.map (·.1)) (ha:spk r (Zn mp h) (ns.getD k default)):BJ r ns x (mp ++ [(ns.getD k default,Zn mp h)]) (paU pa mp.length h) h (k+1):=by
 have hl:(mp ++ [(ns.getD k default,Zn mp h)]).length=mp.length+1:=by simp
 have n1:∀ {j},j<mp.length→Zn (mp ++ [(ns.getD k default,Zn mp h)]) j=Zn mp j:=fun hj=>by unfold Zn;rw [Ym hj]
 have n2:Zn (mp ++ [(ns.getD k default,Zn mp h)]) mp.length=ns.getD k default:=by unfold Zn;rw [KF (zA3 _),zG7];rfl
 have p1:∀ {j},j<mp.length→paU pa mp.length h j=pa j:=fun hj=>if_neg (by omega);have p2:paU pa mp.length h mp.length=h:=if_pos rfl;have hp:=J.c.pos;have hh:=J.lt;refine ⟨⟨by omega,by rw [n1 hp];exact J.c.d0,by rw [Ym hp];exact J.c.f0,fun j hj=>?_,?_,fun j h1 h2=>?_,fun j h1 h2=>?_,fun j i h1 h2 h3=>?_,fun j i h1 h2 h3 e=>?_⟩,by omega,fun j h1 h2=>?_,fun i hi y a=>?_,fun j h1 h2 e=>?_,fun m hm a=>?_⟩
 ·rw [hl] at hj;rcases zA7 j mp.length with q|q
  ·rw [n1 q];exact J.c.kn j q
  ·obtain rfl:j=mp.length:=by omega
   rw [n2];exact ha.kn.2
 ·rw [zC9,zG5];refine ⟨J.c.nd,by simp,fun a h1 b h2 e=>?_⟩;simp only [List.map_cons,List.map_nil,zB5] at h2;subst e;subst h2;exact hn h1
 ·rw [hl] at h2;rcases zA7 j mp.length with q|q
  ·rw [p1 q];exact J.c.lt j h1 q
  ·obtain rfl:j=mp.length:=by omega
   rw [p2];exact hh
 ·rw [hl] at h2;rcases zA7 j mp.length with q|q
  ·have:=J.c.lt j h1 q;rw [p1 q,n1 q,n1 (by omega),Ym q];exact J.c.fr j h1 q
  ·obtain rfl:j=mp.length:=by omega
   rw [p2,n2,n1 hh,KF (zA3 _),zG7];exact ⟨rfl,ha⟩
 ·rw [hl] at h3;rcases zA7 i mp.length with q|q
  ·rw [p1 q,p1 (by omega)];exact J.c.mo j i h1 h2 q
  ·obtain rfl:i=mp.length:=by omega
   rw [p2];rcases zA7 j mp.length with q2|q2
   ·rw [p1 q2];exact J.ub j h1 q2
   ·obtain rfl:j=mp.length:=by omega
    rw [p2];exact zA3 _
 ·rw [hl] at h3;rcases zA7 i mp.length with q|q
  ·rw [p1 q,p1 (by omega)] at e;rw [n1 q,n1 (by omega)];exact J.c.od j i h1 h2 q e
  ·obtain rfl:i=mp.length:=by omega
   rw [p2,p1 h2] at e;rw [n2,n1 h2];obtain ⟨m,m1,m2⟩:=J.pm j h1 h2 e;rw [m2];exact hs m k m1 hk
 ·rw [hl] at h2;rcases zA7 j mp.length with q|q
  ·rw [p1 q];exact J.ub j h1 q
  ·obtain rfl:j=mp.length:=by omega
   rw [p2];exact zA3 _
 ·rw [n1 (by omega)] at a;obtain ⟨j,j1,j2,j3⟩:=J.cl i hi y a;exact ⟨j,by omega,by rw [n1 j1];exact j2,by rw [p1 j1];exact j3⟩
 ·rw [hl] at h2;rcases zA7 j mp.length with q|q
  ·rw [p1 q] at e;rw [n1 q];obtain ⟨m,m1,m2⟩:=J.pm j h1 q e;exact ⟨m,by omega,m2⟩
  ·obtain rfl:j=mp.length:=by omega
   exact ⟨k,by omega,n2⟩
 ·rw [n1 hh] at a;rcases zA7 m k with q|q
  ·obtain ⟨j,j1,j2⟩:=J.dn m q a;exact ⟨j,by omega,by rw [n1 j1];exact j2⟩
  ·obtain rfl:m=k:=by omega
   exact ⟨mp.length,by omega,n2⟩
theorem BI.all {r:Rl} {x:List UInt8} {mp:ZX} {pa:Nat→Nat} {h:Nat} (I:BI r x mp pa h) {Q:List (List UInt8)} {z:List UInt8} (hq:Pth r x Q z):(∃ i,i<mp.length∧Zn mp i=z∧(Q7 mp pa i).length≤Q.length∧((Q7 mp pa i).length=Q.length→lxe (Q7 mp pa i) Q))∨(h<mp.length∧(Q7 mp pa h).length<Q.length):=by
 induction hq with
 | one=>exact .inl ⟨0,I.c.pos,I.c.d0,by rw [vI];exact zA3 _,fun _=>.inl (by rw [vI,I.c.d0])⟩
 | snoc g b ih =>
  rename_i Q w z
  have hQ:=g.pos;rcases ih with ⟨i,i1,i2,i3,i4⟩|⟨h1,h2⟩
  ·rcases zA7 i h with q|q
   ·rw [← i2] at b;obtain ⟨j,j1,j2,j3⟩:=I.cl i q z b;refine .inl ⟨j,j1,j2,?_⟩;rcases zF5 j with e|e
    ·subst e;rw [vI];simp
     intro h;rw [h] at hQ;simp at hQ
    ·have j3:=j3.resolve_left (by omega);rw [I.c.step e j1,j2];obtain ⟨m1,m2⟩:=I.c.mono i i1 (pa j) j3;simp only [zB2,zD5];refine ⟨by omega,fun e=>?_⟩;exact ((m2 (by omega)).trans (i4 (by omega))).snoc
   ·have:=(I.c.mono i i1 h q).1;exact .inr ⟨by omega,by simp;omega⟩
  ·exact .inr ⟨h1,by simp;omega⟩
theorem BI.found {r:Rl} {x:List UInt8} {mp:ZX} {pa:Nat→Nat} {h:Nat} (I:BI r x mp pa h) (hh:h<mp.length):ChainOk r x (Zn mp h) (Q7 mp pa h):=by
 have key:∀ Q,Pth r x Q (Zn mp h)→(Q7 mp pa h).length≤Q.length∧((Q7 mp pa h).length=Q.length→lxe (Q7 mp pa h) Q):=fun Q hq=>by
  rcases I.all hq with ⟨i,i1,i2,i3,i4⟩|⟨h1,h2⟩
  ·have:i=h:=by
    rcases zE7 i h with q|q|q
    ·exact absurd (by rw [zf i1,zf hh];exact i2) (ZI I.c.nd q (by simp;omega))
    ·exact q
    ·exact absurd (by rw [zf i1,zf hh];exact i2.symm) (ZI I.c.nd q (by simp;omega))
   subst this;exact ⟨i3,i4⟩
  ·exact ⟨by omega,fun e=>by omega⟩
 exact ⟨I.c.pth h hh,fun Q hq=>(key Q hq).1,fun Q hq=>(key Q hq).2⟩
theorem BI.lost {r:Rl} {x y:List UInt8} {mp:ZX} {pa:Nat→Nat} (I:BI r x mp pa mp.length) (hy:∀ i,i<mp.length→Zn mp i≠y) (Q:List (List UInt8)):¬ Pth r x Q y:=fun hq=>by
 rcases I.all hq with ⟨i,i1,i2,i3,i4⟩|⟨h1,h2⟩
 ·exact hy i i1 i2
 ·omega
theorem qai:∀ {l:ZX} (hn:(l.map (·.1)).Nodup) {j:Nat} (hj:j<l.length) (i:Nat),QM (Zn l j) l i=some (i+j,(l.getD j default).2)
 | [],hn,j,hj,i=>absurd hj (zB7 _)
 | p :: l,hn,0,hj,i=>by
  unfold QM;rw [if_pos (by rfl)];rfl
 | p :: l,hn,j+1,hj,i=>by
  have h2:=List.nodup_cons.1 hn;have hj':j<l.length:=by simp at hj;exact hj
  unfold QM;rw [if_neg ?_]
  ·show QM (Zn l j) l (i+1)=_
   rw [qai h2.2 hj' (i+1)];show some _=some _
   congr 2;omega
  ·intro e;refine h2.1 ?_;show p.1∈l.map (·.1)
   rw [show p.1=Zn l j from e];exact zF2.2 ⟨_,qM hj',rfl⟩
theorem qcY {l:ZX} (hn:(l.map (·.1)).Nodup) {j:Nat} (hj:j<l.length):zK l (Zn l j)=some (l.getD j default).2:=by
 unfold zK;rw [qai hn hj 0];rfl
theorem BC.len {r:Rl} (H:RO r) {x:List UInt8} {mp:ZX} {pa:Nat→Nat} (B:BC r x mp pa):mp.length≤64:=by
 have:=jw B.nd (m:=r.us.map (·.name)) fun y hy=>by
  obtain ⟨j,j1,j2⟩:=qL.1 hy;simp only [zC5] at j1;rw [zf j1] at j2;exact ZL (j2 ▸ B.kn j j1)
 have:=H.l64;simp at *;omega
theorem ChainOk.back {r:Rl} {x y:List UInt8} {P R:List (List UInt8)} (h:ChainOk r x y P) (g:ChainOk r y x R):P.length=R.length:=by
 have h1:=h.sh _ g.pth.rev;have h2:=g.sh _ h.pth.rev;simp at h1 h2;omega
theorem ChainOk.self {r:Rl} {x:List UInt8} {P:List (List UInt8)} (h:ChainOk r x x P):P.length=1:=by
 have h1:=h.sh _ .one;have:=h.pth.pos;simp at h1;omega
end Go.Proofs.Xx
