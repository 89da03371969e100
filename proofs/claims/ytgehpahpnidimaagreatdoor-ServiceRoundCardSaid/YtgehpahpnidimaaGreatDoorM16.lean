/-
  The reference's number that no load is below;few numbers;lists of lists compared;arguments left as they were.
-/
import Derived.Test.YtgehpahpnidimaaGreatDoorM15
import Derived.Test.YtgehpahpnidimaaGreatDoorM12
import Derived.Test.YtgehpahpnidimaaGreatDoorM7
import Derived.Test.YtgehpahpnidimaaGreatDoorRows
import Derived.Lib.LaidTab
import Derived.Stop.LaidErr
import Derived.Shelf.Vars
set_option linter.unusedSimpArgs false
set_option linter.unusedVariables false
set_option linter.unusedSectionVars false
set_option maxRecDepth 100000
set_option maxHeartbeats 4000000
namespace Go.Proofs.Xx
open Go Go.Proofs
variable [Flag]
structure PbZ (h:AH) (v:PbV) (p:Pb):Prop where
 tr:zo h v.vt.val 7 eT p.tabs
 tt:∀ i,i<p.tabs.length→TabR h (tb p.tabs i)
 tc:zV v.vt.val
 op:∀ i,i<p.tabs.length→(p.tabs.getD i default).opn.length*8≤140737488351232
 rol:RlOk h v.rl p.rl
 gc:zV v.vg.val
 tg:∀ i,i<v.gs.length→(v.gs.getD i default).tg.length≤8796093021952
 cl:zo h v.vc.val 1 eI p.cl
 ru:zo h v.vr.val 6 JI p.ru
 rk:∀ r∈p.ru,0≤r.k∧r.k≤255
 lt:p.tabs.length≤9223372036854775807
 lc:p.cl.length≤9223372036854775807
 lr:p.ru.length≤9223372036854775807
theorem PbZ.ext {h h':AH} {v:PbV} {p:Pb} (a:PbZ h v p) (w:WfH h) (x:Ext h h'):PbZ h' v p:=⟨a.tr.ext w x,fun i hi=>(a.tt i hi).ext w x,a.tc,a.op,a.rol.ext w x,a.gc,a.tg,a.cl.ext w x,a.ru.ext w x,a.rk,a.lt,a.lc,a.lr⟩
def qfo (p:Pb) (n:Nat):Prop:=p.tabs.length≤n∧p.us.length≤n∧p.ts.length≤n∧p.cl.length≤n∧p.ru.length≤n
theorem PbZ.ok {h:AH} {v:PbV} {p:Pb} (a:PbZ h v p) (f:qfo p 20):PbOk h v p:=⟨⟨a.tr,a.tt,by have:=f.1;omega,a.tc⟩,a.rol,a.cl,a.ru,by have:=f.2.2.2.1;omega,by have:=f.2.2.2.2;omega⟩
theorem PbZ.fit {h:AH} {v:PbV} {p:Pb} (a:PbZ h v p) (f:qfo p 20):qgv h v p:=⟨a.ok f,a.op,a.tg,by obtain ⟨f1,f2,f3,f4,f5⟩:=f;omega⟩
theorem PbZ.m {h:AH} {v:PbV} {p:Pb} (a:PbZ h v p) (f:qfo p 20):PbM v p:=⟨a.gc,by obtain ⟨f1,f2,f3,f4,f5⟩:=f;omega,a.rk⟩
theorem BasP.uniq {p:Pb} {i e i' e':Int} (a:BasP p i e) (b:BasP p i' e'):e=e':=by
 by_cases hb:BO p
 ·rw [(hb.basP a).2,(hb.basP b).2]
 rcases a with ⟨h1,h2⟩|⟨h1,h2⟩|⟨h1,h2,h3⟩<;>rcases b with ⟨g1,g2⟩|⟨g1,g2⟩|⟨g1,g2,g3⟩
 ·exact (h2.uniq g2).2
 ·exact absurd (h2.valid.2 g1) h1
 ·exact absurd (h2.valid.2 g1) h1
 ·exact absurd (g2.valid.2 h1) g1
 ·exact (h2.uniq g2).2
 ·exact absurd (Wp.2 g2) h2.not
 ·exact absurd (g2.valid.2 h1) g1
 ·exact absurd (Wp.2 h2) g2.not
 ·rcases h3 with ⟨h3,h4,h5⟩|⟨h3,h4⟩<;>rcases g3 with ⟨g3,g4,g5⟩|⟨g3,g4⟩
  ·omega
  ·exact absurd g3 h3
  ·exact absurd h3 g3
  ·omega
theorem CkP.uniq {p:Pb} {i e i' e':Int} (a:CkP p i e) (b:CkP p i' e'):e=e':=by
 rcases a with ⟨h1,h2⟩|⟨h1,h2⟩<;>rcases b with ⟨g1,g2⟩|⟨g1,g2⟩
 ·exact h2.uniq g2
 ·exact absurd (g1.basP h2).2 h1
 ·exact absurd (h1.basP g2).2 g1
 ·rcases h2 with ⟨j,k1,k2,k3,k4,k5⟩|⟨k1,k2,k3,k4⟩<;>rcases g2 with ⟨m,l1,l2,l3,l4,l5⟩|⟨l1,l2,l3,l4⟩
  ·have hjm:j=m:=by
    rcases zE7 j m with r|r|r
    ·exfalso
     rcases k5 with ⟨k5,-⟩|⟨-,k5,-⟩
     ·exact k5 (l4 j r)
     ·omega
    ·exact r
    ·exfalso
     rcases l5 with ⟨l5,-⟩|⟨-,l5,-⟩
     ·exact l5 (k4 m r)
     ·omega
   subst hjm;rcases k5 with ⟨k5,k6⟩|⟨k5,k6,k7⟩<;>rcases l5 with ⟨l5,l6⟩|⟨l5,l6,l7⟩
   ·omega
   ·exact absurd l5 k5
   ·exact absurd k5 l5
   ·omega
  ·exfalso
   rcases k5 with ⟨k5,-⟩|⟨-,k5,-⟩
   ·exact k5 (l2 j k1)
   ·omega
  ·exfalso
   rcases l5 with ⟨l5,-⟩|⟨-,l5,-⟩
   ·exact l5 (k2 m l1)
   ·omega
  ·omega
theorem PaE.uniq {N n:Nat} {q:List Int} {wh:Bool} {i e i' e':Int} (a:PaE N q n wh i e) (b:PaE N q n wh i' e'):e=e':=by
 have bad:∀ {g:Nat} {e:Int},((wh=true∧q.getD g default = -1∧e=52)∨((q.getD g default < -1∨(N:Int)≤q.getD g default)∧e=50)∨(0≤q.getD g default∧q.getD g default<N∧(∃ j,j<g∧q.getD j default=q.getD g default)∧e=51))→∀ m,g<m→PaI N q m→(wh=true→∀ j,j<m→q.getD j default≠-1)→False:=by
  rintro g e (⟨h1,h2,-⟩|⟨h1,-⟩|⟨h1,h2,⟨j,h3,h4⟩,-⟩) m hm k1 k2
  ·exact k2 h1 g hm h2
  ·have:=k1.1 g hm;omega
  ·exact k1.2 j g h3 hm (by omega) h4
 rcases a with ⟨h1,-,h2⟩|⟨h1,⟨g,h2,h3,h4,h5,h6⟩|⟨h2,h3,h4,h5⟩⟩<;>rcases b with ⟨g1,-,g2⟩|⟨g1,⟨m,l2,l3,l4,l5,l6⟩|⟨l2,l3,l4,l5⟩⟩
 ·omega
 ·exact absurd g1 h1
 ·exact absurd g1 h1
 ·exact absurd h1 g1
 ·have hgm:g=m:=by
   rcases zE7 g m with r|r|r
   ·exact (bad h6 m r l4 l5).elim
   ·exact r
   ·exact (bad l6 g r h4 h5).elim
  subst hgm;rcases h6 with ⟨a1,a2,a3⟩|⟨a1,a2⟩|⟨a1,a2,a3,a4⟩<;>rcases l6 with ⟨b1,b2,b3⟩|⟨b1,b2⟩|⟨b1,b2,b3,b4⟩<;>omega
 ·exact (bad h6 n h2 l2 l3).elim
 ·exact absurd h1 g1
 ·exact (bad l6 n l2 h2 h3).elim
 ·omega
theorem PaC.uniq {p:Pb} {q:List Int} {wh:Bool} {i e i' e':Int} (a:PaC p q wh i e) (b:PaC p q wh i' e'):e=e':=by
 rcases a with ⟨h1,-,-,j,h2⟩|⟨h1,h2⟩<;>rcases b with ⟨g1,-,-,m,g2⟩|⟨g1,g2⟩
 ·exact h2.uniq g2
 ·exact absurd g1 h1
 ·exact absurd h1 g1
 ·exact h2.uniq g2
end Go.Proofs.Xx
namespace Go.Proofs.Xx
open Go Go.Proofs
abbrev Pb.wt (p:Pb) (tabs:List Tab):Pb:=⟨tabs,p.us,p.ts,p.cl,p.ru⟩
section
variable {l m:List Tab} (h:l.map (·.toC)=m.map (·.toC))
include h
end
variable [Flag]
end Go.Proofs.Xx
namespace Go.Proofs.Xx
open Go Go.Proofs
section
variable {l m:List Tab} (h:l.map (·.toC)=m.map (·.toC))
include h
end
variable [Flag]
theorem qbK {h0:AH} (w:WfH h0) (X Y:Tr_) (rx:zo h0 X.tv.val 1 eI X.ta) (ry:zo h0 Y.tv.val 1 eI Y.ta) (hl:X.ta.length≤1000000) (e:X.trp=Y.trp) :
 Fn Tryz.prog Xh 65 [trV X,trV Y] h0 (fun u h'=>u = .bool true∧Hs h0 h' []):=by
 have S:=Hs.start w;have e1:X.ta=Y.ta:=congrArg Trp.ta e;have e2:X.pl=Y.pl:=congrArg Trp.pl e;have e3:X.st=Y.st:=congrArg Trp.st e;refine qM (by first|rfl) Tryz.func65 rfl rfl ?_;all_goals (repeat' (first|refine qg ?_|(refine qc 0 ?_;(refine bx S ?_;clear S;intro b h S);(refine bx S ?_;clear S;intro b h S);refine mv ?_;refine qf ?_)|(refine qc 1 ?_;refine vl ?_;refine lB S rfl rfl ?_;refine vl ?_;refine lB S rfl rfl ?_;(refine cT ?_)<;>(refine mv ?_;(first|(refine vl ?_));(first|(refine lB S rfl rfl ?_));(first|(refine vl ?_));(first|(refine lB S rfl rfl ?_));(first|(refine cT ?_))<;>(refine vl ?_;refine mv ?_;(first|(refine vl ?_));(first|(refine lB S rfl rfl ?_));(first|(refine vl ?_));(first|(refine lB S rfl rfl ?_));(skip))))))
 all_goals (try exact absurd e2 (by assumption))
 all_goals (try exact absurd e3 (by assumption))
 (refine qx rfl rfl rfl rfl rfl ((qa3 S.wf X.tv.val Y.tv.val X.ta Y.ta (rx.ext w S.ext) (ry.ext w S.ext) hl).mono ?_);rintro _ h ⟨⟨rfl,z⟩|⟨rfl,z⟩,x⟩)<;>(replace S:=S.join0 x;clear x;refine vl ?_;refine mv ?_;refine qf ?_)
 all_goals first|exact absurd e1 z|skip
 all_goals (repeat' (fail))
 refine qw ⟨_,rfl,?_⟩;exact ⟨rfl,S.drop⟩
theorem qeU {h0:AH} (w:WfH h0) (v u:Value) (la lb:List Tr_) (ra:zo h0 v 3 JC la) (rb:zo h0 u 3 JC lb) (rra:∀ i,i<la.length→zo h0 (la.getD i default).tv.val 1 eI (la.getD i default).ta) (rrb:∀ i,i<lb.length→zo h0 (lb.getD i default).tv.val 1 eI (lb.getD i default).ta) (ha:la.length≤1000000) (he:Qz la=Qz lb) (hm:∀ i,i<la.length→(la.getD i default).ta.length≤1000000) :
 Fn Tryz.prog Xh 64 [v,u,.func (.func 65) #[] #[]] h0 (fun x h'=>x = .bool true∧Hs h0 h' []):=by
 have S:=Hs.start w;have hlen:la.length=lb.length:=by have:=congrArg List.length he;simpa using this
 refine qM (by first|rfl) Tryz.func64 rfl rfl ?_;all_goals (repeat' (first|refine qg ?_|refine qi rfl ?_|refine qj ?_|refine qp ?_|(refine qc 0 ?_;refine mv ?_;refine qf ?_)|(refine qc 1 ?_;refine mv ?_;refine jZ S ?_;refine mv ?_;refine jZ S ?_;(refine cF ?_)<;>(refine qf ?_))|(refine qc 3 ?_;refine mv ?_;refine jZ S ?_;refine mv ?_;refine qf ?_)))
 refine qL (σ:=Nat) (fun i h'=>Hs h0 h' []∧i≤la.length) (fun i=>la.length - i) (fun i=>[(0,v),(1,u),(2,.func (.func 65) #[] #[]),(15,v),(16,.int .i64 la.length),(17,.int .i64 i)]) 0 qy ?_ ?_
 ·exact ⟨S,zB0 _⟩
 clear S;rintro i h ⟨S,g1⟩;all_goals (repeat' (first|refine qg ?_|refine qi rfl ?_|refine qj ?_|refine qA ?_|refine qp ?_|(refine qc 4 ?_;(first|(refine cS ?_ ?_<;>intro hc))<;>(refine qf ?_))))
 ·have hi:i<la.length:=by omega
  have e1:(la.getD i default).trp=(lb.getD i default).trp:=by
   rw [← zu (f:=fun x:Tr_=>x.trp) hi,← zu (f:=fun x:Tr_=>x.trp) (show i<lb.length by omega)];exact congrArg (fun l=>List.getD l i default) he
  all_goals (repeat' (first|refine qg ?_|(refine qc 5 ?_;refine mv ?_;refine QE S ?_;refine Qk S ?_;(refine al S ?_;clear S;intro b h S);refine mv ?_;(first|(refine sB S rfl rfl ?_;clear S;intro h S));refine qf ?_)|(refine qc 6 ?_;refine mv ?_;refine mv ?_;refine QE S ?_;refine Qk S ?_;(refine al S ?_;clear S;intro b h S);(first|(refine sB S rfl rfl ?_;clear S;intro h S));refine qf ?_)|(refine qc 7 ?_;refine mv ?_;refine lB S rfl rfl ?_;refine lB S rfl rfl ?_)))
  simp only [zA0];(refine QM rfl rfl rfl rfl ((qbK S.wf (la.getD i default) (lb.getD i default) ((rra i hi).ext w S.ext) ((rrb i (by omega)).ext w S.ext) (hm i hi) e1).mono ?_);rintro _ h ⟨rfl,x⟩)<;>(replace S:=S.join0 x;clear x;refine vl ?_;refine qf ?_)
  all_goals (repeat' (first|refine qi rfl ?_|refine qj ?_|(refine qc 9 ?_;refine ad ?_;refine mv ?_;refine qf ?_)))
  refine ⟨i+1,?_,?_,qy⟩
  ·show la.length - (i+1)<la.length - i;omega
  ·exact ⟨S.drop,by (try dsimp only);omega⟩
 ·all_goals (repeat' (first|(refine qc 10 ?_;refine mv ?_;refine qf ?_)))
  refine qw ⟨_,rfl,?_⟩;exact ⟨rfl,S⟩
theorem qbJ {h0:AH} (w:WfH h0) (v u:Value) (a b:List Tr_) (ra:zo h0 v 3 JC a) (rb:zo h0 u 3 JC b) (rra:∀ i,i<a.length→zo h0 (a.getD i default).tv.val 1 eI (a.getD i default).ta) (rrb:∀ i,i<b.length→zo h0 (b.getD i default).tv.val 1 eI (b.getD i default).ta) (ha:a.length≤1000000) (he:Qz a=Qz b) (hm:∀ i,i<a.length→(a.getD i default).ta.length≤1000000) :
 Fn Tryz.prog Xh 18 [v,u] h0 (fun x h'=>x = .bool true∧Hs h0 h' []):=by
 have S:=Hs.start w;refine qM (by first|rfl) Tryz.func18 rfl rfl ?_;all_goals (repeat' (first|refine qg ?_|(refine qc 0 ?_;refine mv ?_;refine qf ?_)|(refine qc 1 ?_;refine mv ?_;refine mv ?_)))
 (refine qx rfl rfl rfl rfl rfl ((qeU S.wf v u a b (ra.ext w S.ext) (rb.ext w S.ext) (fun i hi=>(rra i hi).ext w S.ext) (fun i hi=>(rrb i hi).ext w S.ext) ha he hm).mono ?_);rintro _ h ⟨rfl,x⟩)<;>(replace S:=S.join0 x;clear x;refine mv ?_;refine qf ?_)
 all_goals (repeat' (fail))
 refine qw ⟨_,rfl,?_⟩;exact ⟨rfl,S⟩
end Go.Proofs.Xx
namespace Go.Proofs.Xx
open Go Go.Proofs
variable [Flag]
theorem qaa {l:List Tab} {n:Nat}:∀ (P:List (List UInt8)) (out:List Trp) (i:Nat),(∀ w∈P,w.length≤n)→(∀ x∈out,x.ta.length≤n+1)→(x8 l out i P).1.length≤out.length+P.length∧∀ x∈(x8 l out i P).1,x.ta.length≤n+1
 | [],out,i,_,h=>by rw [x8];exact ⟨by simp,h⟩
 | [w],out,i,_,h=>by
  rw [x8];by_cases q:w=[]
  ·rw [if_pos q];exact ⟨by simp,h⟩
  ·rw [if_neg q];exact ⟨by simp,fun x hx=>by simp at hx⟩
 | w :: v :: r,out,i,hw,h=>by
  rw [x8];by_cases q:VA l (zQ 32 w)=0
  ·rw [if_pos q];have k:=qaa (l:=l) (v :: r) (out ++ [XG l (zQ 32 w)]) (i+1) (fun x hx=>hw x (List.mem_cons_of_mem _ hx)) fun x hx=>by
    rcases zB8.1 hx with e|e
    ·exact h x e
    ·rw [zB5.1 e];have e1:(XG l (zQ 32 w)).ta.length=(zQ 32 w).length - 3:=by unfold XG;rw [zC5,zB4]
     have e2:=Qp 32 w;have e3:w.countP (· == 32)≤w.length:=List.countP_le_length;have e4:=hw w (by simp);omega
   refine ⟨?_,k.2⟩;have:=k.1;simp only [zB2,zC4,List.length_nil] at this ⊢;omega
  ·rw [if_neg q];exact ⟨by simp,fun x hx=>by simp at hx⟩
theorem qbY {l:List Tab} {s:List UInt8}:(Yo l s).1.length≤65537∧∀ x∈(Yo l s).1,x.ta.length≤65537:=by
 unfold Yo;by_cases q:65536<s.length
 ·rw [if_pos q];exact ⟨by simp,fun x hx=>by simp at hx⟩
 ·rw [if_neg q];have k:=qaa (l:=l) (n:=s.length) (zQ 10 s) [] 0 (WC 10 s) fun x hx=>by simp at hx
  have e2:=Qp 10 s;have e3:s.countP (· == 10)≤s.length:=List.countP_le_length;refine ⟨?_,fun x hx=>?_⟩
  ·have:=k.1;rw [List.length_nil] at this;omega
  ·have:=k.2 x hx;omega
end Go.Proofs.Xx
namespace Go.Proofs.Xx
open Go Go.Proofs
theorem qa5 {l:List (List UInt8)} (h:∀ w∈l,(10:UInt8) ∉ w):xJ 10 (txt l)=l.length:=by
 have e:=Qp 10 (txt l);rw [vZ h,zB2] at e;unfold xJ;simp only [zD5] at e;omega
theorem qci {l:List Tab} {x:Trp} {j k:Nat} (hj:j≤k):(yx l x j).length≤(yx l x k).length:=by
 unfold yx;rw [WZ,WZ,zB2,zB2];have e:(x.ta.take k).map (jd l)=(x.ta.take j).map (jd l) ++ ((x.ta.take k).drop j).map (jd l):=by
  rw [← zC9];congr 1
  rw [show x.ta.take j=(x.ta.take k).take j by rw [List.take_take,zE5 hj],zH1]
 have:tlW (QV x.pl.toNat :: QV x.st.toNat :: (x.ta.take k).map (jd l))=tlW (QV x.pl.toNat :: QV x.st.toNat :: (x.ta.take j).map (jd l)) ++ tlW (((x.ta.take k).drop j).map (jd l)):=by
  rw [e];unfold tlW;simp
 rw [this,zB2];omega
theorem qaQ {l:List Tab} {xs:List Trp} {i k:Nat} (h:i≤k):(Zi l xs i).length≤(Zi l xs k).length:=by
 unfold Zi;have e:(xs.take k).map (fun x=>J6 (JJ l x))=(xs.take i).map (fun x=>J6 (JJ l x)) ++ ((xs.take k).drop i).map (fun x=>J6 (JJ l x)):=by
  rw [← zC9];congr 1
  rw [show xs.take i=(xs.take k).take i by rw [List.take_take,zE5 h],zH1]
 rw [e,PT,zB2];omega
variable [Flag]
theorem gX {h0:AH} (w:WfH h0) (hf:Flag.b=true) (pv:PbV) (p:Pb) (H:PbOk h0 pv p) (hP:PO p) (vx:Value) (xs:List Tr_) (rx:zo h0 vx 3 JC xs) (rr:∀ i,i<xs.length→zo h0 (xs.getD i default).tv.val 1 eI (xs.getD i default).ta) (s:List UInt8) (hs:s.length≤2000) (h1:∀ x∈Qz xs,GI p.tabs x) (h2:Zl p.tabs (Qz xs)=s) (hx:xs.length≤1000000) (ht:∀ i,i<xs.length→(xs.getD i default).ta.length≤1000000) :
 Fn Tryz.prog Xh 16 [pv.val,vx] h0 (fun u h'=>u=str s∧Hs h0 h' []):=by
 have hml:(Qz xs).length=xs.length:=by simp
 have hall:=wW (l:=p.tabs) (xs:=Qz xs) fun j hj=>h1 _ (qJ hj);rw [h2,hml] at hall;have hL:∀ i,i≤xs.length→(Zi p.tabs (Qz xs) i).length≤2000:=fun i hi=>by
  have:=qaQ (l:=p.tabs) (xs:=Qz xs) hi;rw [← hall] at this;omega
 refine (VD w hf pv p H vx xs rx rr hx ht (fun _ i hi _=>by have:=hL i hi;omega) fun _ i j hi hj _=>?_).mono ?_
 ·have e:=wL (l:=p.tabs) (xs:=Qz xs) (i:=i) (by omega);have ex:(Qz xs).getD i default=(xs.getD i default).trp:=zu (f:=fun x:Tr_=>x.trp) hi;rw [ex] at e;have h3:=hL (i+1) (by omega);rw [e,zB2,zB2] at h3;have h4:=qci (l:=p.tabs) (x:=(xs.getD i default).trp) hj;have h5:(xs.getD i default).trp.ta.length=(xs.getD i default).ta.length:=rfl;rw [h5] at h3;omega
 ·rintro u h ⟨t,rfl,f1,-,x⟩;exact ⟨by rw [f1 hP,h2],x⟩
theorem Yg {h0:AH} (w:WfH h0) (hf:Flag.b=true) (v:NuV) (na nb nc nd:List Nat) (H:NuR h0 v na nb nc nd) (va:Value) (mo:List Nat) (rmo:zo h0 va 1 e16 mo) (cmo:zV va) (hmo:mo.length≤9223372036854775807) (hm16:∀ i,i<mo.length→mo.getD i default<65536)
 (vs:Value) (ls:List Int) (rsl:zo h0 vs 1 eI ls) (hls:ls.length≤9223372036854775807) (vsw:Value) (sw:List (Nat×Nat)) (rs:zo h0 vsw 2 e82 sw) (cs:zV vsw) (hs:sw.length≤9223372036854775807) (hb:∀ i,i<sw.length→(sw.getD i default).1<256∧(sw.getD i default).2<256) (s:List UInt8) :
 Fn Tryz.prog Xh 5 [.agg #[v.vt.val,v.vg.val,v.vi.val,v.vr.val],va,vs,vsw,str s] h0 (fun u _=>u = .bool true):=by
 have S:=Hs.start w;refine qM (by first|rfl) Tryz.func5 rfl rfl ?_;all_goals (repeat' (first|refine qg ?_|(refine qc 0 ?_;(refine bx S ?_;clear S;intro b h S);refine mv ?_;refine qf ?_)|(refine qc 1 ?_;refine lB S rfl rfl ?_;refine mv ?_;refine mv ?_)))
 (refine qx rfl rfl rfl rfl rfl ((qaM S.wf v na nb nc nd (H.ext w S.ext) va mo (rmo.ext w S.ext) cmo hmo hm16 vs ls (rsl.ext w S.ext) hls).mono ?_);rintro _ h ⟨pv,p,q,vq,rfl,hP,hl9,hO,hQ,rq,s⟩)<;>(replace S:=S.join0 s;clear s;have w1:=S.wf;have rs':=rs.ext w S.ext;replace S:=Hs.start w1;obtain ⟨hB0,hnm⟩:∃ x,x=h:=⟨_,rfl⟩;subst hnm;refine mv ?_;refine vl ?_;refine vl ?_;(refine al S ?_;clear S;intro b h S);(first|(refine sB S rfl rfl ?_;clear S;intro h S));refine mv ?_;refine qf ?_)
 obtain ⟨b11,hnm⟩:∃ x,x=b:=⟨_,rfl⟩;subst hnm;replace S:Hs hB0 h [.blk b11 pv.cs 28]:=S;have hq64:=hQ.ql hP;have hv:=hP.tabs;have hsl:=P5 (pl:=jM p q);have hpl:=ZR (p:=p) (q:=q);rw [hpl] at hsl;have hpl2:(jM p q).length≤1000:=by rw [hpl];omega
 have hsr:=qbD (p:=p) (q:=q);have hld:=qel (p:=p) (q:=q);(repeat (refine qg ?_));refine jm (id:=2) [(0,(0,3))] [some (b11)] ?_;refine qh ?_;(first|(refine lB S rfl rfl ?_<;>refine qf ⟨⟨by (first|exact Or.inr rfl),rfl⟩,?_⟩));refine qh ?_;(first|(refine mv ?_<;>refine qf ⟨⟨by (first|exact True.intro),rfl⟩,?_⟩));refine qh ?_;(first|(refine lB S rfl rfl ?_<;>refine qf ⟨⟨by (first|exact True.intro),rfl⟩,?_⟩));refine qh ?_;(first|(refine mv ?_<;>refine qf ⟨⟨by (first|exact True.intro),rfl⟩,?_⟩));((refine qh ?_;first|refine qx rfl rfl rfl rfl rfl ((PP S.wf pv p (hO.ext w1 S.ext) hP vq q (rq.ext w1 S.ext) hQ).mono ?_));rintro vp h x)<;>((refine qf ⟨⟨True.intro,?_⟩,?_⟩;(focus ((show keepsX _ _ _ _ _;simp only [keepsX];(repeat' (first|exact True.intro|refine And.intro ?_ ?_));all_goals (intro hw;first|exact x.ext.old _ S.bB)))));replace S:=S.join1 x;clear x)
 ((refine qh ?_;first|refine qx rfl rfl rfl rfl rfl ((Pj S.wf vp (jM p q) (Rd.of_sl S .here) hpl2).mono ?_));rintro vst h x)<;>((refine qf ⟨⟨True.intro,?_⟩,?_⟩;(focus ((show keepsX _ _ _ _ _;simp only [keepsX];(repeat' (first|exact True.intro|refine And.intro ?_ ?_));all_goals (intro hw;first|exact x.ext.old _ S.bB)))));replace S:=S.join1 x;clear x;refine qh ?_;(first|(refine mv ?_<;>refine qf ⟨⟨by (first|exact True.intro),rfl⟩,?_⟩)))
 ((refine qh ?_;first|refine qx rfl rfl rfl rfl rfl ((wZ S.wf vst (srv (jM p q)) (Rd.of_sl S .here) (by omega) vsw sw (rs'.ext w1 S.ext) cs hs hb).mono ?_));rintro vw h ⟨way,hw,x⟩)<;>((refine qf ⟨⟨True.intro,?_⟩,?_⟩;(focus ((show keepsX _ _ _ _ _;simp only [keepsX];(repeat' (first|exact True.intro|refine And.intro ?_ ?_));all_goals (intro hw;first|exact x.ext.old _ S.bB)))));replace S:=S.join1 x;clear x)
 have hwl:way.length≤9:=by have:=hw.length_eq;omega
 have hwr:∀ t∈way,0≤t∧t<p.tabs.length:=fun t ht=>hsr t (hw.mem_iff.1 ht);have cvw:=S.capS .here;((refine qh ?_;first|refine qx rfl rfl rfl rfl rfl ((qbm S.wf pv p (hO.ext w1 S.ext) hP vq q (rq.ext w1 S.ext) hQ hl9 vw way (Rd.of_sl S .here) cvw hw 64 (by omega)).mono ?_));rintro _ h (⟨⟨t0,ht0,htk⟩,rfl,x⟩|⟨hle,vL,ts,rfl,x,c1,c2,c3,c4⟩))<;>((refine qf ⟨⟨True.intro,?_⟩,?_⟩;(focus ((show keepsX _ _ _ _ _;simp only [keepsX];(repeat' (first|exact True.intro|refine And.intro ?_ ?_));all_goals (intro hw;first|exact absurd hw (by decide +kernel))))));(first|replace S:=S.join2 x|replace S:=S.join0 x);clear x;refine qh ?_;(first|(refine mv ?_<;>refine qf ⟨⟨by (first|exact True.intro),rfl⟩,?_⟩));refine qh ?_;(first|(refine vl ?_<;>refine qf ⟨⟨by (first|exact True.intro),rfl⟩,?_⟩));refine qh ?_;(first|(refine vl ?_<;>refine qf ⟨⟨by (first|exact True.intro),rfl⟩,?_⟩));refine qh ?_;(first|(refine mv ?_<;>refine qf ⟨⟨by (first|exact True.intro),rfl⟩,?_⟩));refine qh ?_;(first|(refine mv ?_<;>refine qf ⟨⟨by (first|exact True.intro),rfl⟩,?_⟩));refine jw ?_)
 ·exact absurd (hld t0).2 (by omega)
 have hfl:(ts.map (·.ta)).flatten.length≤9:=by rw [c2];exact hwl
 have htsl:ts.length≤9:=qcw hfl fun x hx=>(c1 x.ta (zF1.2 ⟨x,hx,rfl⟩)).1;have htx:∀ x∈ts,∀ t∈x.ta,0≤t∧t<p.tabs.length:=fun x hx t ht=>hwr t (by rw [← c2];exact List.mem_flatten.2 ⟨x.ta,zF1.2 ⟨x,hx,rfl⟩,ht⟩);have hta:∀ i,i<ts.length→(ts.getD i default).ta.length≤12:=fun i hi=>zD0 (qaj hfl hi) (by omega);have hok:∀ x∈Qz ts,GI p.tabs x:=fun x hx=>by
  obtain ⟨y,hy,rfl⟩:=zF1.1 hx;obtain ⟨e1,e2⟩:=c3 y hy;obtain ⟨d1,d2⟩:=c1 y.ta (zF1.2 ⟨y,hy,rfl⟩);have h1:=GY hP.tabs (l:=y.ta) fun t ht=>(htx y hy t ht).2;have h2:y.ta.length≤9:=by
   obtain ⟨j,hj,rfl⟩:=qI.1 hy;exact qaj hfl hj
  have h3:=vU (ld:=ZK (jM p q)) (l:=y.ta) fun t _=>(hld t).1;refine ⟨d1,?_,?_,htx y hy⟩
  ·show 0≤y.pl∧y.pl≤999999999
   omega
  ·show 0≤y.st∧y.st≤999999999
   omega
 have hlen:(Zl p.tabs (Qz ts)).length≤65536:=by
  have hml:(Qz ts).length=ts.length:=by simp
  rw [wW (l:=p.tabs) (xs:=Qz ts) fun j hj=>hok _ (qJ hj)];have:=qae hv (xs:=Qz ts) (i:=(Qz ts).length) (fun i hi=>by
   have hi':i<ts.length:=by omega
   rw [show (Qz ts).getD i default=(ts.getD i default).trp from zu (f:=fun x:Tr_=>x.trp) hi'];exact hta i hi') (zA3 _) fun j hj=>hok _ (qJ hj)
  omega
 have hpf:=qdv hv hok hlen;have hcnt:xJ (([10]:List UInt8).getD 0 0) (Zl p.tabs (Qz ts))=ts.length:=by
  have e:Zl p.tabs (Qz ts)=txt ((Qz ts).map fun x=>J6 (JJ p.tabs x)):=by unfold Zl;rw [if_pos hok]
  have e2:xJ 10 (Zl p.tabs (Qz ts))=((Qz ts).map fun x=>J6 (JJ p.tabs x)).length:=by
   rw [e];exact qa5 fun w hw=>by
    obtain ⟨x,hx,rfl⟩:=zF1.1 hw;exact (GK hv (hok x hx)).2.1
  rw [zC5,zC5] at e2;exact e2
 all_goals (repeat' (refine qg ?_))
 have w2:=S.wf;have rL:=Rd.of_sl S .here;have rrL:∀ i,i<ts.length→zo h (ts.getD i default).tv.val 1 eI (ts.getD i default).ta:=fun i hi=>WR S (.there .here) hi;have g11:=Hs.gB (b:=b11) S;have hO2:=hO.ext w1 S.ext;clear S;have S:=Hs.start w2;obtain ⟨hB,hnm⟩:∃ x,x=h:=⟨_,rfl⟩;subst hnm;all_goals (repeat' (first|(refine qc 3 ?_;refine lH S ?_;refine mv ?_)))
 (refine qx rfl rfl rfl rfl rfl ((pO S.wf hf pv p (hO2.ext w2 S.ext) vL ts (rL.ext w2 S.ext) (fun i hi=>(rrL i hi).ext w2 S.ext) (by omega) hta).mono ?_);rintro _ h ⟨t,rfl,f1,-,x⟩)<;>(replace S:=S.join0 x;clear x;obtain rfl:=f1 hP;refine mv ?_;refine qf ?_)
 all_goals (repeat' (first|refine qg ?_|(refine qc 4 ?_;refine lH S ?_;refine mv ?_)))
 (refine qx rfl rfl rfl rfl rfl ((yL S.wf pv p (hO2.ext w2 S.ext) (Zl p.tabs (Qz ts))).mono ?_);rintro _ h ⟨va1,ta,ia,ea,rfl,x,hA⟩)<;>(replace S:=S.join2 x;clear x;refine mv ?_;refine vl ?_;refine vl ?_;refine vl ?_;(iterate 3 refine mv ?_);refine qf ?_)
 have key:Qz ta=Qz ts∧ia=0∧ea=0:=by
  rcases hA with ⟨z1,-⟩|⟨-,z2⟩
  ·exact absurd hP z1
  ·rw [hpf] at z2;exact ⟨(Prod.mk.inj z2).1,(Prod.mk.inj (Prod.mk.inj z2).2).1,(Prod.mk.inj (Prod.mk.inj z2).2).2⟩
 obtain ⟨k1,rfl,rfl⟩:=key;have htal:ta.length=ts.length:=by have:=congrArg List.length k1;simpa using this
 have hta2:∀ i,i<ta.length→(ta.getD i default).ta.length≤1000000:=fun i hi=>by
  have e1:(ta.getD i default).trp=(ts.getD i default).trp:=by
   rw [← zu (f:=fun x:Tr_=>x.trp) hi,← zu (f:=fun x:Tr_=>x.trp) (show i<ts.length by omega)];exact congrArg (fun l=>List.getD l i default) k1
  have e2:(ta.getD i default).ta=(ts.getD i default).ta:=congrArg Trp.ta e1;rw [e2];exact zD0 (hta i (by omega)) (by omega)
 all_goals (repeat' (refine qg ?_))
 all_goals (repeat' (first|(refine qc 5 ?_;refine mv ?_;(refine cF ?_)<;>(refine mv ?_;refine mv ?_;(first|(refine cF ?_))<;>(refine vl ?_;refine mv ?_;refine mv ?_;(first|(refine cF ?_))<;>(refine vl ?_;(iterate 3 refine mv ?_);(skip)))))))
 (refine qx rfl rfl rfl rfl rfl ((qbJ S.wf va1 vL ta ts (Rd.of_sl S .here) (rL.ext w2 S.ext) (fun i hi=>WR S (.there .here) hi) (fun i hi=>(rrL i hi).ext w2 S.ext) (by omega) k1 hta2).mono ?_);rintro _ h ⟨rfl,x⟩)<;>(replace S:=S.join0 x;clear x;refine vl ?_;refine vl ?_;refine mv ?_;refine mv ?_;(skip))
 all_goals (repeat' (fail))
 (refine qx rfl rfl rfl rfl rfl ((YY (Zl p.tabs (Qz ts)) [10] rfl).mono ?_);rintro _ _ ⟨rfl,rfl⟩)<;>((refine mv ?_);(first|(refine jZ S ?_));(first|(refine cF ?_))<;>(refine vl ?_;refine qf ?_))
 all_goals (repeat' (first|refine qg ?_|refine qi rfl ?_|refine qj ?_))
 all_goals (repeat' (first|refine qg ?_|refine qi rfl ?_|refine qj ?_|(refine qc 7 ?_;refine mv ?_;refine tl ?_;(first|(refine cS ?_ ?_<;>intro hc))<;>(refine qf ?_))|(refine qc 8 ?_;skip)))
 ·(refine qx rfl rfl rfl rfl rfl ((Vj S.wf).mono ?_);rintro _ h ⟨rfl,x⟩)<;>(replace S:=S.join0 x;clear x;refine mv ?_;refine qf ?_)
  all_goals (repeat' (fail))
  refine qw ⟨_,rfl,?_⟩;rfl
 all_goals (repeat' (first|(refine qc 9 ?_;refine lH S ?_;refine mv ?_)))
 (refine qx rfl rfl rfl rfl rfl ((yL S.wf pv p (hO2.ext w2 S.ext) s).mono ?_);rintro _ h ⟨vb,tb2,ib,eb,rfl,x,hA2⟩)<;>(replace S:=S.join2 x;clear x;refine mv ?_;refine vl ?_;refine vl ?_;refine vl ?_;(iterate 3 refine mv ?_);refine qf ?_)
 have hz2:(Qz tb2,ib,eb)=Yo p.tabs s:=by
  rcases hA2 with ⟨z1,-⟩|⟨-,z2⟩
  ·exact absurd hP z1
  ·exact z2
 have hlb:tb2.length≤1000000∧∀ i,i<tb2.length→(tb2.getD i default).ta.length≤1000000:=by
  have hp:=qbY (l:=p.tabs) (s:=s);rw [← hz2] at hp;refine ⟨by have:=hp.1;rw [zC5] at this;omega,fun i hi=>?_⟩;have:=hp.2 _ (zF1.2 ⟨_,qJ hi,rfl⟩);exact zD0 this (by omega)
 all_goals (repeat' (first|refine qg ?_|refine qi rfl ?_|refine qj ?_|(refine qc 10 ?_;refine mv ?_;(first|(refine cS ?_ ?_<;>intro hc))<;>(refine qf ?_))))
 ·obtain ⟨l1,l2,l3⟩:=qbX hz2.symm (by assumption);have hz:tb2.length=0:=by have:=congrArg List.length l1;simpa using this
  have e2:=Qp 10 s;have e3:xJ (([10]:List UInt8).getD 0 0) s=s.countP (· == 10):=rfl;all_goals (repeat' (first|(refine qc 11 ?_;refine mv ?_;refine yc S rfl rfl ?_;(refine cT ?_)<;>(refine mv ?_;refine mv ?_;(first|(refine cT ?_))<;>(refine vl ?_;(iterate 3 refine mv ?_);(skip))))))
  all_goals (try exact absurd hz (by omega))
  all_goals (try exact absurd l2 (by omega))
  (refine qx rfl rfl rfl rfl rfl ((YY s [10] rfl).mono ?_);rintro _ _ ⟨rfl,rfl⟩)<;>((first|(refine cT ?_))<;>(refine vl ?_;refine mv ?_;(skip)))
  all_goals (repeat' (fail))
  all_goals (try exact absurd l3 (by omega))
  (refine qx rfl rfl rfl rfl rfl ((Vj S.wf).mono ?_);rintro _ h ⟨rfl,x⟩)<;>(replace S:=S.join0 x;clear x;refine vl ?_;refine mv ?_;refine qf ?_)
  all_goals (repeat' (fail))
  refine qw ⟨_,rfl,?_⟩;rfl
 ·have he0:eb=0:=by omega
  subst he0;obtain ⟨l1,l2,l3⟩:=qdM hv (show s.length≤65536 by omega) hz2.symm;subst l3;all_goals (repeat' (first|(refine qc 12 ?_;refine lH S ?_;refine mv ?_)))
  (refine qx rfl rfl rfl rfl rfl ((gX S.wf hf pv p (hO2.ext w2 S.ext) hP vb tb2 (Rd.of_sl S .here) (fun i hi=>WR S (.there .here) hi) s (by omega) l1 l2 hlb.1 hlb.2).mono ?_);rintro _ h ⟨rfl,x⟩)<;>(replace S:=S.join0 x;clear x;refine mv ?_;(refine tS ?_ ?_<;>intro hc)<;>(refine mv ?_;(first|refine off ?_|refine mv ?_);(first|refine off ?_|(refine cT ?_))<;>(refine vl ?_;refine mv ?_;(first|(refine off ?_;refine vl ?_;refine mv ?_;refine qf ?_)|skip))))
  all_goals (repeat' (fail))
  all_goals (try exact absurd rfl (by assumption))
  (refine qx rfl rfl rfl rfl rfl ((Vj S.wf).mono ?_);rintro _ h ⟨rfl,x⟩)<;>(replace S:=S.join0 x;clear x;refine vl ?_;refine mv ?_;refine qf ?_)
  all_goals (repeat' (fail))
  refine qw ⟨_,rfl,?_⟩;rfl
end Go.Proofs.Xx
namespace Go.Proofs.Xx
open Go Go.RowKit Go.Proofs
theorem Yh [Flag] (hf:Flag.b=true) (h:AH) (us:List Value) (w:WfH h) (a:ArgsR Tryz.prog h Tryz.f5.params.toList us):Fn Tryz.prog Xh 5 us h (fun x _=>x = .bool true):=by
 rw [show Tryz.f5.params.toList=[39,36,25,40,9] by kernel_rfl] at a;obtain ⟨n0,r0,us,rfl,a0,a⟩:=a.cons_inv;obtain ⟨n1,r1,us,rfl,a1,a⟩:=a.cons_inv;obtain ⟨n2,r2,us,rfl,a2,a⟩:=a.cons_inv;obtain ⟨n3,r3,us,rfl,a3,a⟩:=a.cons_inv;obtain ⟨n4,r4,us,rfl,a4,a⟩:=a.cons_inv;obtain rfl:=a.nil_inv;obtain ⟨v,na,nb,nc,nd,rfl,H⟩:=a0.nums1;obtain ⟨va,la,rfl,ra,la1,ca,la2⟩:=a1.e16s;obtain ⟨vb,lb,rfl,rb,lb1,cb⟩:=a2.intsN;obtain ⟨vc,lc,rfl,rc,lc1,cc,lc2⟩:=a3.pairs1;obtain ⟨s,rfl,hs⟩:=AR.str1 a4 (by kernel_rfl);unfold maxLen at la1 lb1 lc1;exact Yg w hf v na nb nc nd H va la ra ca (by omega) la2 vb lb rb (by omega) vc lc rc cc (by omega) lc2 s
end Go.Proofs.Xx
namespace Go.Proofs.Xx
open Go Go.RowKit Go.Proofs
def KN:List Nat:=[8,235,176,323,321,300,243,67,239,124]
theorem qd4 (f:FuncId) (hk:KN.all (fun n=>!Nat.beq f n)=true) (us:List Value) (h:AH):Xh f us h=none:=by
 have e:∀ n,n∈KN→Nat.beq f n=false:=fun n q=>by have:=zC8.1 hk n q;simpa using this
 unfold Xh ZM Xa X4 Jb Xd Zr X0 V5 V4 V6 withBytes jJ;simp only [e 8 (by decide),e 235 (by decide),e 176 (by decide),e 323 (by decide),e 321 (by decide),e 300 (by decide),e 243 (by decide),e 67 (by decide),e 239 (by decide),e 124 (by decide)]
theorem Y3 {W:World} (h:W.ShapedOpen Tryz.prog):1<W.heap.size∧∃ m el fr,W.heap[0]? = some (.cells #[.int .i64 m] el fr):=by
 have h0:((begin Tryz.prog (fun _ _=>0) default).world.heap[0]?).bind Obj.row? = some (#[.int .i64 0],3):=by kernel_rfl
 obtain ⟨m,hm⟩:=cell_of_shapedOpen_int h (g:=0) (t:=3) (of_decide_eq_true (by kernel_rfl)) h0 rfl (by kernel_rfl) (by kernel_rfl) Tryz.underlying3;obtain ⟨cs,hh,hs,-⟩:=h.1 0 _ 3 (of_decide_eq_true (by kernel_rfl)) h0;refine ⟨?_,m,3,(0,0),?_⟩
 ·have h1:(((begin Tryz.prog (fun _ _=>0) default).world.heap[1]?).bind Obj.row?).isSome=true:=by kernel_rfl
  obtain ⟨⟨z,t⟩,h1⟩:=Option.isSome_iff_exists.1 h1;obtain ⟨cs,hh,-⟩:=h.1 1 z t (of_decide_eq_true (by kernel_rfl)) h1;exact (zB9.1 hh).1
 ·rw [hh];have:cs=#[.int .i64 m]:=by
   simp only [World.cell?,hh] at hm;obtain ⟨l⟩:=cs;match l,hs,hm with
   | [x],_,hm=>simp at hm;rw [hm]
   | [],hs,_=>cases hs
   | _ :: _ :: _,hs,_=>simp at hs
  rw [this]
theorem Gn {W:World} (h:W.ShapedOpen Tryz.prog):∃ (k:Nat) (cc:Array Value) (el:TypeId) (fr:Nat×Nat),W.heap[k]? = some (.cells cc el fr):=by
 obtain ⟨-,m,el,fr,q⟩:=Y3 h;exact ⟨0,_,el,fr,q⟩
end Go.Proofs.Xx
namespace Go.Proofs.Xx
open Go Go.RowKit Go.Proofs
theorem qcu:(Tryz.prog.globals[1]?).map (·.type)=some 283:=by kernel_rfl
theorem qcs [Flag] {W:World} {x y:String×DataW Unit} {rest:List (String×DataW Unit)} (h:laidMet Tryz.prog (x :: y :: ("internal/strconv.uint64pow10", YtgehpahpnidimaaGreatDoor.Rows.laid_internal_strconv_uint64pow10) :: rest) W) (hS:W.ShapedOpen Tryz.prog) :
 Glob.ok W.heap.size W.heap:=by
 refine ⟨(Y3 hS).1,(Y3 hS).2,fun _=>?_⟩;have t:Lib.TabIs Tryz.prog W "internal/strconv.uint64pow10" .u64 Lib.pow10Tab :=
  Lib.tabIs_of_head qeL qcu (n:=20) (e:=255) (by kernel_rfl) (by kernel_rfl) (by kernel_rfl) (by kernel_rfl) (laidMet.tail (laidMet.tail h))
 unfold Lib.TabIs World.var? at t;rw [qeL] at t;simp only [Option.bind_some] at t;split at t
 ·rename_i cs el fr hc
  cases t
  exact ⟨el,fr,hc⟩
 ·cases t
section
variable {P:Program} {X:Extern} {sz:Nat} {ops:Array Oper} {os:List Oper} {R:Ks→AH→Prop}
theorem qha {L0:Ks} {h0:AH} {o0 o1 o2:Oper} {L1:Ks} {x0:Operand} {v0:Value} {L2:Ks} {x1 y1:Operand} {ty1 tz1:TypeId} {a1 b1:Int} {L3:Ks} {x2:Operand} {v2:Value} (w:R L3 h0) (ho0:Zo o0.op=some x0:=by exact rfl) (hg0:qo ops L0.tree o0.guard=some true:=by exact rfl) (hx0:kA L0 x0=some v0:=by exact rfl) (hp0:qE sz L0 o0.dst v0=some L1:=by exact rfl) (ho1:o1.op = .binOp .add ty1 x1 y1 tz1:=by exact rfl) (hg1:qo ops L1.tree o1.guard=some true:=by exact rfl) (hx1:kA L1 x1=some (.int .i64 a1):=by exact rfl) (hy1:kA L1 y1=some (.int .i64 b1):=by exact rfl) (hb1 : -9223372036854775808≤a1+b1∧a1+b1≤9223372036854775807:=by first|omega|grind) (hp1:qE sz L1 o1.dst (.int .i64 (a1+b1))=some L2:=by exact rfl) (ho2:Zo o2.op=some x2:=by exact rfl) (hg2:qo ops L2.tree o2.guard=some true:=by exact rfl) (hx2:kA L2 x2=some v2:=by exact rfl) (hp2:qE sz L2 o2.dst v2=some L3:=by exact rfl):KO P X sz ops [o0,o1,o2] L0 h0 R:=mv (ad (mv (qf w) ho2 hg2 hx2 hp2) ho1 hg1 hx1 hy1 hb1 hp1) ho0 hg0 hx0 hp0
theorem qg9 {L0:Ks} {h0:AH} {o0 o1 o2:Oper} {L1:Ks} {x0:Operand} {v0:Value} {L2:Ks} {x1 y1:Operand} {ty1 tz1:TypeId} {a1 b1:Int} {L3:Ks} {x2:Operand} {v2:Value} (w:R L3 h0) (ho0:Zo o0.op=some x0:=by exact rfl) (hg0:qo ops L0.tree o0.guard=some true:=by exact rfl) (hx0:kA L0 x0=some v0:=by exact rfl) (hp0:qE sz L0 o0.dst v0=some L1:=by exact rfl) (ho1:o1.op = .binOp .sub ty1 x1 y1 tz1:=by exact rfl) (hg1:qo ops L1.tree o1.guard=some true:=by exact rfl) (hx1:kA L1 x1=some (.int .i64 a1):=by exact rfl) (hy1:kA L1 y1=some (.int .i64 b1):=by exact rfl) (hb1 : -9223372036854775808≤a1 - b1∧a1 - b1≤9223372036854775807:=by first|omega|grind) (hp1:qE sz L1 o1.dst (.int .i64 (a1 - b1))=some L2:=by exact rfl) (ho2:Zo o2.op=some x2:=by exact rfl) (hg2:qo ops L2.tree o2.guard=some true:=by exact rfl) (hx2:kA L2 x2=some v2:=by exact rfl) (hp2:qE sz L2 o2.dst v2=some L3:=by exact rfl):KO P X sz ops [o0,o1,o2] L0 h0 R:=mv (sb (mv (qf w) ho2 hg2 hx2 hp2) ho1 hg1 hx1 hy1 hb1 hp1) ho0 hg0 hx0 hp0
theorem qgx {L0:Ks} {h0:AH} {o0 o1 o2 o3 o4:Oper} {L1:Ks} {x0:Operand} {v0:Value} {L2:Ks} {h2:AH} {v1:Value} {L3:Ks} {h3:AH} {v2:Value} {L4:Ks} {x3:Operand} {v3:Value} {L5:Ks} {x4:Operand} {v4:Value} (w:R L5 h3) (ho0:Zo o0.op=some x0:=by exact rfl) (hg0:qo ops L0.tree o0.guard=some true:=by exact rfl) (hx0:kA L0 x0=some v0:=by exact rfl) (hp0:qE sz L0 o0.dst v0=some L1:=by exact rfl) (hg1:qo ops L1.tree o1.guard=some true:=by exact rfl) (ha1:zD P L1.tree h0 o1.op=some (.val v1 h2):=by exact rfl) (hp1:qE sz L1 o1.dst v1=some L2:=by exact rfl) (hg2:qo ops L2.tree o2.guard=some true:=by exact rfl) (ha2:zD P L2.tree h2 o2.op=some (.val v2 h3):=by exact rfl) (hp2:qE sz L2 o2.dst v2=some L3:=by exact rfl) (ho3:Zo o3.op=some x3:=by exact rfl) (hg3:qo ops L3.tree o3.guard=some true:=by exact rfl) (hx3:kA L3 x3=some v3:=by exact rfl) (hp3:qE sz L3 o3.dst v3=some L4:=by exact rfl) (ho4:Zo o4.op=some x4:=by exact rfl) (hg4:qo ops L4.tree o4.guard=some true:=by exact rfl) (hx4:kA L4 x4=some v4:=by exact rfl) (hp4:qE sz L4 o4.dst v4=some L5:=by exact rfl):KO P X sz ops [o0,o1,o2,o3,o4] L0 h0 R:=mv (vl (vl (mv (mv (qf w) ho4 hg4 hx4 hp4) ho3 hg3 hx3 hp3) hg2 ha2 hp2) hg1 ha1 hp1) ho0 hg0 hx0 hp0
theorem qgR {L0:Ks} {h0:AH} {o0 o1 o2 o3:Oper} {L1:Ks} {x0:Operand} {v0:Value} {L2:Ks} {x1:Operand} {v1:Value} {L3:Ks} {x2 y2:Operand} {ty2 tz2:TypeId} {a2 b2:Int} {L4:Ks} {x3:Operand} {v3:Value} (w:R L4 h0) (ho0:Zo o0.op=some x0:=by exact rfl) (hg0:qo ops L0.tree o0.guard=some true:=by exact rfl) (hx0:kA L0 x0=some v0:=by exact rfl) (hp0:qE sz L0 o0.dst v0=some L1:=by exact rfl) (ho1:Zo o1.op=some x1:=by exact rfl) (hg1:qo ops L1.tree o1.guard=some true:=by exact rfl) (hx1:kA L1 x1=some v1:=by exact rfl) (hp1:qE sz L1 o1.dst v1=some L2:=by exact rfl) (ho2:o2.op = .binOp .sub ty2 x2 y2 tz2:=by exact rfl) (hg2:qo ops L2.tree o2.guard=some true:=by exact rfl) (hx2:kA L2 x2=some (.int .i64 a2):=by exact rfl) (hy2:kA L2 y2=some (.int .i64 b2):=by exact rfl) (hb2 : -9223372036854775808≤a2 - b2∧a2 - b2≤9223372036854775807:=by first|omega|grind) (hp2:qE sz L2 o2.dst (.int .i64 (a2 - b2))=some L3:=by exact rfl) (ho3:Zo o3.op=some x3:=by exact rfl) (hg3:qo ops L3.tree o3.guard=some true:=by exact rfl) (hx3:kA L3 x3=some v3:=by exact rfl) (hp3:qE sz L3 o3.dst v3=some L4:=by exact rfl):KO P X sz ops [o0,o1,o2,o3] L0 h0 R:=mv (mv (sb (mv (qf w) ho3 hg3 hx3 hp3) ho2 hg2 hx2 hy2 hb2 hp2) ho1 hg1 hx1 hp1) ho0 hg0 hx0 hp0
theorem qho {L0:Ks} {h0:AH} {o0 o1:Oper} {L1:Ks} {x0:Operand} {v0:Value} {L2:Ks} {x1:Operand} {v1:Value} (w:R L2 h0) (ho0:Zo o0.op=some x0:=by exact rfl) (hg0:qo ops L0.tree o0.guard=some true:=by exact rfl) (hx0:kA L0 x0=some v0:=by exact rfl) (hp0:qE sz L0 o0.dst v0=some L1:=by exact rfl) (ho1:Zo o1.op=some x1:=by exact rfl) (hg1:qo ops L1.tree o1.guard=some true:=by exact rfl) (hx1:kA L1 x1=some v1:=by exact rfl) (hp1:qE sz L1 o1.dst v1=some L2:=by exact rfl):KO P X sz ops [o0,o1] L0 h0 R:=mv (mv (qf w) ho1 hg1 hx1 hp1) ho0 hg0 hx0 hp0
theorem qhp {L0:Ks} {h0:AH} {o0 o1:Oper} {L1:Ks} {x0 y0:Operand} {ty0 tz0:TypeId} {a0 b0:Int} {L2:Ks} {x1:Operand} {v1:Value} (w:R L2 h0) (ho0:o0.op = .binOp .add ty0 x0 y0 tz0:=by exact rfl) (hg0:qo ops L0.tree o0.guard=some true:=by exact rfl) (hx0:kA L0 x0=some (.int .i64 a0):=by exact rfl) (hy0:kA L0 y0=some (.int .i64 b0):=by exact rfl) (hb0 : -9223372036854775808≤a0+b0∧a0+b0≤9223372036854775807:=by first|omega|grind) (hp0:qE sz L0 o0.dst (.int .i64 (a0+b0))=some L1:=by exact rfl) (ho1:Zo o1.op=some x1:=by exact rfl) (hg1:qo ops L1.tree o1.guard=some true:=by exact rfl) (hx1:kA L1 x1=some v1:=by exact rfl) (hp1:qE sz L1 o1.dst v1=some L2:=by exact rfl):KO P X sz ops [o0,o1] L0 h0 R:=ad (mv (qf w) ho1 hg1 hx1 hp1) ho0 hg0 hx0 hy0 hb0 hp0
theorem qhl {L0:Ks} {h0:AH} {o0 o1:Oper} {L1:Ks} {h1:AH} {v0:Value} {L2:Ks} {x1:Operand} {v1:Value} (w:R L2 h1) (hg0:qo ops L0.tree o0.guard=some true:=by exact rfl) (ha0:zD P L0.tree h0 o0.op=some (.val v0 h1):=by exact rfl) (hp0:qE sz L0 o0.dst v0=some L1:=by exact rfl) (ho1:Zo o1.op=some x1:=by exact rfl) (hg1:qo ops L1.tree o1.guard=some true:=by exact rfl) (hx1:kA L1 x1=some v1:=by exact rfl) (hp1:qE sz L1 o1.dst v1=some L2:=by exact rfl):KO P X sz ops [o0,o1] L0 h0 R:=vl (mv (qf w) ho1 hg1 hx1 hp1) hg0 ha0 hp0
theorem qhn {L0:Ks} {h0:AH} {o0 o1:Oper} {L1:Ks} {x0:Operand} {v0:Value} {L2:Ks} {h2:AH} {v1:Value} (w:R L2 h2) (ho0:Zo o0.op=some x0:=by exact rfl) (hg0:qo ops L0.tree o0.guard=some true:=by exact rfl) (hx0:kA L0 x0=some v0:=by exact rfl) (hp0:qE sz L0 o0.dst v0=some L1:=by exact rfl) (hg1:qo ops L1.tree o1.guard=some true:=by exact rfl) (ha1:zD P L1.tree h0 o1.op=some (.val v1 h2):=by exact rfl) (hp1:qE sz L1 o1.dst v1=some L2:=by exact rfl):KO P X sz ops [o0,o1] L0 h0 R:=mv (vl (qf w) hg1 ha1 hp1) ho0 hg0 hx0 hp0
theorem qg8 {L0:Ks} {h0:AH} {o0 o1 o2 o3:Oper} {L1:Ks} {x0:Operand} {v0:Value} {L2:Ks} {h2:AH} {v1:Value} {L3:Ks} {h3:AH} {v2:Value} {L4:Ks} {h4:AH} {v3:Value} (w:KO P X sz ops os L4 h4 R) (ho0:Zo o0.op=some x0:=by exact rfl) (hg0:qo ops L0.tree o0.guard=some true:=by exact rfl) (hx0:kA L0 x0=some v0:=by exact rfl) (hp0:qE sz L0 o0.dst v0=some L1:=by exact rfl) (hg1:qo ops L1.tree o1.guard=some true:=by exact rfl) (ha1:zD P L1.tree h0 o1.op=some (.val v1 h2):=by exact rfl) (hp1:qE sz L1 o1.dst v1=some L2:=by exact rfl) (hg2:qo ops L2.tree o2.guard=some true:=by exact rfl) (ha2:zD P L2.tree h2 o2.op=some (.val v2 h3):=by exact rfl) (hp2:qE sz L2 o2.dst v2=some L3:=by exact rfl) (hg3:qo ops L3.tree o3.guard=some true:=by exact rfl) (ha3:zD P L3.tree h3 o3.op=some (.val v3 h4):=by exact rfl) (hp3:qE sz L3 o3.dst v3=some L4:=by exact rfl):KO P X sz ops (o0 :: o1 :: o2 :: o3 :: os) L0 h0 R:=mv (vl (vl (vl (w) hg3 ha3 hp3) hg2 ha2 hp2) hg1 ha1 hp1) ho0 hg0 hx0 hp0
theorem qhm {L0:Ks} {h0:AH} {o0 o1 o2:Oper} {L1:Ks} {x0:Operand} {v0:Value} {L2:Ks} {h2:AH} {v1:Value} {L3:Ks} {h3:AH} {v2:Value} (w:KO P X sz ops os L3 h3 R) (ho0:Zo o0.op=some x0:=by exact rfl) (hg0:qo ops L0.tree o0.guard=some true:=by exact rfl) (hx0:kA L0 x0=some v0:=by exact rfl) (hp0:qE sz L0 o0.dst v0=some L1:=by exact rfl) (hg1:qo ops L1.tree o1.guard=some true:=by exact rfl) (ha1:zD P L1.tree h0 o1.op=some (.val v1 h2):=by exact rfl) (hp1:qE sz L1 o1.dst v1=some L2:=by exact rfl) (hg2:qo ops L2.tree o2.guard=some true:=by exact rfl) (ha2:zD P L2.tree h2 o2.op=some (.val v2 h3):=by exact rfl) (hp2:qE sz L2 o2.dst v2=some L3:=by exact rfl):KO P X sz ops (o0 :: o1 :: o2 :: os) L0 h0 R:=mv (vl (vl (w) hg2 ha2 hp2) hg1 ha1 hp1) ho0 hg0 hx0 hp0
theorem kmn {L0:Ks} {h0:AH} {o0:Oper} {L1:Ks} {x0:Operand} {v0:Value} (w:R L1 h0) (ho0:Zo o0.op=some x0:=by exact rfl) (hg0:qo ops L0.tree o0.guard=some true:=by exact rfl) (hx0:kA L0 x0=some v0:=by exact rfl) (hp0:qE sz L0 o0.dst v0=some L1:=by exact rfl):KO P X sz ops [o0] L0 h0 R:=mv (qf w) ho0 hg0 hx0 hp0
theorem kvn {L0:Ks} {h0:AH} {o0:Oper} {L1:Ks} {h1:AH} {v0:Value} (w:R L1 h1) (hg0:qo ops L0.tree o0.guard=some true:=by exact rfl) (ha0:zD P L0.tree h0 o0.op=some (.val v0 h1):=by exact rfl) (hp0:qE sz L0 o0.dst v0=some L1:=by exact rfl):KO P X sz ops [o0] L0 h0 R:=vl (qf w) hg0 ha0 hp0
theorem kmm {L0:Ks} {h0:AH} {o0 o1:Oper} {L1:Ks} {x0:Operand} {v0:Value} {L2:Ks} {x1:Operand} {v1:Value} (w:KO P X sz ops os L2 h0 R) (ho0:Zo o0.op=some x0:=by exact rfl) (hg0:qo ops L0.tree o0.guard=some true:=by exact rfl) (hx0:kA L0 x0=some v0:=by exact rfl) (hp0:qE sz L0 o0.dst v0=some L1:=by exact rfl) (ho1:Zo o1.op=some x1:=by exact rfl) (hg1:qo ops L1.tree o1.guard=some true:=by exact rfl) (hx1:kA L1 x1=some v1:=by exact rfl) (hp1:qE sz L1 o1.dst v1=some L2:=by exact rfl):KO P X sz ops (o0 :: o1 :: os) L0 h0 R:=mv (mv (w) ho1 hg1 hx1 hp1) ho0 hg0 hx0 hp0
end
end Go.Proofs.Xx
