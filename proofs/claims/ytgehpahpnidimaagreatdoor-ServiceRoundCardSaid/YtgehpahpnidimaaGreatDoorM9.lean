/-
  Problems: plain;what a problem reads as;when a rule is right.
-/
import Derived.Test.YtgehpahpnidimaaGreatDoorM7
import Derived.Test.YtgehpahpnidimaaGreatDoorM8
set_option linter.unusedSimpArgs false
set_option linter.unusedVariables false
set_option linter.unusedSectionVars false
set_option maxRecDepth 100000
set_option maxHeartbeats 4000000
namespace Go.Proofs.Xx
open Go Go.Proofs
structure Ru where
 k:Int
 w:Int
 a:List UInt8
 b:List UInt8
 t:List UInt8
 n:Int
instance:Inhabited Ru:=⟨⟨0,0,[],[],[],0⟩⟩
def JI (r:Ru):List Value:=[.int .u8 r.k,.int .i64 r.w,str r.a,str r.b,str r.t,.int .i64 r.n]
abbrev ruV (r:Ru):Value:=.agg (JI r).toArray
structure Pb where
 tabs:List Tab
 us:List Gu
 ts:List Ti
 cl:List Int
 ru:List Ru
abbrev Pb.rl (p:Pb):Rl:=⟨p.us,p.ts⟩
structure PbV where
 vt:SlV
 vg:SlV
 vi:SlV
 vc:SlV
 vr:SlV
 gs:List JL
abbrev PbV.cs (v:PbV):List Value:=[v.vt.val,v.vg.val,v.vi.val,v.vc.val,v.vr.val]
def PbV.val (v:PbV):Value:=.agg #[v.vt.val,v.vg.val,v.vi.val,v.vc.val,v.vr.val]
abbrev PbV.rl (v:PbV):RlV:=⟨v.vg,v.vi,v.gs⟩
structure PbOk (h:AH) (v:PbV) (p:Pb):Prop where
 tab:HallR h v.vt.val p.tabs
 rol:RlOk h v.rl p.rl
 cl:zo h v.vc.val 1 eI p.cl
 ru:zo h v.vr.val 6 JI p.ru
 lc:p.cl.length≤1000000
 lr:p.ru.length≤1000000
theorem PbOk.ext {h h':AH} {v:PbV} {p:Pb} (a:PbOk h v p) (w:WfH h) (x:Ext h h'):PbOk h' v p:=⟨a.tab.ext w x,a.rol.ext w x,a.cl.ext w x,a.ru.ext w x,a.lc,a.lr⟩
structure Kd where
 a:Int
 b:Bool
 t:Int
 n:Bool
 lo:Int
 seat:Bool
instance:Inhabited Kd:=⟨⟨0,false,0,false,0,false⟩⟩
def kdL:List Kd:=[⟨103,true,0,true,0,false⟩,⟨103,true,0,false,0,false⟩,⟨103,true,0,false,0,false⟩,⟨103,true,0,true,1,false⟩,⟨103,true,0,false,0,false⟩,
 ⟨103,false,116,false,0,false⟩,⟨103,false,116,true,0,true⟩,⟨0,false,101,false,0,false⟩,⟨0,false,101,false,0,false⟩,⟨101,false,0,false,0,false⟩,
 ⟨0,false,101,false,0,false⟩,⟨0,false,101,false,0,false⟩,⟨0,false,101,false,0,false⟩,⟨0,false,101,false,0,false⟩,⟨0,false,101,true,0,false⟩,
 ⟨0,false,101,true,0,false⟩,⟨100,false,116,false,0,false⟩,⟨0,false,101,false,0,false⟩]
def yz (k:Int):Kd:=kdL.getD (k.toNat - 1) default
def gI (us:List Gu) (n:List UInt8):Int:=match gat us n with|some i=>i|none=>-1
theorem Jm {us:List Gu} {n:List UInt8}:gI us n<0↔gat us n=none:=by
 unfold gI;cases gat us n with
 | none=>simp
 | some i=>simp
def Zp (l:List Tab) (n:List UInt8):Prop:=∃ j,j<l.length∧(tb l j).name=n
def tix (l:List Tab) (n:List UInt8):Nat:=l.findIdx fun t=>decide (t.name=n)
theorem YS {l:List Tab} {n:List UInt8} {k:Nat} (hk:k<l.length) (h1:(tb l k).name=n) (h2:∀ j,j<k→¬ (tb l j).name=n):tix l n=k:=by
 unfold tix;rw [List.findIdx_eq hk];unfold tb at h1 h2;refine ⟨?_,fun j hj=>?_⟩
 ·rw [zA2,zA4 hk] at h1;simpa using h1
 ·have:=h2 j hj;rw [zA2,zA4 (by omega)] at this;simpa using this
def Kd.plain (k:Kd) (r:Ru):Prop:=(k.a≠0∨r.a=[])∧(k.b=true∨r.b=[])∧(k.t≠0∨r.t=[])∧(k.n=true∨r.n=0)
def Kd.unk (k:Kd) (us:List Gu) (r:Ru):Prop:=(k.a=103∧gat us r.a=none)∨(k.a=101∧r.a≠[]∧gat us r.a=none)∨(k.b=true∧gat us r.b=none)
def Kd.ut (k:Kd) (l:List Tab) (r:Ru):Prop:=(k.t=116∧¬ Zp l r.t)∨(k.t=101∧r.t≠[]∧¬ Zp l r.t)
def Kd.most (k:Kd) (l:List Tab) (r:Ru):Int:=if k.seat=true then zn (tb l (tix l r.t)) - 1 else 24
open Classical in
noncomputable def Kd.err (k:Kd) (p:Pb) (r:Ru):Int :=
 if r.w<0∨1000<r.w then 41 else if ¬ k.plain r then 43 else if k.unk p.us r then 6 else if k.a=100∧¬ jC r.a then 4 else if k.b=true∧r.a=r.b then 5 else
 if k.ut p.tabs r then 6 else if k.n=true∧(r.n<k.lo∨k.most p.tabs r<r.n) then 42 else 0
noncomputable def VQ (p:Pb) (r:Ru):Int:=if 1≤r.k∧r.k≤18 then (yz r.k).err p r else 40
structure PO (p:Pb):Prop where
 tabs:ValidL p.tabs
 rl:RO p.rl
 cl:(p.cl.length=0∨p.cl.length=p.us.length)∧∀ c∈p.cl,0≤c∧c<64
 room:(p.us.length:Int)≤sumT p.tabs p.tabs.length
 ru:∀ r∈p.ru,VQ p r=0
 lr:p.ru.length≤64
def BasP (p:Pb) (i e:Int):Prop :=
 (e≠0∧ChkAll p.tabs i e)∨(ValidL p.tabs∧Bad p.rl i e)∨(ValidL p.tabs∧RO p.rl∧((¬ ((p.cl.length=0∨p.cl.length=p.us.length)∧∀ c∈p.cl,0≤c∧c<64)∧i=0∧e=44) ∨
  (((p.cl.length=0∨p.cl.length=p.us.length)∧∀ c∈p.cl,0≤c∧c<64)∧((sumT p.tabs p.tabs.length<p.us.length∧i=0∧e=45)∨((p.us.length:Int)≤sumT p.tabs p.tabs.length∧i=0∧e=0)))))
structure BO (p:Pb):Prop where
 tabs:ValidL p.tabs
 rl:RO p.rl
 cl:(p.cl.length=0∨p.cl.length=p.us.length)∧∀ c∈p.cl,0≤c∧c<64
 room:(p.us.length:Int)≤sumT p.tabs p.tabs.length
theorem BasP.bo {p:Pb} {i:Int} (b:BasP p i 0):BO p∧i=0:=by
 rcases b with ⟨h,-⟩|⟨-,h,-⟩|⟨h1,h2,⟨-,-,h⟩|⟨h3,⟨-,-,h⟩|⟨h4,h5,-⟩⟩⟩
 ·exact absurd rfl h
 ·exact absurd rfl h
 ·cases h
 ·cases h
 ·exact ⟨⟨h1,h2,h3,h4⟩,h5⟩
theorem BO.basP {p:Pb} (h:BO p) {i e:Int} (b:BasP p i e):i=0∧e=0:=by
 rcases b with ⟨h1,h2⟩|⟨-,h1,h2⟩|⟨h1,h2,⟨h3,-,-⟩|⟨h3,⟨h4,-,-⟩|⟨h4,h5,h6⟩⟩⟩
 ·exact absurd (h2.valid.2 h.tabs) h1
 ·have hv:=Wp.2 h.rl;rcases h2 with ⟨j,h3,h4,h5,-⟩|⟨h0,j,h3,h4,h5,-⟩
  ·exact absurd (h5.symm.trans (hv.1 j h3)) h1
  ·exact absurd (h5.symm.trans (hv.2 j h3)) h1
 ·exact absurd h.cl h3
 ·have:=h.room;omega
 ·exact ⟨h5,h6⟩
def CkP (p:Pb) (i e:Int):Prop :=
 (e≠0∧BasP p i e)∨(BO p∧((∃ j:Nat,j<p.ru.length∧i=j∧j≤64∧(∀ q,q<j→VQ p (p.ru.getD q default)=0)∧((VQ p (p.ru.getD j default)≠0∧e=VQ p (p.ru.getD j default))∨(VQ p (p.ru.getD j default)=0∧j=64∧e=7))) ∨
  (p.ru.length≤64∧(∀ q,q<p.ru.length→VQ p (p.ru.getD q default)=0)∧i=0∧e=0)))
theorem PO.bo {p:Pb} (h:PO p):BO p:=⟨h.tabs,h.rl,h.cl,h.room⟩
theorem CkP.po {p:Pb} {i e:Int} (c:CkP p i e):e=0↔PO p:=by
 rcases c with ⟨h1,h2⟩|⟨h1,⟨j,h2,h3,h4,h5,⟨h6,h7⟩|⟨h6,h7,h8⟩⟩|⟨h2,h3,h4,h5⟩⟩
 ·exact ⟨fun h=>absurd h h1,fun h=>(h.bo.basP h2).2⟩
 ·exact ⟨fun h=>absurd (h7.symm.trans h) h6,fun h=>absurd (h.ru _ (qJ h2)) h6⟩
 ·exact ⟨fun h=>by omega,fun h=>by have:=h.lr;omega⟩
 ·refine ⟨fun _=>⟨h1.tabs,h1.rl,h1.cl,h1.room,fun r hr=>?_,h2⟩,fun _=>h5⟩;obtain ⟨q,hq,rfl⟩:=qI.1 hr;exact h3 q hq
structure PartOk (p:Pb) (q:List Int):Prop where
 len:q.length=p.us.length
 rng:∀ x∈q,-1≤x∧x<sumT p.tabs p.tabs.length
 nd:∀ i j,i<j→j<q.length→0≤q.getD i default→q.getD i default≠q.getD j default
def ptX (l:List Tab) (t:Int):Int:=if t<0 then 0 else (tb l t.toNat).X
def ptY (l:List Tab) (t:Int):Int:=if t<0 then 0 else (tb l t.toNat).Y
def ZJ (l:List Tab) (a b:Int):Int:=max (ptX l a - ptX l b) (ptX l b - ptX l a)+max (ptY l a - ptY l b) (ptY l b - ptY l a)
def e16 (x:Nat):List Value:=[.int .u16 x]
def MdG (g:Gu) (i:Nat):Prop:=g.name=num (25*i)∧WE g.rank∧WE g.court∧WE g.diet∧(0≤g.since∧g.since≤9999)∧(0≤g.side∧g.side≤2)
def MdT (l:List (List UInt8)) (k:Nat):Prop:=l.length≤k∧(∀ j,j<l.length→∃ m,m<k∧l.getD j default=num m)∧∀ j,j+1<l.length→Qh (l.getD j default) (l.getD (j+1) default)
theorem MdT.next {l:List (List UInt8)} {k:Nat} (h:MdT l k):MdT l (k+1):=⟨by have:=h.1;omega,fun j hj=>by obtain ⟨m,h1,h2⟩:=h.2.1 j hj;exact ⟨m,by omega,h2⟩,h.2.2⟩
theorem MdT.app {l:List (List UInt8)} {k:Nat} (h:MdT l k) (hk:k<4):MdT (l ++ [num k]) (k+1):=by
 refine ⟨by simp;exact h.1,fun j hj=>?_,fun j hj=>?_⟩
 ·simp at hj;rcases zA7 j l.length with q|q
  ·rw [wU q];exact h.next.2.1 j q
  ·obtain rfl:j=l.length:=by omega
   rw [gA2 (zA3 _),zG6];exact ⟨k,by omega,rfl⟩
 ·simp at hj;rw [wU (show j<l.length by omega)];rcases zA7 (j+1) l.length with q|q
  ·rw [wU q];exact h.2.2 j q
  ·rw [gA2 q,show j+1 - l.length=0 by omega];obtain ⟨m,h1,h2⟩:=h.2.1 j (by omega);rw [h2];exact (XN (by omega) (by omega)).2 h1
theorem qfi {g:Gu} {i:Nat} (h:MdG g i) (h2:MdT g.tg 4):Qw g=0:=by
 obtain ⟨a1,a2,a3,a4,a5,a6⟩:=h;refine qcH ⟨by rw [a1];exact J3 _,a2,a3,a4⟩ a5 a6 ⟨h2.1,fun j hj=>⟨?_,fun q=>?_⟩⟩
 ·obtain ⟨m,-,e⟩:=h2.2.1 j hj;rw [e];exact J3 _
 ·have:=h2.2.2 (j - 1) (by omega);rwa [show j - 1+1=j by omega] at this
abbrev MdR (q q4:Nat) (gs:List JL) (vg:SlV):List Rs:=[Jw gs,.sl vg.val 125 9 eG gs,.blk q [vg.val,.slice none 0 0] 151,.blk q4 [.slice none 0 0,.slice none 0 0] 151]
abbrev MdI (h0:AH) (q q4:Nat) (la:List Nat) (gs:List JL) (vg:SlV) (h:AH):Prop:=Hs h0 h (MdR q q4 gs vg)∧gs.length≤12∧gs.length≤la.length∧∀ i,i<gs.length→MdG (gs.getD i default).toGu i∧MdT (gs.getD i default).tg 4
abbrev MdJ (h0:AH) (q q4:Nat) (gs:List JL) (vg:SlV) (k:Nat) (b:Nat) (g:JL) (h:AH):Prop:=Hs h0 h (.blk b (eG g) 125 :: .sl g.tv.val 9 1 eS g.tg :: MdR q q4 gs vg)∧MdG g.toGu gs.length∧MdT g.tg k
def TI (us:List Gu) (ts:List Ti) (i k:Nat):Prop:=TS ts∧(∀ t∈ts,Qh t.a t.b∧(t.k=1∨t.k=2)∧gat us t.a≠none∧gat us t.b≠none)∧(∀ t∈ts,Qh t.a (num i)∨(t.a=num i∧Qh t.b (num k)))∧ts.length≤13*((i+24) / 25)+(if i % 25=0 then (k+24) / 25 else 0)
def TIo (us:List Gu) (ts:List Ti) (i:Nat):Prop:=TS ts∧(∀ t∈ts,Qh t.a t.b∧(t.k=1∨t.k=2)∧gat us t.a≠none∧gat us t.b≠none)∧(∀ t∈ts,Qh t.a (num i))∧ts.length≤13*((i+24) / 25)
theorem TIo.inn {us:List Gu} {ts:List Ti} {i:Nat} (h:TIo us ts i) (k:Nat):TI us ts i k:=⟨h.1,h.2.1,fun t ht=>.inl (h.2.2.1 t ht),zD0 h.2.2.2 (Nat.le_add_right _ _)⟩
theorem TI.out {us:List Gu} {ts:List Ti} {i k:Nat} (h:TI us ts i k) (hi:i<312) (hk:k≤312):TIo us ts (i+1):=by
 refine ⟨h.1,h.2.1,fun t ht=>?_,?_⟩
 ·have:=(XN (i:=i) (j:=i+1) (by omega) (by omega)).2 (by omega);rcases h.2.2.1 t ht with q|q
  ·exact Q9 q this
  ·rw [q.1];exact this
 ·have:=h.2.2.2;split at this<;>omega
theorem TI.next {us:List Gu} {ts:List Ti} {i k:Nat} (h:TI us ts i k) (hk:k<312):TI us ts i (k+1):=by
 refine ⟨h.1,h.2.1,fun t ht=>?_,?_⟩
 ·rcases h.2.2.1 t ht with q|q
  ·exact .inl q
  ·exact .inr ⟨q.1,Q9 q.2 ((XN (by omega) (by omega)).2 (by omega))⟩
 ·have:=h.2.2.2;split at this<;>split<;>omega
theorem TI.app {us:List Gu} {ts:List Ti} {i k:Nat} {z:Int} (h:TI us ts i k) (hik:i<k) (hk:k<312) (hz:z=1∨z=2) (hi2:i % 25=0) (hk2:k % 25=0) (g1:gat us (num i)≠none) (g2:gat us (num k)≠none):TI us (ts ++ [⟨num i,num k,z⟩]) i (k+1):=by
 refine ⟨h.1.app fun j hj=>?_,fun t ht=>?_,fun t ht=>?_,?_⟩
 ·exact h.2.2.1 _ (qJ hj)
 ·rcases zB8.1 ht with q|q
  ·exact h.2.1 t q
  ·obtain rfl:=zB5.1 q;exact ⟨(XN (by omega) (by omega)).2 hik,hz,g1,g2⟩
 ·rcases zB8.1 ht with q|q
  ·exact (h.next hk).2.2.1 t q
  ·obtain rfl:=zB5.1 q;exact .inr ⟨rfl,(XN (by omega) (by omega)).2 (by omega)⟩
 ·have:=h.2.2.2;rw [if_pos hi2] at this ⊢;simp;omega
abbrev MdQ (q q4:Nat) (gs:List JL) (vg:SlV) (ts:List Ti) (vt:SlV):List Rs:=[.sl vg.val 125 9 eG gs,.blk q4 [.slice none 0 0,.slice none 0 0] 151,Jw gs,.blk q [vg.val,vt.val] 151,.sl vt.val 174 3 jD ts]
variable [Flag]
theorem qdy {h0:AH} (w:WfH h0) (va vb:Value) (la lb:List Nat) (ra:zo h0 va 1 e16 la) (rb:zo h0 vb 1 eU lb) (hla:la.length≤9223372036854775807) (hlb:lb.length≤9223372036854775807) (h16:∀ i,i<la.length→la.getD i default<65536) (h8:∀ i,i<lb.length→lb.getD i default<256) :
 Fn Tryz.prog Xh 110 [va,vb] h0 (fun v h'=>∃ rv r,v=rv.val∧RlOk h' rv r∧RO r∧(r.us.length≤12∧(r.us.length≤la.length∧∀ i,i<r.us.length→(r.us.getD i default).name=num (25*i)))∧Hs h0 h' [.sl rv.vg.val 125 9 eG rv.gs,.sl rv.vt.val 174 3 jD r.ts,Jw rv.gs]):=by
 have S:=Hs.start w;refine qM (by first|rfl) Tryz.func110 rfl rfl ?_;all_goals (repeat' (first|refine qg ?_|(refine qc 0 ?_;(refine al S ?_;clear S;intro b h S);refine qf ?_)|(refine qc 1 ?_;(refine al S ?_;clear S;intro b h S);refine qf ?_)|(refine qc 2 ?_;refine mv ?_;refine qf ?_)))
 have S:=(S.nilS (e:=125) (z:=9) (enc:=eG)).anyS (p:=TgsOk []) fun h' g hg=>by cases hg
 obtain ⟨q,hnm⟩:∃ x,x=b:=⟨_,rfl⟩;subst hnm;obtain ⟨q4,hnm⟩:∃ x,x=b:=⟨_,rfl⟩;subst hnm;replace S:Hs h0 h [Jw [],.sl (SlV.val ⟨none,0,0⟩) 125 9 eG [],.blk q [SlV.val ⟨none,0,0⟩,.slice none 0 0] 151,.blk q4 [.slice none 0 0,.slice none 0 0] 151]:=S;(repeat (refine qg ?_));first|refine Qb (σ:=List JL×SlV) (fun (gs,vg) h'=>MdI h0 q q4 la gs vg h') (fun (gs,vg)=>[(0,va),(1,vb),(4,.pointer (some ⟨q4,0,none⟩)),(5,.pointer (some ⟨q,0,none⟩))]) ?_ ?_
 ·all_goals (repeat' (refine qp ?_))
  refine qL (σ:=List JL×SlV) (fun (gs,vg) h'=>MdI h0 q q4 la gs vg h') (fun (gs,vg)=>12 - gs.length) (fun (gs,vg)=>[(0,va),(1,vb),(4,.pointer (some ⟨q4,0,none⟩)),(5,.pointer (some ⟨q,0,none⟩)),(6,.int .i64 gs.length)]) ([],⟨none,0,0⟩) qy ?_ ?_
  ·exact ⟨S,zB0 _,zB0 _,fun j hj=>absurd hj (zB7 _)⟩
  clear S;rintro ⟨gs,vg⟩ h ⟨S,g1,g2,g3⟩;all_goals (repeat' (first|refine qg ?_|refine qi rfl ?_|refine qj ?_|refine qA ?_|refine qp ?_|(refine qc 3 ?_;refine mv ?_;refine mv ?_;refine jZ S ?_;(first|(refine cS ?_ ?_<;>intro hc))<;>(refine mv ?_;(first|refine off ?_|refine mv ?_);(first|refine off ?_|(first|(refine cS ?_ ?_<;>intro hc)))<;>(refine vl ?_;refine qf ?_)))|(refine qc 5 ?_;refine mv ?_;refine mv ?_;refine QE S ?_;refine Qk S ?_;refine cI ?_;refine mv ?_;refine qf ?_)))
  ·obtain ⟨x,hx,hx2⟩:∃ x,la.getD gs.length default=x∧x<65536:=⟨_,rfl,h16 _ (by omega)⟩
   simp only [zA0,hx];have r1:0≤(x:Int) % 4*500∧(x:Int) % 4*500≤9999:=by omega
   have r2:0≤(x:Int) % 3∧(x:Int) % 3≤2:=by omega
   have r3:25*(gs.length:Int) % 312+(gs.length:Int) / 12=((25*gs.length:Nat):Int):=by
    rw [Int.emod_eq_of_lt (by omega) (by omega),Int.ediv_eq_zero_of_lt (by omega) (by omega)];omega
   (repeat (refine qg ?_));first|refine Qb (σ:=Nat×JL) (fun (b,g) h'=>MdJ h0 q q4 gs vg 0 b g h') (fun (b,g)=>[(0,va),(1,vb),(4,.pointer (some ⟨q4,0,none⟩)),(5,.pointer (some ⟨q,0,none⟩)),(6,.int .i64 gs.length),(7,.int .i64 x),(8,.pointer (some ⟨b,0,none⟩))]) ?_ ?_
   ·all_goals (repeat' (first|(refine qc 6 ?_;refine mv ?_;refine ml ?_;refine rm ?_;refine mv ?_;refine qu ?_;refine ad ?_)))
    (refine qx rfl rfl rfl rfl rfl ((Ji S.wf (25*gs.length) r3 (by omega)).mono ?_);rintro _ h ⟨rfl,y⟩)<;>(replace S:=S.join0 y;clear y;refine mv ?_;refine rm ?_;refine ml ?_;refine mv ?_;refine rm ?_;refine mv ?_;refine rm ?_;(first|(refine cS ?_ ?_<;>intro hc))<;>(refine mv ?_;refine rm ?_;(first|(refine cS ?_ ?_<;>intro hc))<;>(refine vl ?_;(refine al S ?_;clear S;intro b h S);(first|(refine sB S rfl rfl ?_;clear S;intro h S));refine qf ?_)))
    all_goals
     have mk:∀ hb ha:Bool,Hs h0 h (.blk b (eG ⟨⟨num (25*gs.length),[],[],(x:Int) % 4*500,(x:Int) % 3,[],hb,ha,[]⟩,⟨none,0,0⟩⟩) 125 :: MdR q q4 gs vg)→MdJ h0 q q4 gs vg 0 b ⟨⟨num (25*gs.length),[],[],(x:Int) % 4*500,(x:Int) % 3,[],hb,ha,[]⟩,⟨none,0,0⟩⟩ h:=fun hb ha S=>⟨(S.nilS (e:=9) (z:=1) (enc:=eS)).pick,⟨rfl,.inl rfl,.inl rfl,.inl rfl,r1,r2⟩,zB0 _,fun j hj=>absurd hj (zB7 _),fun j hj=>absurd hj (zB7 _)⟩
    all_goals first
     | exact ⟨(b,_),mk true true S,(qy)⟩
     | exact ⟨(b,_),mk true false S,(qy)⟩
     | exact ⟨(b,_),mk false true S,(qy)⟩
     | exact ⟨(b,_),mk false false S,(qy)⟩
   ·clear S;rintro ⟨b,g⟩ h ⟨S,gd,gt⟩;(repeat (refine qg ?_));first|refine Qg (σ:=Nat×JL) (fun (b,g) h'=>MdJ h0 q q4 gs vg 0 b g h') (fun (b,g)=>[(0,va),(1,vb),(4,.pointer (some ⟨q4,0,none⟩)),(5,.pointer (some ⟨q,0,none⟩)),(6,.int .i64 gs.length),(7,.int .i64 x),(8,.pointer (some ⟨b,0,none⟩))]) ?_ ?_
    ·all_goals (repeat' (first|refine qi rfl ?_|refine qj ?_|(refine qc 7 ?_;refine mv ?_;refine rm ?_;(first|(refine cS ?_ ?_<;>intro hc))<;>(refine qf ?_))|(refine qc 8 ?_;refine mv ?_;refine rm ?_)))
     ·(refine qx rfl rfl rfl rfl rfl ((Ji S.wf (x % 3) (by omega) (by omega)).mono ?_);rintro _ h ⟨rfl,y⟩)<;>(replace S:=S.join0 y;clear y;refine vl ?_;(first|(refine sB S rfl rfl ?_;clear S;intro h S));refine qf ?_)
      exact ⟨(b,{ g with rank:=num (x % 3) }),⟨S,⟨gd.1,.inr (J3 _),gd.2.2.1,gd.2.2.2.1,gd.2.2.2.2⟩,gt⟩,(qy)⟩
     ·exact ⟨(b,g),⟨S,gd,gt⟩,(qy)⟩
    clear S;rintro ⟨b,g⟩ h ⟨S,gd,gt⟩;(repeat (refine qg ?_));first|refine Qg (σ:=Nat×JL) (fun (b,g) h'=>MdJ h0 q q4 gs vg 0 b g h') (fun (b,g)=>[(0,va),(1,vb),(4,.pointer (some ⟨q4,0,none⟩)),(5,.pointer (some ⟨q,0,none⟩)),(6,.int .i64 gs.length),(7,.int .i64 x),(8,.pointer (some ⟨b,0,none⟩))]) ?_ ?_
    ·all_goals (repeat' (first|refine qi rfl ?_|refine qj ?_|(refine qc 9 ?_;refine mv ?_;refine rm ?_;(first|(refine cS ?_ ?_<;>intro hc))<;>(refine qf ?_))|(refine qc 10 ?_;refine mv ?_;refine rm ?_)))
     ·(refine qx rfl rfl rfl rfl rfl ((Ji S.wf (x % 8) (by omega) (by omega)).mono ?_);rintro _ h ⟨rfl,y⟩)<;>(replace S:=S.join0 y;clear y;refine vl ?_;(first|(refine sB S rfl rfl ?_;clear S;intro h S));refine qf ?_)
      exact ⟨(b,{ g with court:=num (x % 8) }),⟨S,⟨gd.1,gd.2.1,.inr (J3 _),gd.2.2.2.1,gd.2.2.2.2⟩,gt⟩,(qy)⟩
     ·exact ⟨(b,g),⟨S,gd,gt⟩,(qy)⟩
    clear S;rintro ⟨b,g⟩ h ⟨S,gd,gt⟩;(repeat (refine qg ?_));first|refine Qg (σ:=Nat×JL) (fun (b,g) h'=>MdJ h0 q q4 gs vg 0 b g h') (fun (b,g)=>[(0,va),(1,vb),(4,.pointer (some ⟨q4,0,none⟩)),(5,.pointer (some ⟨q,0,none⟩)),(6,.int .i64 gs.length),(7,.int .i64 x),(8,.pointer (some ⟨b,0,none⟩))]) ?_ ?_
    ·all_goals (repeat' (first|refine qi rfl ?_|refine qj ?_|(refine qc 11 ?_;refine mv ?_;refine rm ?_;(first|(refine cS ?_ ?_<;>intro hc))<;>(refine qf ?_))|(refine qc 12 ?_;refine mv ?_;refine rm ?_)))
     ·(refine qx rfl rfl rfl rfl rfl ((Ji S.wf (x % 5) (by omega) (by omega)).mono ?_);rintro _ h ⟨rfl,y⟩)<;>(replace S:=S.join0 y;clear y;refine vl ?_;(first|(refine sB S rfl rfl ?_;clear S;intro h S));refine qf ?_)
      exact ⟨(b,{ g with diet:=num (x % 5) }),⟨S,⟨gd.1,gd.2.1,gd.2.2.1,.inr (J3 _),gd.2.2.2.2⟩,gt⟩,(qy)⟩
     ·exact ⟨(b,g),⟨S,gd,gt⟩,(qy)⟩
    clear S;rintro ⟨b,g⟩ h ⟨S,gd,gt⟩;all_goals (repeat' (first|refine qg ?_|(refine qc 13 ?_;refine mv ?_;refine qf ?_)))
    (repeat (refine qg ?_));first|refine Qb (σ:=Nat×JL) (fun (b,g) h'=>MdJ h0 q q4 gs vg 4 b g h') (fun (b,g)=>[(0,va),(1,vb),(4,.pointer (some ⟨q4,0,none⟩)),(5,.pointer (some ⟨q,0,none⟩)),(6,.int .i64 gs.length),(7,.int .i64 x),(8,.pointer (some ⟨b,0,none⟩))]) ?_ ?_
    ·all_goals (repeat' (refine qp ?_))
     refine qL (σ:=Nat×Nat×JL) (fun (k,b,g) h'=>MdJ h0 q q4 gs vg k b g h'∧k≤4) (fun (k,b,g)=>4 - k) (fun (k,b,g)=>[(0,va),(1,vb),(4,.pointer (some ⟨q4,0,none⟩)),(5,.pointer (some ⟨q,0,none⟩)),(6,.int .i64 gs.length),(7,.int .i64 x),(8,.pointer (some ⟨b,0,none⟩)),(9,.int .i64 k)]) (0,b,g) qy ?_ ?_
     ·exact ⟨⟨S,gd,gt⟩,by omega⟩
     clear S gd gt;rintro ⟨k,b,g⟩ h ⟨⟨S,gd,gt⟩,hk⟩;all_goals (repeat' (first|refine qg ?_|refine qi rfl ?_|refine qj ?_|refine qA ?_|(refine qc 14 ?_;refine mv ?_;(first|(refine cS ?_ ?_<;>intro hc))<;>(refine qf ?_))))
     ·(repeat (refine qg ?_));first|refine Qb (σ:=Nat×JL) (fun (b,g) h'=>MdJ h0 q q4 gs vg (k+1) b g h') (fun (b,g)=>[(0,va),(1,vb),(4,.pointer (some ⟨q4,0,none⟩)),(5,.pointer (some ⟨q,0,none⟩)),(6,.int .i64 gs.length),(7,.int .i64 x),(8,.pointer (some ⟨b,0,none⟩)),(9,.int .i64 k)]) ?_ ?_
      ·all_goals (repeat' (first|refine qg ?_|refine qp ?_))
       refine qc 16 ?_;refine mv ?_;refine mv ?_;refine ml ?_;refine ad ?_;refine sR ?_ (hb:=by simp;omega);obtain ⟨y,hy,hy2⟩:∃ y:Int,(x:Int) / ((2 ^ (min (6+2*(k:Int)).toNat IntKind.i64.bits):Nat):Int)=y∧0≤y∧y≤65536:=⟨_,rfl,Int.ediv_nonneg (by omega) (by exact_mod_cast zB0 _),Int.le_trans (Int.ediv_le_self _ (by omega)) (by omega)⟩
       simp only [hy];((refine rm ?_);(first|(refine cS ?_ ?_<;>intro hc))<;>(refine qf ?_))
       ·all_goals (repeat' (first|refine qg ?_|refine qi rfl ?_|(refine qc 17 ?_;refine vl ?_;refine lB S rfl rfl ?_;refine mv ?_;refine qf ?_)|(refine qc 18 ?_;refine mv ?_;refine mv ?_)))
        (refine qx rfl rfl rfl rfl rfl ((ZV S.wf k (by omega)).mono ?_);rintro _ h ⟨rfl,y⟩)<;>(replace S:=S.join0 y;clear y;(refine one 1 S ?_;clear S;intro u h S))
        have hgt:=gt.1;refine app (y0:=num k) S rfl rfl ?_;clear S;intro v h S;obtain ⟨tv,rfl⟩:=S.sV v;((refine vl ?_);(first|(refine sB S rfl rfl ?_;clear S;intro h S));refine qf ?_);all_goals (repeat' (fail))
        exact ⟨(b,⟨{ g.toGu with tg:=g.tg ++ [num k] },tv⟩),⟨S.front (.there .here),gd,gt.app (by omega)⟩,(qy)⟩
       ·all_goals (repeat' (first|refine qi rfl ?_|refine qj ?_))
        exact ⟨(b,g),⟨S,gd,gt.next⟩,(qy)⟩
      ·clear S gd gt;rintro ⟨b,g⟩ h ⟨S,gd,gt⟩;all_goals (repeat' (first|(refine qc 15 ?_;refine mv ?_;refine ad ?_;refine mv ?_;refine qf ?_)))
       refine ⟨(k+1,b,g),?_,?_,qy⟩
       ·show 4 - (k+1)<4 - k;omega
       ·exact ⟨⟨S,gd,gt⟩,by omega⟩
     ·obtain rfl:k=4:=by omega
      exact ⟨(b,g),⟨S,gd,gt⟩,(qy)⟩
    ·clear S gd gt;rintro ⟨b,g⟩ h ⟨S,gd,gt⟩;all_goals (repeat' (first|refine qg ?_|(refine qc 19 ?_;refine vl ?_;refine lB S rfl rfl ?_;refine mv ?_;refine qf ?_)|(refine qc 20 ?_;refine mv ?_;refine lB S rfl rfl ?_;(refine one 9 S ?_;clear S;intro u h S))))
     refine app (y0:=g) S rfl rfl ?_;clear S;intro v h S;obtain ⟨vg',rfl⟩:=S.sV v;((refine vl ?_);(first|(refine sB S rfl rfl ?_;clear S;intro h S));refine qf ?_);all_goals (repeat' (first|(refine qc 4 ?_;refine mv ?_;refine ad ?_;refine mv ?_;refine qf ?_)))
     refine ⟨(gs ++ [g],vg'),?_,?_,qy⟩
     ·show 12 - (gs ++ [g]).length<12 - gs.length;simp;omega
     ·replace S:Hs h0 h [.sl vg'.val 125 9 eG (gs ++ [g]),.blk b (eG g) 125,.sl g.tv.val 9 1 eS g.tg,Jw gs,.blk q [vg'.val,.slice none 0 0] 151,.blk q4 [.slice none 0 0,.slice none 0 0] 151]:=S;have S:=(show Hs h0 h (.sl g.tv.val 9 1 eS g.tg :: Jw gs :: .sl vg'.val 125 9 eG (gs ++ [g]) :: .blk q [vg'.val,.slice none 0 0] 151 :: .blk q4 [.slice none 0 0,.slice none 0 0] 151 :: []) from S.pick)
      refine ⟨Hs.tgApp S,by simp;omega,by simp;omega,fun i hi=>?_⟩;simp at hi;rcases zA7 i gs.length with z|z
      ·rw [wU z];exact g3 i z
      ·obtain rfl:i=gs.length:=by omega
       rw [gA2 (zA3 _),zG6];exact ⟨gd,gt⟩
  all_goals exact ⟨(gs,vg),⟨S,g1,g2,g3⟩,(qy)⟩
 ·clear S;rintro ⟨gs,vg⟩ h ⟨S,g1,g2,g3⟩;obtain ⟨us,hus⟩:∃ us,us=gs.map (·.toGu):=⟨_,rfl⟩
  have hul:us.length=gs.length:=by rw [hus];simp
  have hun:∀ i,i<us.length→(us.getD i default).name=num (25*i):=fun i hi=>by
   rw [hus,zu (by omega)];exact (g3 i (by omega)).1.1
  have hth:∀ i,i<312→((∃ m,m<gs.length∧(gs.getD m default).name=num i)↔i % 25=0∧i / 25<gs.length):=fun i hi=>by
   constructor
   ·rintro ⟨m,h1,h2⟩;rw [(g3 m h1).1.1] at h2;have:=qad (by omega) (by omega) h2;omega
   ·rintro ⟨h1,h2⟩;exact ⟨i / 25,h2,by rw [(g3 _ h2).1.1];congr 1;omega⟩
  have hgat:∀ i,i<312→i % 25=0→i / 25<gs.length→gat us (num i)≠none:=fun i hi h1 h2=>by
   rw [qah];exact ⟨_,qJ (show i / 25<us.length by omega),by rw [hun _ (by omega)];congr 1;omega⟩
  have S:=S.nilS (e:=174) (z:=3) (enc:=jD);replace S:Hs h0 h [.sl (SlV.val ⟨none,0,0⟩) 174 3 jD [],Jw gs,.sl vg.val 125 9 eG gs,.blk q [vg.val,SlV.val ⟨none,0,0⟩] 151,.blk q4 [.slice none 0 0,.slice none 0 0] 151]:=S;have S:=(show Hs h0 h (MdQ q q4 gs vg [] ⟨none,0,0⟩) from S.pick)
  all_goals (repeat' (first|refine qg ?_|(refine qc 21 ?_;refine mv ?_;refine qf ?_)|(refine qc 22 ?_;refine mv ?_;refine qf ?_)))
  (repeat (refine qg ?_));first|refine Qb (σ:=List Ti×SlV) (fun (ts,vt) h'=>Hs h0 h' (MdQ q q4 gs vg ts vt)∧TIo us ts 312) (fun (ts,vt)=>[(4,.pointer (some ⟨q4,0,none⟩)),(5,.pointer (some ⟨q,0,none⟩))]) ?_ ?_
  ·all_goals (repeat' (refine qp ?_))
   refine qL (σ:=List Ti×SlV×Nat×Nat) (fun (ts,vt,c,i) h'=>Hs h0 h' (MdQ q q4 gs vg ts vt)∧i≤312∧c≤400*i∧TIo us ts i) (fun (ts,vt,c,i)=>312 - i) (fun (ts,vt,c,i)=>[(1,vb),(4,.pointer (some ⟨q4,0,none⟩)),(5,.pointer (some ⟨q,0,none⟩)),(12,.int .i64 c),(13,.int .i64 i)]) ([],⟨none,0,0⟩,0,0) qy ?_ ?_
   ·exact ⟨S,by omega,by omega,by simp [TS],fun t ht=>(by cases ht),fun t ht=>(by cases ht),by simp⟩
   clear S;rintro ⟨ts,vt,c,i⟩ h ⟨S,k1,k2,k3⟩;all_goals (repeat' (first|refine qg ?_|refine qi rfl ?_|refine qj ?_|refine qA ?_|(refine qc 23 ?_;refine mv ?_;(first|(refine cS ?_ ?_<;>intro hc))<;>(refine qf ?_))))
   ·(repeat (refine qg ?_));first|refine Qb (σ:=List Ti×SlV×Nat) (fun (ts,vt,c) h'=>Hs h0 h' (MdQ q q4 gs vg ts vt)∧c≤400*(i+1)∧TIo us ts (i+1)) (fun (ts,vt,c)=>[(1,vb),(4,.pointer (some ⟨q4,0,none⟩)),(5,.pointer (some ⟨q,0,none⟩)),(12,.int .i64 c),(13,.int .i64 i)]) ?_ ?_
    ·all_goals (repeat' (first|refine qg ?_|refine qp ?_|(refine qc 25 ?_;refine mv ?_;refine ad ?_;refine mv ?_;refine qf ?_)))
     refine qL (σ:=List Ti×SlV×Nat×Nat) (fun (ts,vt,c,k) h'=>Hs h0 h' (MdQ q q4 gs vg ts vt)∧(i<k∧k≤312)∧c≤400*i+k∧TI us ts i k) (fun (ts,vt,c,k)=>312 - k) (fun (ts,vt,c,k)=>[(1,vb),(4,.pointer (some ⟨q4,0,none⟩)),(5,.pointer (some ⟨q,0,none⟩)),(12,.int .i64 c),(13,.int .i64 i),(14,.int .i64 k)]) (ts,vt,c,i+1) qy ?_ ?_
     ·exact ⟨S,by omega,by omega,k3.inn _⟩
     clear S k2 k3;rintro ⟨ts,vt,c,k⟩ h ⟨S,k4,k5,k6⟩;all_goals (repeat' (first|refine qg ?_|refine qi rfl ?_|refine qj ?_|refine qA ?_|(refine qc 26 ?_;refine mv ?_;(first|(refine cS ?_ ?_<;>intro hc))<;>(refine qf ?_))))
     ·(repeat (refine qg ?_));first|refine Qb (σ:=List Ti×SlV×Nat) (fun (ts,vt,c) h'=>Hs h0 h' (MdQ q q4 gs vg ts vt)∧c≤400*i+(k+1)∧TI us ts i (k+1)) (fun (ts,vt,c)=>[(1,vb),(4,.pointer (some ⟨q4,0,none⟩)),(5,.pointer (some ⟨q,0,none⟩)),(12,.int .i64 c),(13,.int .i64 i),(14,.int .i64 k)]) ?_ ?_
      ·all_goals (repeat' (first|refine qg ?_|refine qp ?_))
       all_goals (repeat' (first|(refine qc 28 ?_;refine lB S rfl rfl ?_;refine mv ?_)))
       (refine qx rfl rfl rfl rfl rfl ((gq S.wf vg vt gs (Rd.of_sl S .here) (by omega) i (by omega)).mono ?_);rintro _ h ⟨⟨rfl,z1⟩|⟨rfl,z1⟩,x⟩)<;>(replace S:=S.join0 x;clear x;refine vl ?_;refine qf ?_)
       ·rw [hth i (by omega)] at z1;all_goals (repeat' (first|refine qg ?_|refine qi rfl ?_|refine qj ?_))
        all_goals (repeat' (first|(refine qc 29 ?_;refine lB S rfl rfl ?_;refine mv ?_)))
        (refine qx rfl rfl rfl rfl rfl ((gq S.wf vg vt gs (Rd.of_sl S .here) (by omega) k (by omega)).mono ?_);rintro _ h ⟨⟨rfl,z2⟩|⟨rfl,z2⟩,x⟩)<;>(replace S:=S.join0 x;clear x;refine vl ?_;refine qf ?_)
        ·rw [hth k (by omega)] at z2;all_goals (repeat' (first|refine qg ?_|refine qi rfl ?_|refine qj ?_))
         (repeat (refine qg ?_));first|refine Qg (σ:=List Ti×SlV) (fun (ts,vt) h'=>Hs h0 h' (MdQ q q4 gs vg ts vt)∧TI us ts i (k+1)) (fun (ts,vt)=>[(1,vb),(4,.pointer (some ⟨q4,0,none⟩)),(5,.pointer (some ⟨q,0,none⟩)),(12,.int .i64 c),(13,.int .i64 i),(14,.int .i64 k)]) ?_ ?_
         ·all_goals (repeat' (first|refine qg ?_|refine qi rfl ?_|refine qj ?_|(refine qc 30 ?_;refine mv ?_;refine mv ?_;refine jZ S ?_;(first|(refine cS ?_ ?_<;>intro hc))<;>(refine mv ?_;(first|refine off ?_|refine mv ?_);(first|refine off ?_|refine mv ?_);(first|refine off ?_|(refine QE S ?_));(first|refine off ?_|(refine Qk S ?_));(first|refine off ?_|refine rmU ?_);(first|refine off ?_|(first|(refine cS ?_ ?_<;>intro hc)))<;>(refine vl ?_;refine qf ?_)))|(refine qc 31 ?_;refine vl ?_;refine lB S rfl rfl ?_;refine mv ?_;refine qf ?_)))
          ·have h8c:=h8 c (by omega);simp only [zA0] at *;(repeat (refine qg ?_));refine jm (id:=32) [(8,(0,2))] [some (Xr vb)] ?_;refine qh ?_;(first|(refine mv ?_<;>refine qf ⟨⟨by (first|exact True.intro),rfl⟩,?_⟩));refine qh ?_;(first|(refine mv ?_<;>refine qf ⟨⟨by (first|exact True.intro),rfl⟩,?_⟩));((refine qh ?_;first|refine qx rfl rfl rfl rfl rfl ((ZV S.wf i (by omega)).mono ?_));rintro _ h ⟨rfl,x⟩)<;>((refine qf ⟨⟨True.intro,?_⟩,?_⟩;(focus ((show keepsX _ _ _ _ _;simp only [keepsX];(repeat' (first|exact True.intro|refine And.intro ?_ ?_));all_goals (intro hw;first|exact x.ext.old _ (S.bX (by assumption) (by assumption) (by first|omega)))))));replace S:=S.join0 x;clear x;refine qh ?_;(first|(refine mv ?_<;>refine qf ⟨⟨by (first|exact True.intro),rfl⟩,?_⟩)))
           ((refine qh ?_;first|refine qx rfl rfl rfl rfl rfl ((ZV S.wf k (by omega)).mono ?_));rintro _ h ⟨rfl,x⟩)<;>((refine qf ⟨⟨True.intro,?_⟩,?_⟩;(focus ((show keepsX _ _ _ _ _;simp only [keepsX];(repeat' (first|exact True.intro|refine And.intro ?_ ?_));all_goals (intro hw;first|exact x.ext.old _ (S.bX (by assumption) (by assumption) (by first|omega)))))));replace S:=S.join0 x;clear x;refine qh ?_;(first|(refine mv ?_<;>refine qf ⟨⟨by (first|exact True.intro),rfl⟩,?_⟩));refine qh ?_;(first|(refine mv ?_<;>refine qf ⟨⟨by (first|exact True.intro),rfl⟩,?_⟩));refine qh ?_;(first|(refine QE S ?_<;>refine qf ⟨⟨by (first|exact True.intro),rfl⟩,?_⟩));refine qh ?_;(first|(refine Qk S ?_<;>refine qf ⟨⟨by (first|exact Or.inr (congrArg some (QG _ _ _ _))),rfl⟩,?_⟩));refine qh ?_;(first|(refine rmU ?_<;>refine qf ⟨⟨by (first|exact True.intro),rfl⟩,?_⟩));refine qh ?_;(first|(refine aU ?_<;>refine qf ⟨⟨by (first|exact True.intro),rfl⟩,?_⟩));refine qh ?_;(first|(refine vl ?_<;>refine qf ⟨⟨by (first|exact True.intro),rfl⟩,?_⟩));refine qh ?_;(first|((refine one 3 S ?_;have S0:=S;clear S;intro u h S);refine qf ⟨⟨True.intro,?_⟩,?_⟩;(focus ((show keepsX _ _ _ _ _;simp only [keepsX];(repeat' (first|exact True.intro|refine And.intro ?_ ?_));all_goals (intro hw;first|exact absurd hw (by decide +kernel)))));clear S0)))
           have htl:=k6.2.2.2;have htl2:ts.length≤1000:=by split at htl<;>omega
           refine qh ?_;refine app (y0:=⟨num i,num k,1+((lb.getD c default:Nat):Int) % 4⟩) S rfl rfl ?_;have S0:=S;clear S;intro v h S;obtain ⟨vt',rfl⟩:=S.sV v;refine qf ⟨⟨True.intro,?_⟩,?_⟩;(focus ((show keepsX _ _ _ _ _;simp only [keepsX];(repeat' (first|exact True.intro|refine And.intro ?_ ?_));all_goals (intro hw;first|exact absurd hw (by decide +kernel)))));clear S0;(refine qh ?_;(first|(refine vl ?_<;>refine qf ⟨⟨by (first|exact True.intro),rfl⟩,?_⟩));refine qh ?_;(first|((refine sB S rfl rfl ?_;have S0:=S;clear S;intro h S);refine qf ⟨⟨True.intro,?_⟩,?_⟩;(focus ((show keepsX _ _ _ _ _;simp only [keepsX];(repeat' (first|exact True.intro|refine And.intro ?_ ?_));all_goals (intro hw;first|exact absurd hw (by decide +kernel)))));clear S0));refine jw ?_);all_goals (repeat' (fail))
           replace S:Hs h0 h [.sl vt'.val 174 3 jD (ts ++ [⟨num i,num k,1+((lb.getD c default:Nat):Int) % 4⟩]),.sl vg.val 125 9 eG gs,.blk q4 [.slice none 0 0,.slice none 0 0] 151,Jw gs,.blk q [vg.val,vt'.val] 151]:=S;exact ⟨(_,vt'),⟨S.pick,k6.app (z:=1+((lb.getD c default:Nat):Int) % 4) k4.1 (by omega) (by omega) z1.1 z2.1 (hgat i (by omega) z1.1 z1.2) (hgat k (by omega) z2.1 z2.2)⟩,(qy)⟩
          all_goals
           all_goals (repeat' (fail))
           exact ⟨(ts,vt),⟨S,k6.next (by omega)⟩,(qy)⟩
         ·clear S;rintro ⟨ts,vt⟩ h ⟨S,k6⟩;all_goals (repeat' (first|(refine qc 33 ?_;refine mv ?_;refine ad ?_;refine mv ?_;refine qf ?_)))
          exact ⟨(ts,vt,c+1),⟨S,by omega,k6⟩,(qy)⟩
        ·all_goals (repeat' (first|refine qi rfl ?_|refine qA ?_))
         exact ⟨(ts,vt,c),⟨S,by omega,k6.next (by omega)⟩,(qy)⟩
       ·all_goals (repeat' (first|refine qi rfl ?_|refine qA ?_))
        exact ⟨(ts,vt,c),⟨S,by omega,k6.out (by omega) (by omega)⟩,(qy)⟩
      ·clear S k5 k6;rintro ⟨ts,vt,c⟩ h ⟨S,k5,k6⟩;all_goals (repeat' (first|(refine qc 27 ?_;refine mv ?_;refine ad ?_;refine mv ?_;refine qf ?_)))
       refine ⟨(ts,vt,c,k+1),?_,?_,qy⟩
       ·show 312 - (k+1)<312 - k;omega
       ·exact ⟨S,by omega,by omega,k6⟩
     ·exact ⟨(ts,vt,c),⟨S,by omega,k6.out (by omega) (by omega)⟩,(qy)⟩
    ·clear S k2 k3;rintro ⟨ts,vt,c⟩ h ⟨S,k2,k3⟩;all_goals (repeat' (first|(refine qc 24 ?_;refine mv ?_;refine ad ?_;refine mv ?_;refine qf ?_)))
     refine ⟨(ts,vt,c,i+1),?_,?_,qy⟩
     ·show 312 - (i+1)<312 - i;omega
     ·exact ⟨S,by omega,by omega,k3⟩
   ·obtain rfl:i=312:=by omega
    exact ⟨(ts,vt),⟨S,k3⟩,(qy)⟩
  ·clear S;rintro ⟨ts,vt⟩ h ⟨S,k3⟩;all_goals (repeat' (first|refine qg ?_|(refine qc 34 ?_;refine lB S rfl rfl ?_;(first|(refine sB S rfl rfl ?_;clear S;intro h S));refine qf ?_)))
   refine qw ⟨_,zk S rfl (by first|exact .there .here) (by exact rfl) (by exact rfl),?_⟩;obtain ⟨fp,ht⟩:=S.anyP (.there (.there .here));refine ⟨⟨vg,vt,gs⟩,⟨us,ts⟩,rfl,⟨Rd.of_sl S .here,Rd.of_sl S (.there (.there (.there (.there .here)))),fun i hi=>⟨TgsOk.rd ht hi,?_⟩,hus.symm,?_,?_⟩,⟨fun g hg=>?_,fun i j hij hj=>?_,?_,k3.1,k3.2.1,?_⟩,⟨?_,(by show us.length≤_;omega),hun⟩,(show Hs h0 _ [.sl vg.val 125 9 eG gs,.sl vt.val 174 3 jD ts,Jw gs] from S.pick)⟩
   ·have:=(g3 i hi).2.1;show (gs.getD i default).tg.length≤_;omega
   ·show us.length≤_;omega
   ·have:=k3.2.2.2;show ts.length≤_;omega
   ·obtain ⟨i,hi,rfl⟩:=qI.1 hg;rw [hus,zu (show i<gs.length by rw [← hul];exact hi)];exact qfi (g3 i (by rw [← hul];exact hi)).1 (g3 i (by rw [← hul];exact hi)).2
   ·replace hj:j<us.length:=hj;rw [hun i (by omega),hun j hj];intro q;have:=qad (by omega) (by omega) q;omega
   ·show us.length≤_;omega
   ·have:=k3.2.2.2;show ts.length≤_;omega
   ·show us.length≤_;omega
end Go.Proofs.Xx
namespace Go.Proofs.Xx
open Go Go.Proofs
def Ju (k:Nat):List UInt8:=[116,UInt8.ofNat (97+k % 26)]
theorem GL (k:Nat):jC (Ju k):=by
 refine ⟨by simp [Ju],by simp [Ju],fun i hi=>?_⟩;have h2:k % 26<26:=Nat.mod_lt _ (by decide);have hi:i<2:=by simpa [Ju] using hi
 rcases (show i=0∨i=1 by omega) with rfl|rfl
 ·show QO 116
  unfold QO;decide
 ·show QO (UInt8.ofNat (97+k % 26))
  unfold QO;rw [UInt8.toNat_ofNat',Nat.mod_eq_of_lt (by omega)];omega
theorem qar {i j:Nat} (hi:i<26) (hj:j<26) (h:Ju i=Ju j):i=j:=by
 unfold Ju at h;have h1:=congrArg UInt8.toNat (List.cons.inj (List.cons.inj h).2).1;rw [UInt8.toNat_ofNat',UInt8.toNat_ofNat',Nat.mod_eq_of_lt (by omega),Nat.mod_eq_of_lt (by omega)] at h1;omega
theorem qbl {h0:AH} (w:WfH h0) (j:Nat) (hj:j≤1000000):Fn Tryz.prog Xh 148 [.int .i64 j] h0 (fun v h'=>v=str (Ju j)∧Hs h0 h' []):=by
 have S:=Hs.start w;refine qM (by first|rfl) Tryz.func148 rfl rfl ?_;all_goals (repeat' (first|refine qg ?_|(refine qc 0 ?_;refine mv ?_;refine qf ?_)|(refine qc 1 ?_;refine mv ?_;refine rm ?_;refine ad ?_;refine cU ?_)))
 refine bsn (α:=Nat) (z:=1) eU [116,97+j % 26] S ?_;clear S;intro u h S;refine bS (Rd.of_sl S .here) ?_;(refine mv ?_;refine qf ?_);all_goals (repeat' (fail))
 refine qw ⟨_,rfl,?_⟩;exact ⟨rfl,S.drop⟩
def GH (s a b:Int):Int:=if s=2 then 2*a+b else if s=3 then a+2*b else a
theorem GX {t:Tab} (h:chk t=0):GH t.shape t.A t.B=zn t:=by
 have h2:zn t≠0:=fun q=>by
  unfold chk at h;split at h
  all_goals first|omega
 unfold zn jA QB Zh Zc Q3 at h2 ⊢;unfold GH;repeat' split
 all_goals simp_all
theorem YQ {h0:AH} (w:WfH h0) (t:Tab) (hA : -100≤t.A∧t.A≤100) (hB : -100≤t.B∧t.B≤100):Fn Tryz.prog Xh 109 [X9 t] h0 (fun v h'=>v = .int .i64 (GH t.shape t.A t.B)∧Hs h0 h' []):=by
 have S:=Hs.start w;refine qM (by first|rfl) Tryz.func109 rfl rfl ?_;all_goals (repeat' (first|refine qg ?_|refine qi rfl ?_|refine qj ?_|refine qp ?_|(refine qc 0 ?_;(refine bx S ?_;clear S;intro b h S);refine mv ?_;refine qf ?_)|(refine qc 1 ?_;refine vl ?_;refine lB S rfl rfl ?_;refine qf ?_)|(refine qc 2 ?_;(first|(refine cS ?_ ?_<;>intro hc))<;>(refine mv ?_;refine qf ?_))|(refine qc 3 ?_;refine vl ?_;refine lB S rfl rfl ?_;refine ml ?_;refine vl ?_;refine lB S rfl rfl ?_;refine ad ?_;refine mv ?_;refine qf ?_)|(refine qc 4 ?_;(first|(refine cS ?_ ?_<;>intro hc))<;>(refine mv ?_;refine qf ?_))|(refine qc 5 ?_;refine vl ?_;refine lB S rfl rfl ?_;refine vl ?_;refine lB S rfl rfl ?_;refine ml ?_;refine ad ?_;refine mv ?_;refine qf ?_)|(refine qc 6 ?_;refine vl ?_;refine lB S rfl rfl ?_;refine mv ?_;refine qf ?_)))
 all_goals (refine qw ⟨_,rfl,?_⟩)
 all_goals (refine ⟨?_,S.drop⟩;unfold GH;first|(rw [if_pos (by assumption)];rfl)|(rw [if_neg (by assumption),if_pos (by assumption)];rfl)|(rw [if_neg (by assumption),if_neg (by assumption)];rfl))
structure qgs (i x:Nat) (t:Tab):Prop where
 name:t.name=Ju i
 sh:1≤t.shape∧t.shape≤4
 X:t.X=x
 Y:t.Y=255 - x
 A:1≤t.A∧t.A≤6
 B:0≤t.B∧t.B≤6
 sz:zn t=GH t.shape t.A t.B∧1≤zn t
def PQ (s A B:Int):Prop:=(1≤A∧A≤6)∧(0≤B∧B≤6)∧1≤jA s A B∧jA s A B=GH s A B
theorem wR (s A B:Int) (h:(s=1∧1≤A∧A≤6∧B=0)∨(s=2∧1≤A∧A≤3∧0≤B∧B≤2)∨(s=3∧1≤A∧A≤2∧1≤B∧B≤2)∨(s=4∧1≤A∧A≤5∧0≤B∧B≤A)):PQ s A B:=by
 unfold PQ jA GH QB Zh Zc Q3;rcases h with ⟨rfl,h⟩|⟨rfl,h⟩|⟨rfl,h⟩|⟨rfl,h⟩
 all_goals (refine ⟨by omega,by omega,?_,?_⟩<;>(repeat' split)<;>omega)
abbrev PV (i m:Nat) (A B:Int) (os:SlV) (l:List Int):Tab:=⟨Ju i,1+(m:Int) % 4,A,B,os,l,m,255 - m⟩
theorem qbs {h0:AH} (w:WfH h0) (i m:Nat) (hi:i<26) (hm:m<256):Fn Tryz.prog Xh 108 [.int .i64 i,.int .i64 m] h0 (fun v h'=>∃ t:Tab,v=X9 t∧qgs i m t∧chk t=0∧t.opn.length≤24∧Hs h0 h' [.sl t.ov 3 1 eI t.opn]):=by
 have S:=Hs.start w;refine qM (by first|rfl) Tryz.func108 rfl rfl ?_;all_goals (repeat' (first|refine qg ?_|(refine qc 0 ?_;(refine al S ?_;clear S;intro b h S);refine qf ?_)|(refine qc 1 ?_;refine mv ?_)))
 obtain ⟨b4,hnm⟩:∃ x,x=b:=⟨_,rfl⟩;subst hnm;(refine qx rfl rfl rfl rfl rfl ((qbl S.wf i (by omega)).mono ?_);rintro _ h ⟨rfl,x⟩)<;>(replace S:=S.join0 x;clear x;refine mv ?_;refine rm ?_;refine ad ?_;refine cU ?_;refine mv ?_;refine mv ?_;refine sb ?_;refine vl ?_;(refine al S ?_;clear S;intro b h S);(first|(refine sB S rfl rfl ?_;clear S;intro h S));refine qf ?_)
 all_goals (repeat' (first|refine qg ?_|(refine qc 2 ?_;refine mv ?_;refine qu ?_;refine mv ?_;refine qf ?_)|(refine qc 3 ?_;refine vl ?_;refine lB S rfl rfl ?_;refine qf ?_)))
 replace S:Hs h0 h [.blk b (eT (PV i m 0 0 ⟨none,0,0⟩ [])) 84,.blk b4 (eT default) 84]:=S;(repeat (refine qg ?_));first|refine Qb (σ:=Int×Int) (fun (A,B) h'=>Hs h0 h' [.blk b (eT (PV i m A B ⟨none,0,0⟩ [])) 84,.blk b4 (eT default) 84]∧PQ (1+(m:Int) % 4) A B) (fun (A,B)=>[(1,.int .i64 m),(4,.pointer (some ⟨b4,0,none⟩)),(5,.pointer (some ⟨b,0,none⟩))]) ?_ ?_
 ·all_goals (repeat' (first|refine qg ?_|refine qi rfl ?_|refine qp ?_|(refine qc 4 ?_;(first|(refine cS ?_ ?_<;>intro hc))<;>(refine mv ?_;refine qf ?_))|(refine qc 5 ?_;refine mv ?_;refine rm ?_;refine ad ?_;refine vl ?_;(first|(refine sB S rfl rfl ?_;clear S;intro h S));refine qf ?_)|(refine qc 6 ?_;(first|(refine cS ?_ ?_<;>intro hc))<;>(refine mv ?_;refine qf ?_))|(refine qc 7 ?_;refine mv ?_;refine rm ?_;refine ad ?_;refine mv ?_;refine qu ?_;refine rm ?_;refine vl ?_;(first|(refine sB S rfl rfl ?_;clear S;intro h S));refine vl ?_;(first|(refine sB S rfl rfl ?_;clear S;intro h S));refine qf ?_)|(refine qc 8 ?_;(first|(refine cS ?_ ?_<;>intro hc))<;>(refine mv ?_;refine qf ?_))|(refine qc 9 ?_;refine mv ?_;refine rm ?_;refine ad ?_;refine mv ?_;refine qu ?_;refine rm ?_;refine ad ?_;refine vl ?_;(first|(refine sB S rfl rfl ?_;clear S;intro h S));refine vl ?_;(first|(refine sB S rfl rfl ?_;clear S;intro h S));refine qf ?_)|(refine qc 10 ?_;(refine cT ?_)<;>(refine mv ?_;refine qf ?_))|(refine qc 11 ?_;refine mv ?_;refine rm ?_;refine ad ?_;refine vl ?_;(first|(refine sB S rfl rfl ?_;clear S;intro h S));refine qf ?_)|(refine qc 12 ?_;refine vl ?_;refine lB S rfl rfl ?_;refine mv ?_;refine qu ?_;refine rm ?_;refine mn ?_;refine vl ?_;(first|(refine sB S rfl rfl ?_;clear S;intro h S));refine qf ?_)))
  ·exact ⟨(1+(m:Int) / 4 % 6,0),⟨S,wR _ _ _ (.inl (by omega))⟩,(qy)⟩
  ·exact ⟨(1+(m:Int) / 4 % 3,(m:Int) / 4 / 3 % 3),⟨S,wR _ _ _ (.inr (.inl (by omega)))⟩,(qy)⟩
  ·exact ⟨(1+(m:Int) / 4 % 2,1+(m:Int) / 4 / 2 % 2),⟨S,wR _ _ _ (.inr (.inr (.inl (by omega))))⟩,(qy)⟩
  ·exact ⟨(1+(m:Int) / 4 % 5,min (1+(m:Int) / 4 % 5) ((m:Int) / 4 / 5 % 4)),⟨S,wR _ _ _ (.inr (.inr (.inr (by omega))))⟩,(qy)⟩
 clear S;rintro ⟨A,B⟩ h ⟨S,hAB⟩;obtain ⟨hA,hB,h1,h2⟩:=hAB;replace S:=S.nilS (e:=3) (z:=1) (enc:=eI);all_goals (repeat' (first|refine qg ?_|refine qp ?_|(refine qc 13 ?_;refine mv ?_;refine qf ?_)))
 have hsz:jA (1+(m:Int) % 4) A B≤24:=(Qo (PV i m A B ⟨none,0,0⟩ [])).2;refine qL (σ:=Nat×SlV×List Int) (fun (k,os,l) h'=>Hs h0 h' [.sl os.val 3 1 eI l,.blk b (eT (PV i m A B os l)) 84,.blk b4 (eT default) 84]∧(k:Int)≤GH (1+(m:Int) % 4) A B∧l.length≤k∧(∀ j,j<l.length→0≤l.getD j default∧l.getD j default<k)∧∀ j,j<l.length→0<j→l.getD (j - 1) default<l.getD j default) (fun (k,os,l)=>24 - k) (fun (k,os,l)=>[(1,.int .i64 m),(4,.pointer (some ⟨b4,0,none⟩)),(5,.pointer (some ⟨b,0,none⟩)),(7,.int .i64 k)]) (0,⟨none,0,0⟩,[]) qy ?_ ?_
 ·exact ⟨S,by omega,zB0 _,fun j hj=>absurd hj (zB7 _),fun j hj=>absurd hj (zB7 _)⟩
 clear S;rintro ⟨k,os,l⟩ h ⟨S,g1,g2,g3,g4⟩;have hA2 : -100≤(PV i m A B os l).A∧(PV i m A B os l).A≤100:=⟨by show -100≤A;omega,by show A≤100;omega⟩
 have hB2 : -100≤(PV i m A B os l).B∧(PV i m A B os l).B≤100:=⟨by show -100≤B;omega,by show B≤100;omega⟩
 have hsame:GH (PV i m A B os l).shape (PV i m A B os l).A (PV i m A B os l).B=GH (1+(m:Int) % 4) A B:=rfl;all_goals (repeat' (first|refine qg ?_|(refine qc 14 ?_;refine mv ?_;refine lB S rfl rfl ?_)))
 (refine qx rfl rfl rfl rfl rfl ((YQ S.wf (PV i m A B os l) hA2 hB2).mono ?_);rintro _ h ⟨rfl,x⟩)<;>(replace S:=S.join0 x;clear x;(first|(refine cS ?_ ?_<;>intro hc))<;>(refine qf ?_))
 all_goals (repeat' (first|refine qg ?_|refine qi rfl ?_|refine qj ?_|refine qA ?_|refine qp ?_|(refine qc 16 ?_;refine mv ?_;refine mv ?_;refine sR ?_;refine rm ?_;(first|(refine cS ?_ ?_<;>intro hc))<;>(refine mv ?_;(first|refine off ?_|refine mv ?_);(first|refine off ?_|(refine rm ?_));(first|refine off ?_|(first|(refine cS ?_ ?_<;>intro hc)))<;>(refine vl ?_;refine qf ?_)))|(refine qc 17 ?_;refine vl ?_;refine lB S rfl rfl ?_;refine mv ?_;refine qf ?_)|(refine qc 18 ?_;refine mv ?_;refine mv ?_;(refine one 1 S ?_;clear S;intro u h S))))
 ·refine app  S rfl rfl ?_;clear S;intro v h S;obtain ⟨os',rfl⟩:=S.sV v;refine vl ?_;(first|(refine sB S rfl rfl ?_;clear S;intro h S));refine qf ?_;all_goals (repeat' (first|(refine qc 15 ?_;refine mv ?_;refine ad ?_;refine mv ?_;refine qf ?_)))
  refine ⟨(k+1,os',l ++ [(k:Int)]),?_,?_,qy⟩
  ·show 24 - (k+1)<24 - k;omega
  ·refine ⟨S,by omega,by simp;omega,fun j hj=>?_,fun j hj h0=>?_⟩
   ·simp at hj;rcases zA7 j l.length with q|q
    ·rw [wU q];have:=g3 j q;omega
    ·rw [gA2 q,show j - l.length=0 by omega];show 0≤(k:Int)∧(k:Int)<((k+1:Nat):Int);omega
   ·simp at hj;rw [wU (show j - 1<l.length by omega)];rcases zA7 j l.length with q|q
    ·rw [wU q];exact g4 j q h0
    ·rw [gA2 q,show j - l.length=0 by omega];exact (g3 (j - 1) (by omega)).2
 ·all_goals (repeat' (first|(refine qc 15 ?_;refine mv ?_;refine ad ?_;refine mv ?_;refine qf ?_)))
  refine ⟨(k+1,os,l),?_,?_,qy⟩
  ·show 24 - (k+1)<24 - k;omega
  ·exact ⟨S,by omega,by omega,fun j hj=>by have:=g3 j hj;omega,g4⟩
 ·all_goals (repeat' (first|(refine qc 15 ?_;refine mv ?_;refine ad ?_;refine mv ?_;refine qf ?_)))
  refine ⟨(k+1,os,l),?_,?_,qy⟩
  ·show 24 - (k+1)<24 - k;omega
  ·exact ⟨S,by omega,by omega,fun j hj=>by have:=g3 j hj;omega,g4⟩
 ·all_goals (repeat' (first|(refine qc 19 ?_;refine lB S rfl rfl ?_;(first|(refine sB S rfl rfl ?_;clear S;intro h S));refine qf ?_)))
  refine qw ⟨_,zk S rfl (by first|exact .there (.there .here)) (by exact rfl) (by exact rfl),?_⟩;have hts:zn (PV i m A B os l)=GH (1+(m:Int) % 4) A B:=h2;refine ⟨PV i m A B os l,rfl,⟨rfl,⟨by show 1≤1+(m:Int) % 4;omega,by show 1+(m:Int) % 4≤4;omega⟩,rfl,rfl,hA,hB,⟨hts,by omega⟩⟩,?_,by show l.length≤24;omega,?_⟩
  ·unfold chk;rw [if_neg (fun q=>q (GL i)),if_neg (by omega),if_neg,if_neg]
   ·exact fun q=>q ⟨by show 0≤(m:Int);omega,by show (m:Int)≤1000;omega,by show 0≤255 - (m:Int);omega,by show 255 - (m:Int)≤1000;omega⟩
   ·refine fun q=>q fun j hj=>⟨⟨(g3 j hj).1,?_⟩,g4 j hj⟩
    have:=(g3 j hj).2;show l.getD j default<_
    omega
  ·exact S.only .here
theorem vz {k:Kd} {p:Pb} {r:Ru} (h1:0≤r.w∧r.w≤1000) (h2:k.plain r) (h3:¬ k.unk p.us r) (h4:¬ (k.a=100∧¬ jC r.a)) (h5:¬ (k.b=true∧r.a=r.b)) (h6:¬ k.ut p.tabs r) (h7:¬ (k.n=true∧(r.n<k.lo∨k.most p.tabs r<r.n))):k.err p r=0:=by
 unfold Kd.err;rw [if_neg (by omega),if_neg (fun q=>q h2),if_neg h3,if_neg h4,if_neg h5,if_neg h6,if_neg h7]
theorem wB {p:Pb} {k w n:Int} {a b:List UInt8} (hk:1≤k∧k≤5) (hw:0≤w∧w≤1000) (ha:gat p.us a≠none) (hb:gat p.us b≠none) (hab:a≠b) (hn:(k=1∧0≤n∧n≤24)∨(k=4∧1≤n∧n≤24)∨((k=2∨k=3∨k=5)∧n=0)):VQ p ⟨k,w,a,b,[],n⟩=0:=by
 unfold VQ;rw [if_pos (by simp only;omega)];have:k=1∨k=2∨k=3∨k=4∨k=5:=by omega
 rcases this with rfl|rfl|rfl|rfl|rfl
 all_goals (refine vz hw ?_ ?_ ?_ ?_ ?_ ?_<;>simp [yz,kdL,Kd.plain,Kd.unk,Kd.ut,Kd.most,ha,hb,hab]<;>omega)
theorem qcq {l:List Tab} {j:Nat} (h:ValidL l) (hj:j<l.length):tix l (tb l j).name=j:=YS hj rfl fun i hi q=>(h.2 j hj).2 ⟨i,hi,q⟩
theorem qbM {p:Pb} {k w n:Int} {a t:List UInt8} (hk:k=6∨k=7) (hw:0≤w∧w≤1000) (ha:gat p.us a≠none) (hT:Zp p.tabs t) (hn:(k=6∧n=0)∨(k=7∧0≤n∧n<zn (tb p.tabs (tix p.tabs t)))):VQ p ⟨k,w,a,[],t,n⟩=0:=by
 have hm:∀ K:Kd,K.most p.tabs ⟨k,w,a,[],t,n⟩=if K.seat=true then zn (tb p.tabs (tix p.tabs t)) - 1 else 24:=fun K=>rfl
 generalize zn (tb p.tabs (tix p.tabs t))=M at hn hm
 unfold VQ;rw [if_pos (by simp only;omega)];rcases hk with rfl|rfl
 all_goals (refine vz hw ?_ ?_ ?_ ?_ ?_ ?_<;>simp [yz,kdL,Kd.plain,Kd.unk,Kd.ut,hm,ha,hT]<;>omega)
theorem yS {p:Pb} {w:Int} {a:List UInt8} (hw:0≤w∧w≤1000) (ha:a=[]∨gat p.us a≠none):VQ p ⟨10,w,a,[],[],0⟩=0:=by
 unfold VQ;rw [if_pos (by simp only;omega)];refine vz hw ?_ ?_ ?_ ?_ ?_ ?_<;>simp [yz,kdL,Kd.plain,Kd.unk,Kd.ut,Kd.most]
 rcases ha with ha|ha
 ·exact fun q=>absurd ha q
 ·exact fun _=>ha
theorem Kr {p:Pb} {w:Int} {a t:List UInt8} (hw:0≤w∧w≤1000) (ha:jC a) (hT:Zp p.tabs t):VQ p ⟨17,w,a,[],t,0⟩=0:=by
 unfold VQ;rw [if_pos (by simp only;omega)];refine vz hw ?_ ?_ ?_ ?_ ?_ ?_<;>simp [yz,kdL,Kd.plain,Kd.unk,Kd.ut,Kd.most,ha,hT]
theorem Ym {p:Pb} {k w n:Int} {t:List UInt8} (hk:k=8∨k=9∨(11≤k∧k≤16)∨k=18) (hw:0≤w∧w≤1000) (ht:t=[]∨Zp p.tabs t) (hn:((k=15∨k=16)∧0≤n∧n≤24)∨n=0):VQ p ⟨k,w,[],[],t,n⟩=0:=by
 unfold VQ;rw [if_pos (by simp only;omega)];have:k=8∨k=9∨k=11∨k=12∨k=13∨k=14∨k=15∨k=16∨k=18:=by omega
 have ht2:¬ t=[]→Zp p.tabs t:=fun q=>ht.elim (fun h=>absurd h q) id;rcases this with rfl|rfl|rfl|rfl|rfl|rfl|rfl|rfl|rfl
 all_goals (refine vz hw ?_ ?_ ?_ ?_ ?_ ?_<;>simp [yz,kdL,Kd.plain,Kd.unk,Kd.ut,Kd.most]<;>first|exact ht2|omega)
theorem xg {l m:List Tab} {n:List UInt8} (h:Zp l n):Zp (l ++ m) n∧tix (l ++ m) n=tix l n∧tb (l ++ m) (tix l n)=tb l (tix l n):=by
 obtain ⟨j,hj,hn⟩:=h;have hlt:tix l n<l.length:=by
  unfold tix;refine List.findIdx_lt_length.2 ⟨tb l j,qJ hj,by simpa using hn⟩
 refine ⟨⟨j,by simp;omega,by unfold tb;rw [wU hj];exact hn⟩,?_,by unfold tb;rw [wU hlt]⟩;unfold tix at hlt ⊢;rw [List.findIdx_append,if_pos hlt]
theorem qdq {p p':Pb} {r:Ru} {m:List Tab} (hu:p'.us=p.us) (ht:p'.tabs=p.tabs ++ m) (h:VQ p r=0):VQ p' r=0:=by
 unfold VQ at h ⊢;split at h
 rotate_left
 ·cases h
 rename_i hk
 rw [if_pos hk];have hks:(yz r.k).seat=true→(yz r.k).t=116:=by
  have:∀ i,i<18→(kdL.getD i default).seat=true→(kdL.getD i default).t=116:=by decide
  exact this _ (by omega)
 generalize yz r.k=k at h hks ⊢
 unfold Kd.err at h;split at h;· cases h
 split at h;· cases h
 split at h;· cases h
 split at h;· cases h
 split at h;· cases h
 split at h;· cases h
 split at h;· cases h
 rename_i h1 h2 h3 h4 h5 h6 h7
 refine vz (by omega) (zF3.1 h2) (by rw [hu];exact h3) h4 h5 ?_ ?_
 ·rintro (⟨q1,q2⟩|⟨q1,q2,q3⟩)
  ·exact h6 (.inl ⟨q1,fun q=>q2 (by rw [ht];exact (xg q).1)⟩)
  ·exact h6 (.inr ⟨q1,q2,fun q=>q3 (by rw [ht];exact (xg q).1)⟩)
 ·rintro ⟨q1,q2⟩;refine h7 ⟨q1,q2.imp id fun q=>?_⟩;unfold Kd.most at q ⊢;split at q
  ·rename_i hs
   rw [if_pos hs];by_cases hT:Zp p.tabs r.t
   ·obtain ⟨-,e1,e2⟩:=xg (m:=m) hT;rw [ht,e1,e2] at q;exact q
   ·exact absurd (.inl ⟨hks hs,hT⟩) h6
  ·rename_i hs
   rw [if_neg hs];exact q
theorem Pv {t:Tab} (h:chk t=0):(-100≤t.A∧t.A≤100)∧(-100≤t.B∧t.B≤100)∧1≤zn t:=by
 have h2:zn t≠0:=fun q=>by
  unfold chk at h;split at h
  all_goals first|omega
 have h3:=Qo t;unfold zn jA QB Zh Zc Q3 at h2 h3 ⊢;repeat' split at h2
 all_goals simp_all
 all_goals omega
theorem qcN {h0:AH} (w:WfH h0) (v:PbV) (tabs:List Tab) (us:List Gu) (rt:zo h0 v.vt.val 7 eT tabs) (hv:ValidL tabs) (rg:zo h0 v.vg.val 9 eG v.gs) (hu:v.gs.map (·.toGu)=us) (hg:∀ g∈us,Qw g=0) (nd:∀ i j,i<j→j<us.length→(us.getD i default).name≠(us.getD j default).name) (hul:us.length≤100) (x:Nat) (hx:x<4294967296) :
 Fn Tryz.prog Xh 111 [v.val,.int .i64 x] h0 (fun u h'=>∃ r c,u = .tuple #[ruV r,.bool c]∧(c=true→∀ p:Pb,p.tabs=tabs→p.us=us→VQ p r=0)∧Hs h0 h' []):=by
 have S:=Hs.start w;have hgl:v.gs.length=us.length:=by rw [← hu];simp
 have htl:=hv.1;unfold PbV.val;refine qM (by first|rfl) Tryz.func111 rfl rfl ?_;all_goals (repeat' (first|refine qg ?_|(refine qc 0 ?_;(refine bx S ?_;clear S;intro b h S);(refine al S ?_;clear S;intro b h S);refine mv ?_;refine qf ?_)))
 rename_i b2 h2
 obtain ⟨b4,hnm⟩:∃ x,x=b:=⟨_,rfl⟩;subst hnm;all_goals (repeat' (first|refine qg ?_|(refine qc 1 ?_;refine mv ?_;refine rm ?_;refine ad ?_;refine cU ?_;refine vl ?_;(refine al S ?_;clear S;intro b h S);(first|(refine sB S rfl rfl ?_;clear S;intro h S));refine qf ?_)|(refine qc 2 ?_;refine mv ?_;refine qu ?_;refine mv ?_;refine qf ?_)))
 obtain ⟨b6,hnm⟩:∃ x,x=b:=⟨_,rfl⟩;subst hnm;replace S:Hs h0 h [.blk b6 (JI ⟨1+(x:Int) % 18,0,[],[],[],0⟩) 155,.blk b4 (JI default) 155,.blk b2 v.cs 28]:=S;(repeat (refine qg ?_));first|refine Qg (σ:=Int) (fun wt h'=>Hs h0 h' [.blk b6 (JI ⟨1+(x:Int) % 18,wt,[],[],[],0⟩) 155,.blk b4 (JI default) 155,.blk b2 v.cs 28]∧0≤wt∧wt≤7) (fun wt=>[(2,.pointer (some ⟨b2,0,none⟩)),(4,.pointer (some ⟨b4,0,none⟩)),(5,.bool false),(6,.pointer (some ⟨b6,0,none⟩)),(1,.int .i64 (x / 18))]) ?_ ?_
 ·all_goals (repeat' (first|refine qi rfl ?_|refine qj ?_|(refine qc 3 ?_;refine mv ?_;refine rm ?_;(first|(refine cS ?_ ?_<;>intro hc))<;>(refine qf ?_))|(refine qc 4 ?_;refine mv ?_;refine rm ?_;refine ad ?_;refine vl ?_;(first|(refine sB S rfl rfl ?_;clear S;intro h S));refine qf ?_)))
  ·exact ⟨1+(x:Int) / 18 % 7,⟨S,by omega,by omega⟩,(qy)⟩
  ·exact ⟨0,⟨S,by omega,by omega⟩,(qy)⟩
 clear S;rintro wt h ⟨S,hw1,hw2⟩;have hw:0≤wt∧wt≤1000:=by omega
 all_goals (repeat' (first|refine qg ?_|refine qi rfl ?_|refine qj ?_|(refine qc 5 ?_;refine mv ?_;refine qu ?_;refine mv ?_;refine qf ?_)|(refine zi 6 ?_;refine vl ?_;refine lB S rfl rfl ?_;refine jZ S ?_;refine vl ?_;refine lB S rfl rfl ?_;refine jZ S ?_;refine mv ?_;refine mv ?_;refine qf ?_)|(refine qc 7 ?_;refine mv ?_;(first|(refine cS ?_ ?_<;>intro hc))<;>(refine mv ?_;(first|refine off ?_|refine mv ?_);(first|refine off ?_|(first|(refine cS ?_ ?_<;>intro hc)))<;>(refine vl ?_;refine qf ?_)))|(refine qc 8 ?_;refine lB S rfl rfl ?_;(first|(refine sB S rfl rfl ?_;clear S;intro h S));refine mv ?_;refine qf ?_)))
 ·refine qw ⟨_,zk S rfl (by first|exact .there .here) (by exact rfl) (by exact rfl),?_⟩;exact ⟨_,_,rfl,fun q=>(by cases q),S.drop⟩
 ·refine qw ⟨_,zk S rfl (by first|exact .there .here) (by exact rfl) (by exact rfl),?_⟩;exact ⟨_,_,rfl,fun q=>(by cases q),S.drop⟩
 have hgl0:0<v.gs.length:=by omega
 have htl0:0<tabs.length:=by omega
 have hk:1≤1+(x:Int) % 18∧1+(x:Int) % 18≤18:=by omega
 all_goals (repeat' (first|refine qg ?_|(refine zi 9 ?_;refine mv ?_;refine mv ?_;refine rm ?_;refine mv ?_;refine mv ?_;refine qu ?_;refine mv ?_;refine rm ?_;refine mv ?_;refine qu ?_;refine mv ?_;refine rm ?_;(iterate 3 refine mv ?_);refine qf ?_)|(refine qc 10 ?_;refine mv ?_;refine qu ?_;refine rm ?_;refine mv ?_;refine qf ?_)))
 obtain ⟨gi,hgi⟩:∃ gi:Nat,(x:Int) / 18 / 5 % v.gs.length=gi∧gi<v.gs.length:=⟨x / 18 / 5 % v.gs.length,by push_cast;rfl,Nat.mod_lt _ hgl0⟩
 obtain ⟨gj,hgj⟩:∃ gj:Nat,(x:Int) / 18 / 5 / v.gs.length % v.gs.length=gj∧gj<v.gs.length:=⟨x / 18 / 5 / v.gs.length % v.gs.length,by push_cast;rfl,Nat.mod_lt _ hgl0⟩
 obtain ⟨ti,hti⟩:∃ ti:Nat,(x:Int) / 18 / 5 / 7 % tabs.length=ti∧ti<tabs.length:=⟨x / 18 / 5 / 7 % tabs.length,by push_cast;rfl,Nat.mod_lt _ htl0⟩
 rw [hgi.1,hgj.1,hti.1];have na:∀ i,i<v.gs.length→gat us (v.gs.getD i default).name≠none:=fun i hi=>qah.2 ⟨us.getD i default,qJ (by omega),by rw [← hu,zu hi]⟩;have nn:∀ i j,i<v.gs.length→j<v.gs.length→i≠j→(v.gs.getD i default).name≠(v.gs.getD j default).name:=fun i j hi hj hij=>by
  have e1:(us.getD i default).name=(v.gs.getD i default).name:=by rw [← hu,zu hi]
  have e2:(us.getD j default).name=(v.gs.getD j default).name:=by rw [← hu,zu hj]
  rw [← e1,← e2];rcases Nat.lt_or_gt_of_ne hij with q|q
  ·exact nd i j q (by omega)
  ·exact fun e=>nd j i q (by omega) e.symm
 have hn:0≤(x:Int) / 18 / 5 / 11 % 4∧(x:Int) / 18 / 5 / 11 % 4≤3:=by omega
 obtain ⟨n,hne⟩:∃ n,(x:Int) / 18 / 5 / 11 % 4=n:=⟨_,rfl⟩
 rw [hne] at hn ⊢;obtain ⟨k,hke⟩:∃ k,1+(x:Int) % 18=k:=⟨_,rfl⟩
 rw [hke] at hk S;clear hke hne;have hbg:Xr v.vg.val<h0.next:=Rd.bS w rg hgl0
 have hbt:Xr v.vt.val<h0.next:=Rd.bS w rt htl0
 (repeat (refine qg ?_));first|refine Qb (σ:=Unit) (fun _ h'=>Hs h0 h' [.blk b6 [.int .u8 k,.int .i64 wt,str [],str [],str [],.int .i64 0] 155,.blk b4 (JI default) 155,.blk b2 v.cs 28]) (fun _=>[(1,.int .i64 ((x:Int) / 18 / 5)),(2,.pointer (some ⟨b2,0,none⟩)),(4,.pointer (some ⟨b4,0,none⟩)),(5,.bool false),(6,.pointer (some ⟨b6,0,none⟩)),(9,.int .i64 gi),(10,.int .i64 gj),(11,.int .i64 ti),(12,.int .i64 n),(58,.int .u8 k)]) ?_ ?_
 ·all_goals (repeat' (first|(refine qc 11 ?_;refine vl ?_;refine lB S rfl rfl ?_;refine qf ?_)))
  exact ⟨(),S,(qy)⟩
 clear S hw1 hw2;rintro _ h S;rcases (show (1≤k∧k≤5)∨(k=6∨k=7)∨k=10∨k=17∨(k=8∨k=9∨(11≤k∧k≤16)∨k=18) by omega) with hk5|hk67|hk10|hk17|hkr
 ·all_goals (repeat' (first|refine qg ?_|refine qi rfl ?_|refine qj ?_|refine qp ?_|(refine qc 12 ?_;(first|(refine cS ?_ ?_<;>intro hc))<;>(refine mv ?_;refine qf ?_))|(refine qc 13 ?_;(first|(refine cS ?_ ?_<;>intro hc))<;>(refine mv ?_;refine qf ?_))|(refine qc 14 ?_;(first|(refine cS ?_ ?_<;>intro hc))<;>(refine mv ?_;refine qf ?_))|(refine qc 15 ?_;(first|(refine cS ?_ ?_<;>intro hc))<;>(refine mv ?_;refine qf ?_))|(refine qc 16 ?_;(refine cT ?_)<;>(refine mv ?_;refine qf ?_))))
  all_goals first|(have e:k=1:=(by omega);subst e)|(have e:k=2:=(by omega);subst e)|(have e:k=3:=(by omega);subst e)|(have e:k=4:=(by omega);subst e)|(have e:k=5:=(by omega);subst e)
  all_goals ((repeat (refine qg ?_));refine jm (id:=17) [(7,(0,1)),(11,(0,1))] [some (b2),some (Xr v.vg.val)] ?_;refine qh ?_;(first|(refine vl ?_<;>refine qf ⟨⟨by (first|exact True.intro),rfl⟩,?_⟩));refine qh ?_;(first|(refine lB S rfl rfl ?_<;>refine qf ⟨⟨by (first|exact True.intro),rfl⟩,?_⟩));refine qh ?_;(first|(refine mv ?_<;>refine qf ⟨⟨by (first|exact True.intro),rfl⟩,?_⟩));refine qh ?_;(first|(refine QE S ?_<;>refine qf ⟨⟨by (first|exact True.intro),rfl⟩,?_⟩));refine qh ?_;(first|(refine fB S ?_<;>refine qf ⟨⟨by (first|exact True.intro),rfl⟩,?_⟩));refine qh ?_;(first|(refine Qk S ?_<;>refine qf ⟨⟨by (first|exact True.intro),rfl⟩,?_⟩));refine qh ?_;(first|(refine vl ?_<;>refine qf ⟨⟨by (first|exact True.intro),rfl⟩,?_⟩));refine qh ?_;(first|(refine lB S rfl rfl ?_<;>refine qf ⟨⟨by (first|exact Or.inr rfl),rfl⟩,?_⟩));refine qh ?_;(first|(refine mv ?_<;>refine qf ⟨⟨by (first|exact True.intro),rfl⟩,?_⟩));refine qh ?_;(first|(refine QE S ?_<;>refine qf ⟨⟨by (first|exact True.intro),rfl⟩,?_⟩));refine qh ?_;(first|(refine fB S ?_<;>refine qf ⟨⟨by (first|exact True.intro),rfl⟩,?_⟩));refine qh ?_;(first|(refine Qk S ?_<;>refine qf ⟨⟨by (first|exact Or.inr (congrArg some (QG _ _ _ _))),rfl⟩,?_⟩));refine qh ?_;(first|(refine vl ?_<;>refine qf ⟨⟨by (first|exact True.intro),rfl⟩,?_⟩));refine qh ?_;(first|((refine sB S rfl rfl ?_;have S0:=S;clear S;intro h S);refine qf ⟨⟨True.intro,?_⟩,?_⟩;(focus ((show keepsX _ _ _ _ _;simp only [keepsX];(repeat' (first|exact True.intro|refine And.intro ?_ ?_));all_goals (intro hw;first|exact (S.gB).trans (S0.gB).symm|exact (S.ext.old _ (by assumption)).trans (S0.ext.old _ (by assumption)).symm))));clear S0));refine qh ?_;(first|(refine vl ?_<;>refine qf ⟨⟨by (first|exact True.intro),rfl⟩,?_⟩));refine qh ?_;(first|((refine sB S rfl rfl ?_;have S0:=S;clear S;intro h S);refine qf ⟨⟨True.intro,?_⟩,?_⟩;(focus ((show keepsX _ _ _ _ _;simp only [keepsX];(repeat' (first|exact True.intro|refine And.intro ?_ ?_));all_goals (intro hw;first|exact absurd hw (by decide +kernel)))));clear S0));refine jw ?_)
  all_goals (replace S:Hs h0 h [.blk b6 [.int .u8 _,.int .i64 wt,str (v.gs.getD gi default).name,str (v.gs.getD gj default).name,str [],.int .i64 0] 155,.blk b4 (JI default) 155,.blk b2 v.cs 28]:=S)
  all_goals (skip)
  all_goals (all_goals (repeat' (first|refine qg ?_|refine qi rfl ?_|refine qj ?_|(refine qc 18 ?_;refine vl ?_;refine lB S rfl rfl ?_;(first|refine cT ?_|refine cF ?_)<;>(refine mv ?_;(first|refine off ?_|(refine vl ?_));(first|refine off ?_|(refine lB S rfl rfl ?_));(first|refine off ?_|(first|refine cT ?_|refine cF ?_))<;>(refine vl ?_;refine qf ?_)))|(refine qc 19 ?_;refine mv ?_;refine vl ?_;(first|(refine sB S rfl rfl ?_;clear S;intro h S));refine qf ?_)|(refine qc 20 ?_;refine vl ?_;refine lB S rfl rfl ?_;(first|refine cT ?_|refine cF ?_)<;>(refine qf ?_))|(refine qc 21 ?_;refine vl ?_;refine lB S rfl rfl ?_;refine ad ?_;refine vl ?_;(first|(refine sB S rfl rfl ?_;clear S;intro h S));refine qf ?_)|(refine qc 22 ?_;refine lB S rfl rfl ?_;refine mv ?_;refine mv ?_;(first|(refine cS ?_ ?_<;>intro hc))<;>((first|(refine sB S rfl rfl ?_;clear S;intro h S));refine mv ?_;refine qf ?_)))))
  all_goals (refine qw ⟨_,zk S rfl (by first|exact .there .here) (by exact rfl) (by exact rfl),?_⟩)
  all_goals first
   | exact ⟨⟨1,wt,(v.gs.getD gi default).name,(v.gs.getD gj default).name,[],n⟩,true,rfl,fun _ p ht hu'=>wB (by omega) hw (by rw [hu'];exact na gi hgi.2) (by rw [hu'];exact na gj hgj.2) (nn gi gj hgi.2 hgj.2 (by omega)) (.inl ⟨rfl,hn.1,by omega⟩),S.drop⟩
   | exact ⟨⟨4,wt,(v.gs.getD gi default).name,(v.gs.getD gj default).name,[],n+1⟩,true,rfl,fun _ p ht hu'=>wB (by omega) hw (by rw [hu'];exact na gi hgi.2) (by rw [hu'];exact na gj hgj.2) (nn gi gj hgi.2 hgj.2 (by omega)) (.inr (.inl ⟨rfl,by omega,by omega⟩)),S.drop⟩
   | exact ⟨⟨_,wt,(v.gs.getD gi default).name,(v.gs.getD gj default).name,[],0⟩,true,rfl,fun _ p ht hu'=>wB (by omega) hw (by rw [hu'];exact na gi hgi.2) (by rw [hu'];exact na gj hgj.2) (nn gi gj hgi.2 hgj.2 (by omega)) (.inr (.inr ⟨by omega,rfl⟩)),S.drop⟩
   | exact ⟨⟨_,wt,(v.gs.getD gi default).name,(v.gs.getD gj default).name,[],_⟩,false,rfl,fun q=>(by cases q),S.drop⟩
 ·have hT:Zp tabs (tb tabs ti).name:=⟨ti,hti.2,rfl⟩
  have hx:=qcq hv hti.2;all_goals (repeat' (first|refine qg ?_|refine qi rfl ?_|refine qj ?_|refine qp ?_|(refine qc 12 ?_;(refine cF ?_)<;>(refine mv ?_;refine qf ?_))|(refine qc 13 ?_;(refine cF ?_)<;>(refine mv ?_;refine qf ?_))|(refine qc 14 ?_;(refine cF ?_)<;>(refine mv ?_;refine qf ?_))|(refine qc 15 ?_;(refine cF ?_)<;>(refine mv ?_;refine qf ?_))|(refine qc 16 ?_;(refine cF ?_)<;>(refine mv ?_;refine qf ?_))|(refine qc 23 ?_;(first|(refine cS ?_ ?_<;>intro hc))<;>(refine mv ?_;refine qf ?_))|(refine qc 24 ?_;(refine cT ?_)<;>(refine mv ?_;refine qf ?_))))
  all_goals first|(have e:k=6:=(by omega);subst e)|(have e:k=7:=(by omega);subst e)
  all_goals ((repeat (refine qg ?_));refine jm (id:=25) [(7,(0,1)),(11,(0,1))] [some (b2),some (Xr v.vt.val)] ?_;refine qh ?_;(first|(refine vl ?_<;>refine qf ⟨⟨by (first|exact True.intro),rfl⟩,?_⟩));refine qh ?_;(first|(refine lB S rfl rfl ?_<;>refine qf ⟨⟨by (first|exact True.intro),rfl⟩,?_⟩));refine qh ?_;(first|(refine mv ?_<;>refine qf ⟨⟨by (first|exact True.intro),rfl⟩,?_⟩));refine qh ?_;(first|(refine QE S ?_<;>refine qf ⟨⟨by (first|exact True.intro),rfl⟩,?_⟩));refine qh ?_;(first|(refine fB S ?_<;>refine qf ⟨⟨by (first|exact True.intro),rfl⟩,?_⟩));refine qh ?_;(first|(refine Qk S ?_<;>refine qf ⟨⟨by (first|exact True.intro),rfl⟩,?_⟩));refine qh ?_;(first|(refine vl ?_<;>refine qf ⟨⟨by (first|exact True.intro),rfl⟩,?_⟩));refine qh ?_;(first|(refine lB S rfl rfl ?_<;>refine qf ⟨⟨by (first|exact Or.inr rfl),rfl⟩,?_⟩));refine qh ?_;(first|(refine mv ?_<;>refine qf ⟨⟨by (first|exact True.intro),rfl⟩,?_⟩));refine qh ?_;(first|(refine QE S ?_<;>refine qf ⟨⟨by (first|exact True.intro),rfl⟩,?_⟩));refine qh ?_;(first|(refine fB S ?_<;>refine qf ⟨⟨by (first|exact True.intro),rfl⟩,?_⟩));refine qh ?_;(first|(refine Qk S ?_<;>refine qf ⟨⟨by (first|exact Or.inr (congrArg some (QG _ _ _ _))),rfl⟩,?_⟩));refine qh ?_;(first|(refine vl ?_<;>refine qf ⟨⟨by (first|exact True.intro),rfl⟩,?_⟩));refine qh ?_;(first|((refine sB S rfl rfl ?_;have S0:=S;clear S;intro h S);refine qf ⟨⟨True.intro,?_⟩,?_⟩;(focus ((show keepsX _ _ _ _ _;simp only [keepsX];(repeat' (first|exact True.intro|refine And.intro ?_ ?_));all_goals (intro hw;first|exact (S.gB).trans (S0.gB).symm|exact (S.ext.old _ (by assumption)).trans (S0.ext.old _ (by assumption)).symm))));clear S0));refine qh ?_;(first|(refine vl ?_<;>refine qf ⟨⟨by (first|exact True.intro),rfl⟩,?_⟩));refine qh ?_;(first|((refine sB S rfl rfl ?_;have S0:=S;clear S;intro h S);refine qf ⟨⟨True.intro,?_⟩,?_⟩;(focus ((show keepsX _ _ _ _ _;simp only [keepsX];(repeat' (first|exact True.intro|refine And.intro ?_ ?_));all_goals (intro hw;first|exact absurd hw (by decide +kernel)))));clear S0));refine jw ?_)
  all_goals (replace S:Hs h0 h [.blk b6 [.int .u8 _,.int .i64 wt,str (v.gs.getD gi default).name,str [],str (tb tabs ti).name,.int .i64 0] 155,.blk b4 (JI default) 155,.blk b2 v.cs 28]:=S)
  all_goals (skip)
  all_goals (all_goals (repeat' (first|refine qg ?_|refine qi rfl ?_|refine qj ?_|(refine qc 26 ?_;refine vl ?_;refine lB S rfl rfl ?_;(first|refine cT ?_|refine cF ?_)<;>(refine qf ?_))|(refine qc 28 ?_;refine lB S rfl rfl ?_;(first|(refine sB S rfl rfl ?_;clear S;intro h S));refine mv ?_;refine qf ?_))))
  ·refine qw ⟨_,zk S rfl (by first|exact .there .here) (by exact rfl) (by exact rfl),?_⟩;exact ⟨⟨6,wt,(v.gs.getD gi default).name,[],(tb tabs ti).name,0⟩,true,rfl,fun _ p ht hu'=>qbM (.inl rfl) hw (by rw [hu'];exact na gi hgi.2) (by rw [ht];exact hT) (.inl ⟨rfl,rfl⟩),S.drop⟩
  ·obtain ⟨c1,c2,c3⟩:=Pv (hv.2 _ hti.2).1;have c4:=GX (hv.2 _ hti.2).1;all_goals (repeat' (first|(refine qc 27 ?_;refine mv ?_;refine qu ?_;refine vl ?_;refine lB S rfl rfl ?_;refine mv ?_;refine QE S ?_;refine Qk S ?_)))
   (refine qx rfl rfl rfl rfl rfl ((YQ S.wf (tb tabs ti) c1 c2).mono ?_);rintro _ h ⟨rfl,y⟩)<;>(replace S:=S.join0 y;clear y;refine rm ?_;refine vl ?_;(first|(refine sB S rfl rfl ?_;clear S;intro h S));refine qf ?_)
   have c5:1≤GH (tb tabs ti).shape (tb tabs ti).A (tb tabs ti).B:=by omega
   all_goals (repeat' (first|refine qg ?_|(refine qc 28 ?_;refine lB S rfl rfl ?_;(first|(refine sB S rfl rfl ?_;clear S;intro h S));refine mv ?_;refine qf ?_)))
   refine qw ⟨_,zk S rfl (by first|exact .there .here) (by exact rfl) (by exact rfl),?_⟩;have e1:=Int.emod_nonneg ((x:Int) / 18 / 5 / 13) (show zn (tb tabs ti)≠0 by omega);have e2:=Int.emod_lt_of_pos ((x:Int) / 18 / 5 / 13) (show 0<zn (tb tabs ti) by omega);rw [← c4] at e1 e2;exact ⟨⟨7,wt,(v.gs.getD gi default).name,[],(tb tabs ti).name,(x:Int) / 18 / 5 / 13 % GH (tb tabs ti).shape (tb tabs ti).A (tb tabs ti).B⟩,true,rfl,fun _ p ht hu'=>qbM (.inr rfl) hw (by rw [hu'];exact na gi hgi.2) (by rw [ht];exact hT) (.inr ⟨rfl,e1,by rw [ht,hx,← c4];exact e2⟩),S.drop⟩
 ·subst hk10;all_goals (repeat' (first|refine qg ?_|refine qi rfl ?_|refine qj ?_|refine qp ?_|(refine qc 12 ?_;(refine cF ?_)<;>(refine mv ?_;refine qf ?_))|(refine qc 13 ?_;(refine cF ?_)<;>(refine mv ?_;refine qf ?_))|(refine qc 14 ?_;(refine cF ?_)<;>(refine mv ?_;refine qf ?_))|(refine qc 15 ?_;(refine cF ?_)<;>(refine mv ?_;refine qf ?_))|(refine qc 16 ?_;(refine cF ?_)<;>(refine mv ?_;refine qf ?_))|(refine qc 23 ?_;(refine cF ?_)<;>(refine mv ?_;refine qf ?_))|(refine qc 24 ?_;(refine cF ?_)<;>(refine mv ?_;refine qf ?_))|(refine qc 29 ?_;(refine cT ?_)<;>(refine mv ?_;refine qf ?_))|(refine qc 30 ?_;refine mv ?_;refine rm ?_;(first|(refine cS ?_ ?_<;>intro hc))<;>(refine qf ?_))|(refine qc 31 ?_;refine vl ?_;refine lB S rfl rfl ?_;refine mv ?_;refine QE S ?_;refine fB S ?_;refine Qk S ?_;refine vl ?_;(first|(refine sB S rfl rfl ?_;clear S;intro h S));refine qf ?_)|(refine qc 32 ?_;refine lB S rfl rfl ?_;(first|(refine sB S rfl rfl ?_;clear S;intro h S));refine mv ?_;refine qf ?_)))
  all_goals (refine qw ⟨_,zk S rfl (by first|exact .there .here) (by exact rfl) (by exact rfl),?_⟩)
  ·exact ⟨⟨10,wt,(v.gs.getD gi default).name,[],[],0⟩,true,rfl,fun _ p ht hu'=>yS hw (.inr (by rw [hu'];exact na gi hgi.2)),S.drop⟩
  ·exact ⟨⟨10,wt,[],[],[],0⟩,true,rfl,fun _ p ht hu'=>yS hw (.inl rfl),S.drop⟩
 ·subst hk17;have hT:Zp tabs (tb tabs ti).name:=⟨ti,hti.2,rfl⟩
  all_goals (repeat' (first|refine qg ?_|refine qi rfl ?_|refine qp ?_|(refine qc 12 ?_;(refine cF ?_)<;>(refine mv ?_;refine qf ?_))|(refine qc 13 ?_;(refine cF ?_)<;>(refine mv ?_;refine qf ?_))|(refine qc 14 ?_;(refine cF ?_)<;>(refine mv ?_;refine qf ?_))|(refine qc 15 ?_;(refine cF ?_)<;>(refine mv ?_;refine qf ?_))|(refine qc 16 ?_;(refine cF ?_)<;>(refine mv ?_;refine qf ?_))|(refine qc 23 ?_;(refine cF ?_)<;>(refine mv ?_;refine qf ?_))|(refine qc 24 ?_;(refine cF ?_)<;>(refine mv ?_;refine qf ?_))|(refine qc 29 ?_;(refine cF ?_)<;>(refine mv ?_;refine qf ?_))|(refine qc 33 ?_;(refine cT ?_)<;>(refine mv ?_;refine qf ?_))))
  (repeat (refine qg ?_));refine jm (id:=34) [(7,(0,1)),(11,(0,1))] [some (b2),some (Xr v.vt.val)] ?_;refine qh ?_;(first|(refine vl ?_<;>refine qf ⟨⟨by (first|exact True.intro),rfl⟩,?_⟩));refine qh ?_;(first|(refine lB S rfl rfl ?_<;>refine qf ⟨⟨by (first|exact True.intro),rfl⟩,?_⟩));refine qh ?_;(first|(refine mv ?_<;>refine qf ⟨⟨by (first|exact True.intro),rfl⟩,?_⟩));refine qh ?_;(first|(refine QE S ?_<;>refine qf ⟨⟨by (first|exact True.intro),rfl⟩,?_⟩));refine qh ?_;(first|(refine fB S ?_<;>refine qf ⟨⟨by (first|exact True.intro),rfl⟩,?_⟩));refine qh ?_;(first|(refine Qk S ?_<;>refine qf ⟨⟨by (first|exact True.intro),rfl⟩,?_⟩));refine qh ?_;(first|(refine vl ?_<;>refine qf ⟨⟨by (first|exact True.intro),rfl⟩,?_⟩));refine qh ?_;(first|(refine lB S rfl rfl ?_<;>refine qf ⟨⟨by (first|exact Or.inr rfl),rfl⟩,?_⟩));refine qh ?_;(first|(refine mv ?_<;>refine qf ⟨⟨by (first|exact True.intro),rfl⟩,?_⟩));refine qh ?_;(first|(refine QE S ?_<;>refine qf ⟨⟨by (first|exact True.intro),rfl⟩,?_⟩));refine qh ?_;(first|(refine fB S ?_<;>refine qf ⟨⟨by (first|exact True.intro),rfl⟩,?_⟩));refine qh ?_;(first|(refine Qk S ?_<;>refine qf ⟨⟨by (first|exact Or.inr (congrArg some (QG _ _ _ _))),rfl⟩,?_⟩));refine qh ?_;(first|(refine vl ?_<;>refine qf ⟨⟨by (first|exact True.intro),rfl⟩,?_⟩));refine qh ?_;(first|((refine sB S rfl rfl ?_;have S0:=S;clear S;intro h S);refine qf ⟨⟨True.intro,?_⟩,?_⟩;(focus ((show keepsX _ _ _ _ _;simp only [keepsX];(repeat' (first|exact True.intro|refine And.intro ?_ ?_));all_goals (intro hw;first|exact (S.gB).trans (S0.gB).symm|exact (S.ext.old _ (by assumption)).trans (S0.ext.old _ (by assumption)).symm))));clear S0));refine qh ?_;(first|(refine vl ?_<;>refine qf ⟨⟨by (first|exact True.intro),rfl⟩,?_⟩));refine qh ?_;(first|((refine sB S rfl rfl ?_;have S0:=S;clear S;intro h S);refine qf ⟨⟨True.intro,?_⟩,?_⟩;(focus ((show keepsX _ _ _ _ _;simp only [keepsX];(repeat' (first|exact True.intro|refine And.intro ?_ ?_));all_goals (intro hw;first|exact absurd hw (by decide +kernel)))));clear S0));refine jw ?_;replace S:Hs h0 h [.blk b6 [.int .u8 17,.int .i64 wt,str (v.gs.getD gi default).diet,str [],str (tb tabs ti).name,.int .i64 0] 155,.blk b4 (JI default) 155,.blk b2 v.cs 28]:=S;(repeat (refine qg ?_));refine jm (id:=35) [(2,(0,1))] [some (b6)] ?_;refine qh ?_;(first|(refine lB S rfl rfl ?_<;>refine qf ⟨⟨by (first|exact True.intro),rfl⟩,?_⟩));refine qh ?_;(first|(refine vl ?_<;>refine qf ⟨⟨by (first|exact True.intro),rfl⟩,?_⟩));refine qh ?_;(first|(refine lB S rfl rfl ?_<;>refine qf ⟨⟨by (first|exact Or.inr rfl),rfl⟩,?_⟩));refine qh ?_;(first|((refine tS ?_ ?_<;>intro hc)<;>refine qf ⟨⟨by (first|exact True.intro),rfl⟩,?_⟩))<;>(refine qh ?_;(first|((refine sB S rfl rfl ?_;have S0:=S;clear S;intro h S);refine qf ⟨⟨True.intro,?_⟩,?_⟩;(focus ((show keepsX _ _ _ _ _;simp only [keepsX];(repeat' (first|exact True.intro|refine And.intro ?_ ?_));all_goals (intro hw;first|exact (S.gB).trans (S0.gB).symm))));clear S0));refine qh ?_;(first|(refine mv ?_<;>refine qf ⟨⟨by (first|exact True.intro),rfl⟩,?_⟩));refine jw ?_)
  ·refine qw ⟨_,zk S rfl (by first|exact .there .here) (by exact rfl) (by exact rfl),?_⟩;exact ⟨⟨17,wt,(v.gs.getD gi default).diet,[],(tb tabs ti).name,0⟩,false,rfl,fun q=>(by cases q),S.drop⟩
  ·refine qw ⟨_,zk S rfl (by first|exact .there .here) (by exact rfl) (by exact rfl),?_⟩;have hd:jC (v.gs.getD gi default).diet:=by
    have h3:=hg _ (qJ (show gi<us.length by omega));have e:(us.getD gi default).diet=(v.gs.getD gi default).diet:=by rw [← hu,zu hgi.2]
    have h4:YK (us.getD gi default):=by
     unfold Qw at h3;split at h3
     ·cases h3
     ·rename_i q;exact zF3.1 q
    have h5:=h4.2.2.2;rw [e] at h5;exact h5.elim (fun q=>absurd q hc) id
   exact ⟨⟨17,wt,(v.gs.getD gi default).diet,[],(tb tabs ti).name,0⟩,true,rfl,fun _ p ht hu'=>Kr hw hd (by rw [ht];exact hT),S.drop⟩
 ·have hT:Zp tabs (tb tabs ti).name:=⟨ti,hti.2,rfl⟩
  all_goals (repeat' (first|refine qg ?_|refine qi rfl ?_|refine qj ?_|refine qp ?_|(refine qc 12 ?_;(refine cF ?_)<;>(refine mv ?_;refine qf ?_))|(refine qc 13 ?_;(refine cF ?_)<;>(refine mv ?_;refine qf ?_))|(refine qc 14 ?_;(refine cF ?_)<;>(refine mv ?_;refine qf ?_))|(refine qc 15 ?_;(refine cF ?_)<;>(refine mv ?_;refine qf ?_))|(refine qc 16 ?_;(refine cF ?_)<;>(refine mv ?_;refine qf ?_))|(refine qc 23 ?_;(refine cF ?_)<;>(refine mv ?_;refine qf ?_))|(refine qc 24 ?_;(refine cF ?_)<;>(refine mv ?_;refine qf ?_))|(refine qc 29 ?_;(refine cF ?_)<;>(refine mv ?_;refine qf ?_))|(refine qc 33 ?_;(refine cF ?_)<;>(refine mv ?_;refine qf ?_))|(refine qc 36 ?_;(first|(refine cS ?_ ?_<;>intro hc))<;>(refine mv ?_;refine qf ?_))|(refine qc 37 ?_;(first|(refine cS ?_ ?_<;>intro hc))<;>(refine mv ?_;refine qf ?_))|(refine qc 38 ?_;refine mv ?_;refine vl ?_;(first|(refine sB S rfl rfl ?_;clear S;intro h S));refine qf ?_)))
  all_goals (skip)
  all_goals (all_goals (repeat' (first|refine qg ?_|refine qi rfl ?_|refine qj ?_|(refine qc 39 ?_;refine mv ?_;refine rm ?_;(first|(refine cS ?_ ?_<;>intro hc))<;>(refine qf ?_))|(refine qc 40 ?_;refine vl ?_;refine lB S rfl rfl ?_;refine mv ?_;refine QE S ?_;refine fB S ?_;refine Qk S ?_;refine vl ?_;(first|(refine sB S rfl rfl ?_;clear S;intro h S));refine qf ?_)|(refine qc 41 ?_;refine lB S rfl rfl ?_;(first|(refine sB S rfl rfl ?_;clear S;intro h S));refine mv ?_;refine qf ?_))))
  all_goals (refine qw ⟨_,zk S rfl (by first|exact .there .here) (by exact rfl) (by exact rfl),?_⟩)
  all_goals first
   | exact ⟨⟨k,wt,[],[],(tb tabs ti).name,n⟩,true,rfl,fun _ p ht hu'=>Ym hkr hw (.inr (by rw [ht];exact hT)) (.inl ⟨by omega,hn.1,by omega⟩),S.drop⟩
   | exact ⟨⟨k,wt,[],[],[],n⟩,true,rfl,fun _ p ht hu'=>Ym hkr hw (.inl rfl) (.inl ⟨by omega,hn.1,by omega⟩),S.drop⟩
   | exact ⟨⟨k,wt,[],[],(tb tabs ti).name,0⟩,true,rfl,fun _ p ht hu'=>Ym hkr hw (.inr (by rw [ht];exact hT)) (.inr rfl),S.drop⟩
   | exact ⟨⟨k,wt,[],[],[],0⟩,true,rfl,fun _ p ht hu'=>Ym hkr hw (.inl rfl) (.inr rfl),S.drop⟩
end Go.Proofs.Xx
