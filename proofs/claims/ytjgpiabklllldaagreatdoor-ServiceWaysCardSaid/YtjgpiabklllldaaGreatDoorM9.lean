/-
  Right rolls,as a list of facts;names of numbers.
-/
import Derived.Test.YtjgpiabklllldaaGreatDoorM8
import Derived.Test.YtjgpiabklllldaaGreatDoorM7
set_option linter.unusedSimpArgs false
set_option linter.unusedVariables false
set_option linter.unusedSectionVars false
set_option maxRecDepth 100000
set_option maxHeartbeats 4000000
namespace Go.Proofs.Xx
open Go Go.Proofs
theorem JP {us:List Gu} {n:List UInt8}:gat us n=none↔∀ g∈us,g.name≠n:=by
 induction us with
 | nil=>simp [gat]
 | cons x r ih =>
  simp only [gat];by_cases h:x.name=n
  ·simp [h]
  ·simp only [if_neg h,Option.map_eq_none_iff,ih,zE8];constructor
   ·rintro q g (rfl|hg)
    ·exact h
    ·exact q g hg
   ·exact fun q g hg=>q g (.inr hg)
theorem Yn {us:List Gu} {n:List UInt8} {i:Nat} (h:gat us n=some i):i<us.length∧(us.getD i default).name=n∧∀ j,j<i→(us.getD j default).name≠n:=by
 induction us generalizing i with
 | nil=>cases h
 | cons x r ih =>
  simp only [gat] at h;by_cases hx:x.name=n
  ·rw [if_pos hx] at h;cases h
   exact ⟨by simp,hx,fun j hj=>absurd hj (zB7 _)⟩
  ·rw [if_neg hx] at h;cases hr:gat r n with
   | none=>rw [hr] at h;cases h
   | some k =>
    rw [hr] at h;cases h
    obtain ⟨h1,h2,h3⟩:=ih hr;refine ⟨by simp;omega,h2,fun j hj=>?_⟩;cases j with
    | zero=>exact hx
    | succ j=>exact h3 j (by simp only at hj;omega)
theorem qI {α:Type} [Inhabited α] {l:List α} {i:Nat} (h:i<l.length):l.getD i default∈l:=by
 rw [zA2,zA4 h];exact List.getElem_mem h
theorem qK {α:Type} [Inhabited α] {l:List α} {x:α}:x∈l↔∃ i,i<l.length∧l.getD i default=x:=by
 constructor
 ·intro h;obtain ⟨i,hi,rfl⟩:=List.mem_iff_getElem.1 h;exact ⟨i,hi,by rw [zA2,zA4 hi];rfl⟩
 ·rintro ⟨i,hi,rfl⟩;exact qI hi
structure RO (r:Rl):Prop where
 chk:∀ g∈r.us,Qv g=0
 nd:∀ i j,i<j→j<r.us.length→(r.us.getD i default).name≠(r.us.getD j default).name
 l64:r.us.length≤64
 ts:TS r.ts
 tt:∀ t∈r.ts,jV t.a t.b∧(t.k=1∨t.k=2)∧gat r.us t.a≠none∧gat r.us t.b≠none
 l256:r.ts.length≤256
theorem RO.gat {r:Rl} (h:RO r) {i:Nat} (hi:i<r.us.length):gat r.us (r.us.getD i default).name=some i:=by
 cases hq:Xx.gat r.us (r.us.getD i default).name with
 | none=>exact absurd rfl (JP.1 hq _ (qI hi))
 | some j =>
  obtain ⟨h1,h2,h3⟩:=Yn hq;rcases zE7 i j with q|q|q
  ·exact absurd rfl (h3 i q)
  ·rw [q]
  ·exact absurd h2 (h.nd j i q hi)
theorem wO {us:List Gu} {i:Nat} (hi:i<us.length):gE0 us i=0↔Qv (us.getD i default)=0∧(∀ j,j<i→(us.getD j default).name≠(us.getD i default).name)∧i<64:=by
 unfold gE0;have hl:(us.take i).length=i:=by simp;omega
 have hg:Xx.gat (us.take i) (us.getD i default).name=none↔∀ j,j<i→(us.getD j default).name≠(us.getD i default).name:=by
  rw [JP];constructor
  ·intro h j hj;have:=h _ (qI (show j<(us.take i).length by omega));rwa [getD_take hj] at this
  ·intro h g hg;obtain ⟨j,hj,rfl⟩:=qK.1 hg;rw [getD_take (by omega)];exact h j (by omega)
 constructor
 ·intro h;obtain ⟨h1,h2,h3,-⟩:=Y2 h;exact ⟨h1,hg.1 h2,by simpa [hl] using h3⟩
 ·rintro ⟨h1,h2,h3⟩;rw [wW h1 (hg.2 h2) (by show ¬ 64≤(us.take i).length;omega)]
theorem qaW {ts:List Ti} {a b:List UInt8} (h:jV a b):tied ts a b↔∃ t∈ts,t.a=a∧t.b=b:=by unfold tied;rw [VP h,VQ h]
theorem YC {r:Rl}:VRl r↔RO r:=by
 constructor
 ·rintro ⟨h1,h2⟩;refine ⟨fun g hg=>?_,fun i j hij hj=>((wO hj).1 (h1 j hj)).2.1 i hij,PH (zA3 _) h1,?_,fun t ht=>?_,Pq (zA3 _) h2⟩
  ·obtain ⟨i,hi,rfl⟩:=qK.1 hg;exact ((wO hi).1 (h1 i hi)).1
  ·have:=(vI (zA3 _) h2).1;rwa [zD4] at this
  ·obtain ⟨i,hi,rfl⟩:=qK.1 ht;obtain ⟨z1,z2,z3⟩:=X5 (h2 i hi);obtain ⟨y1,y2,y3,y4,y5,y6,y7⟩:=J7 z3;exact ⟨z1,y1,y3,y4⟩
 ·intro h;refine ⟨fun i hi=>(wO hi).2 ⟨h.chk _ (qI hi),fun j hj=>h.nd j i hj hi,by have:=h.l64;omega⟩,fun i hi=>?_⟩;obtain ⟨z1,z2,z3,z4⟩:=h.tt _ (qI hi);have hb:∀ j,j<i→Zg (r.ts.getD j default) (r.ts.getD i default):=fun j hj=>h.ts.lt hj hi;have hz:i=0∨¬ Zg (r.ts.getD i default) (r.ts.getD (i - 1) default):=by
   rcases zF4 i with q|q
   ·exact .inl q
   ·exact .inr fun q2=>PQ _ (Q7 (hb (i - 1) (by omega)) q2)
  unfold Xn;rw [if_pos ⟨z1,hz⟩,vF]
  ·rintro (q|q)
   ·omega
   ·rw [q] at z1;exact zK _ z1
  ·rintro (q|q)
   ·exact z3 q
   ·exact z4 q
  ·rw [qaW z1];rintro ⟨t,ht,e1,e2⟩;obtain ⟨j,hj,rfl⟩:=qK.1 ht;have hl:(r.ts.take i).length=i:=by simp;omega
   replace hj:j<i:=by rw [← hl];exact hj
   rw [getD_take (by omega)] at e1 e2;rcases hb j (by omega) with q|q
   ·rw [e1] at q;exact zK _ q
   ·rw [e2] at q;exact zK _ q.2
  ·have:=h.l256;simp;omega
def num (j:Nat):List UInt8:=[UInt8.ofNat (97+j / 26 % 26),UInt8.ofNat (97+j % 26)]
theorem qeP {a b:Nat} (ha:a<256) (hb:b<256):UInt8.ofNat a<UInt8.ofNat b↔a<b:=by
 rw [UInt8.lt_iff_toNat_lt];simp [UInt8.toNat_ofNat,Nat.mod_eq_of_lt ha,Nat.mod_eq_of_lt hb]
theorem qfJ {a b:Nat} (ha:a<256) (hb:b<256):UInt8.ofNat a=UInt8.ofNat b↔a=b:=by
 constructor
 ·intro h;have:=congrArg UInt8.toNat h;simpa [UInt8.toNat_ofNat,Nat.mod_eq_of_lt ha,Nat.mod_eq_of_lt hb] using this
 ·rintro rfl;rfl
theorem WF {i j:Nat} (hi:i<676) (hj:j<676):jV (num i) (num j)↔i<j:=by
 unfold num;rw [Q9,Q9,qeP (by omega) (by omega),qfJ (by omega) (by omega),qeP (by omega) (by omega)];constructor
 ·rintro (h|⟨h1,h2|⟨h2,h3⟩⟩)
  ·omega
  ·omega
  ·exact absurd h3 (zK _)
 ·intro h;rcases zA7 (i / 26) (j / 26) with q|q
  ·exact .inl (by omega)
  ·exact .inr ⟨by omega,.inl (by omega)⟩
variable [Flag]
end Go.Proofs.Xx
namespace Go.Proofs.Xx
open Go Go.Proofs
structure Ru where
 k:Int
 w:Int
 a:List UInt8
 b:List UInt8
 t:List UInt8
 n:Int
instance:Inhabited Ru:=⟨⟨0,0,[],[],[],0⟩⟩
def JW (r:Ru):List Value:=[.int .u8 r.k,.int .i64 r.w,str r.a,str r.b,str r.t,.int .i64 r.n]
abbrev ruV (r:Ru):Value:=.agg (JW r).toArray
structure Pb where
 tabs:List Tab
 us:List Gu
 ts:List Ti
 cl:List Int
 ru:List Ru
abbrev Pb.rl (p:Pb):Rl:=⟨p.us,p.ts⟩
structure PbV where
 vt:SlV
 vg:SlV
 vi:SlV
 vc:SlV
 vr:SlV
 gs:List Zh
abbrev PbV.cs (v:PbV):List Value:=[v.vt.val,v.vg.val,v.vi.val,v.vc.val,v.vr.val]
def PbV.val (v:PbV):Value:=.agg #[v.vt.val,v.vg.val,v.vi.val,v.vc.val,v.vr.val]
abbrev PbV.rl (v:PbV):RlV:=⟨v.vg,v.vi,v.gs⟩
structure PbOk (h:AH) (v:PbV) (p:Pb):Prop where
 tab:HallR h v.vt.val p.tabs
 rol:RlOk h v.rl p.rl
 cl:qY h v.vc.val 1 eI p.cl
 ru:qY h v.vr.val 6 JW p.ru
 lc:p.cl.length≤1000000
 lr:p.ru.length≤1000000
theorem PbOk.ext {h h':AH} {v:PbV} {p:Pb} (a:PbOk h v p) (w:WfH h) (x:Ext h h'):PbOk h' v p:=⟨a.tab.ext w x,a.rol.ext w x,a.cl.ext w x,a.ru.ext w x,a.lc,a.lr⟩
structure Kd where
 a:Int
 b:Bool
 t:Int
 n:Bool
 lo:Int
 seat:Bool
instance:Inhabited Kd:=⟨⟨0,false,0,false,0,false⟩⟩
def kdL:List Kd:=[⟨103,true,0,true,0,false⟩,⟨103,true,0,false,0,false⟩,⟨103,true,0,false,0,false⟩,⟨103,true,0,true,1,false⟩,⟨103,true,0,false,0,false⟩,
 ⟨103,false,116,false,0,false⟩,⟨103,false,116,true,0,true⟩,⟨0,false,101,false,0,false⟩,⟨0,false,101,false,0,false⟩,⟨101,false,0,false,0,false⟩,
 ⟨0,false,101,false,0,false⟩,⟨0,false,101,false,0,false⟩,⟨0,false,101,false,0,false⟩,⟨0,false,101,false,0,false⟩,⟨0,false,101,true,0,false⟩,
 ⟨0,false,101,true,0,false⟩,⟨100,false,116,false,0,false⟩,⟨0,false,101,false,0,false⟩]
def Qu (k:Int):Kd:=kdL.getD (k.toNat - 1) default
def gI (us:List Gu) (n:List UInt8):Int:=match gat us n with|some i=>i|none=>-1
theorem QZ {us:List Gu} {n:List UInt8}:gI us n<0↔gat us n=none:=by
 unfold gI;cases gat us n with
 | none=>simp
 | some i=>simp
def Jm (l:List Tab) (n:List UInt8):Prop:=∃ j,j<l.length∧(tb l j).name=n
def X4 (l:List Tab) (n:List UInt8):Nat:=l.findIdx fun t=>decide (t.name=n)
theorem Gn {l:List Tab} {n:List UInt8} {k:Nat} (hk:k<l.length) (h1:(tb l k).name=n) (h2:∀ j,j<k→¬ (tb l j).name=n):X4 l n=k:=by
 unfold X4;rw [List.findIdx_eq hk];unfold tb at h1 h2;refine ⟨?_,fun j hj=>?_⟩
 ·rw [zA2,zA4 hk] at h1;simpa using h1
 ·have:=h2 j hj;rw [zA2,zA4 (by omega)] at this;simpa using this
def Kd.plain (k:Kd) (r:Ru):Prop:=(k.a≠0∨r.a=[])∧(k.b=true∨r.b=[])∧(k.t≠0∨r.t=[])∧(k.n=true∨r.n=0)
def Kd.unk (k:Kd) (us:List Gu) (r:Ru):Prop:=(k.a=103∧gat us r.a=none)∨(k.a=101∧r.a≠[]∧gat us r.a=none)∨(k.b=true∧gat us r.b=none)
def Kd.ut (k:Kd) (l:List Tab) (r:Ru):Prop:=(k.t=116∧¬ Jm l r.t)∨(k.t=101∧r.t≠[]∧¬ Jm l r.t)
def Kd.most (k:Kd) (l:List Tab) (r:Ru):Int:=if k.seat=true then zf (tb l (X4 l r.t)) - 1 else 24
open Classical in
noncomputable def Kd.err (k:Kd) (p:Pb) (r:Ru):Int :=
 if r.w<0∨1000<r.w then 41 else if ¬ k.plain r then 43 else if k.unk p.us r then 6 else if k.a=100∧¬ Ql r.a then 4 else if k.b=true∧r.a=r.b then 5 else
 if k.ut p.tabs r then 6 else if k.n=true∧(r.n<k.lo∨k.most p.tabs r<r.n) then 42 else 0
noncomputable def yE (p:Pb) (r:Ru):Int:=if 1≤r.k∧r.k≤18 then (Qu r.k).err p r else 40
structure PO (p:Pb):Prop where
 tabs:ValidL p.tabs
 rl:RO p.rl
 cl:(p.cl.length=0∨p.cl.length=p.us.length)∧∀ c∈p.cl,0≤c∧c<64
 room:(p.us.length:Int)≤sumT p.tabs p.tabs.length
 ru:∀ r∈p.ru,yE p r=0
 lr:p.ru.length≤64
def BasP (p:Pb) (i e:Int):Prop :=
 (e≠0∧ChkAll p.tabs i e)∨(ValidL p.tabs∧Bad p.rl i e)∨(ValidL p.tabs∧RO p.rl∧((¬ ((p.cl.length=0∨p.cl.length=p.us.length)∧∀ c∈p.cl,0≤c∧c<64)∧i=0∧e=44) ∨
  (((p.cl.length=0∨p.cl.length=p.us.length)∧∀ c∈p.cl,0≤c∧c<64)∧((sumT p.tabs p.tabs.length<p.us.length∧i=0∧e=45)∨((p.us.length:Int)≤sumT p.tabs p.tabs.length∧i=0∧e=0)))))
structure BO (p:Pb):Prop where
 tabs:ValidL p.tabs
 rl:RO p.rl
 cl:(p.cl.length=0∨p.cl.length=p.us.length)∧∀ c∈p.cl,0≤c∧c<64
 room:(p.us.length:Int)≤sumT p.tabs p.tabs.length
theorem BasP.bo {p:Pb} {i:Int} (b:BasP p i 0):BO p∧i=0:=by
 rcases b with ⟨h,-⟩|⟨-,h,-⟩|⟨h1,h2,⟨-,-,h⟩|⟨h3,⟨-,-,h⟩|⟨h4,h5,-⟩⟩⟩
 ·exact absurd rfl h
 ·exact absurd rfl h
 ·cases h
 ·cases h
 ·exact ⟨⟨h1,h2,h3,h4⟩,h5⟩
theorem BO.basP {p:Pb} (h:BO p) {i e:Int} (b:BasP p i e):i=0∧e=0:=by
 rcases b with ⟨h1,h2⟩|⟨-,h1,h2⟩|⟨h1,h2,⟨h3,-,-⟩|⟨h3,⟨h4,-,-⟩|⟨h4,h5,h6⟩⟩⟩
 ·exact absurd (h2.valid.2 h.tabs) h1
 ·have hv:=YC.2 h.rl;rcases h2 with ⟨j,h3,h4,h5,-⟩|⟨h0,j,h3,h4,h5,-⟩
  ·exact absurd (h5.symm.trans (hv.1 j h3)) h1
  ·exact absurd (h5.symm.trans (hv.2 j h3)) h1
 ·exact absurd h.cl h3
 ·have:=h.room;omega
 ·exact ⟨h5,h6⟩
def CkP (p:Pb) (i e:Int):Prop :=
 (e≠0∧BasP p i e)∨(BO p∧((∃ j:Nat,j<p.ru.length∧i=j∧j≤64∧(∀ q,q<j→yE p (p.ru.getD q default)=0)∧((yE p (p.ru.getD j default)≠0∧e=yE p (p.ru.getD j default))∨(yE p (p.ru.getD j default)=0∧j=64∧e=7))) ∨
  (p.ru.length≤64∧(∀ q,q<p.ru.length→yE p (p.ru.getD q default)=0)∧i=0∧e=0)))
theorem PO.bo {p:Pb} (h:PO p):BO p:=⟨h.tabs,h.rl,h.cl,h.room⟩
theorem CkP.po {p:Pb} {i e:Int} (c:CkP p i e):e=0↔PO p:=by
 rcases c with ⟨h1,h2⟩|⟨h1,⟨j,h2,h3,h4,h5,⟨h6,h7⟩|⟨h6,h7,h8⟩⟩|⟨h2,h3,h4,h5⟩⟩
 ·exact ⟨fun h=>absurd h h1,fun h=>(h.bo.basP h2).2⟩
 ·exact ⟨fun h=>absurd (h7.symm.trans h) h6,fun h=>absurd (h.ru _ (qI h2)) h6⟩
 ·exact ⟨fun h=>by omega,fun h=>by have:=h.lr;omega⟩
 ·refine ⟨fun _=>⟨h1.tabs,h1.rl,h1.cl,h1.room,fun r hr=>?_,h2⟩,fun _=>h5⟩;obtain ⟨q,hq,rfl⟩:=qK.1 hr;exact h3 q hq
structure PartOk (p:Pb) (q:List Int):Prop where
 len:q.length=p.us.length
 rng:∀ x∈q,-1≤x∧x<sumT p.tabs p.tabs.length
 nd:∀ i j,i<j→j<q.length→0≤q.getD i default→q.getD i default≠q.getD j default
def wu (l:List Tab) (t:Int):Int:=if t<0 then 0 else (tb l t.toNat).X
def wo (l:List Tab) (t:Int):Int:=if t<0 then 0 else (tb l t.toNat).Y
def zG (l:List Tab) (a b:Int):Int:=max (wu l a - wu l b) (wu l b - wu l a)+max (wo l a - wo l b) (wo l b - wo l a)
def e16 (x:Nat):List Value:=[.int .u16 x]
def MdG (g:Gu) (i:Nat):Prop:=g.name=num (25*i)∧X9 g.rank∧X9 g.court∧X9 g.diet∧(0≤g.since∧g.since≤9999)∧(0≤g.side∧g.side≤2)
def MdT (l:List (List UInt8)) (k:Nat):Prop:=l.length≤k∧(∀ j,j<l.length→∃ m,m<k∧l.getD j default=num m)∧∀ j,j+1<l.length→jV (l.getD j default) (l.getD (j+1) default)
theorem MdT.next {l:List (List UInt8)} {k:Nat} (h:MdT l k):MdT l (k+1):=⟨by have:=h.1;omega,fun j hj=>by obtain ⟨m,h1,h2⟩:=h.2.1 j hj;exact ⟨m,by omega,h2⟩,h.2.2⟩
theorem MdT.app {l:List (List UInt8)} {k:Nat} (h:MdT l k) (hk:k<4):MdT (l ++ [num k]) (k+1):=by
 refine ⟨by simp;exact h.1,fun j hj=>?_,fun j hj=>?_⟩
 ·simp at hj;rcases zA7 j l.length with q|q
  ·rw [gA1 q];exact h.next.2.1 j q
  ·obtain rfl:j=l.length:=by omega
   rw [gA2 (zA3 _),zG6];exact ⟨k,by omega,rfl⟩
 ·simp at hj;rw [gA1 (show j<l.length by omega)];rcases zA7 (j+1) l.length with q|q
  ·rw [gA1 q];exact h.2.2 j q
  ·rw [gA2 q,show j+1 - l.length=0 by omega];obtain ⟨m,h1,h2⟩:=h.2.1 j (by omega);rw [h2];exact (WF (by omega) (by omega)).2 h1
abbrev MdR (q q4:Nat) (gs:List Zh) (vg:SlV):List Rs:=[Gv gs,.sl vg.val 98 9 eG gs,.blk q [vg.val,.slice none 0 0] 158,.blk q4 [.slice none 0 0,.slice none 0 0] 158]
abbrev MdI (h0:AH) (q q4:Nat) (la:List Nat) (gs:List Zh) (vg:SlV) (h:AH):Prop:=Hs h0 h (MdR q q4 gs vg)∧gs.length≤12∧gs.length≤la.length∧∀ i,i<gs.length→MdG (gs.getD i default).toGu i∧MdT (gs.getD i default).tg 4
abbrev MdJ (h0:AH) (q q4:Nat) (gs:List Zh) (vg:SlV) (k:Nat) (b:Nat) (g:Zh) (h:AH):Prop:=Hs h0 h (.blk b (eG g) 98 :: .sl g.tv.val 9 1 eS g.tg :: MdR q q4 gs vg)∧MdG g.toGu gs.length∧MdT g.tg k
def TI (us:List Gu) (ts:List Ti) (i k:Nat):Prop:=TS ts∧(∀ t∈ts,jV t.a t.b∧(t.k=1∨t.k=2)∧gat us t.a≠none∧gat us t.b≠none)∧(∀ t∈ts,jV t.a (num i)∨(t.a=num i∧jV t.b (num k)))∧ts.length≤13*((i+24) / 25)+(if i % 25=0 then (k+24) / 25 else 0)
def TIo (us:List Gu) (ts:List Ti) (i:Nat):Prop:=TS ts∧(∀ t∈ts,jV t.a t.b∧(t.k=1∨t.k=2)∧gat us t.a≠none∧gat us t.b≠none)∧(∀ t∈ts,jV t.a (num i))∧ts.length≤13*((i+24) / 25)
theorem TI.out {us:List Gu} {ts:List Ti} {i k:Nat} (h:TI us ts i k) (hi:i<312) (hk:k≤312):TIo us ts (i+1):=by
 refine ⟨h.1,h.2.1,fun t ht=>?_,?_⟩
 ·have:=(WF (i:=i) (j:=i+1) (by omega) (by omega)).2 (by omega);rcases h.2.2.1 t ht with q|q
  ·exact Q4 q this
  ·rw [q.1];exact this
 ·have:=h.2.2.2;split at this<;>omega
theorem TI.next {us:List Gu} {ts:List Ti} {i k:Nat} (h:TI us ts i k) (hk:k<312):TI us ts i (k+1):=by
 refine ⟨h.1,h.2.1,fun t ht=>?_,?_⟩
 ·rcases h.2.2.1 t ht with q|q
  ·exact .inl q
  ·exact .inr ⟨q.1,Q4 q.2 ((WF (by omega) (by omega)).2 (by omega))⟩
 ·have:=h.2.2.2;split at this<;>split<;>omega
theorem TI.app {us:List Gu} {ts:List Ti} {i k:Nat} {z:Int} (h:TI us ts i k) (hik:i<k) (hk:k<312) (hz:z=1∨z=2) (hi2:i % 25=0) (hk2:k % 25=0) (g1:gat us (num i)≠none) (g2:gat us (num k)≠none):TI us (ts ++ [⟨num i,num k,z⟩]) i (k+1):=by
 refine ⟨h.1.app fun j hj=>?_,fun t ht=>?_,fun t ht=>?_,?_⟩
 ·exact h.2.2.1 _ (qI hj)
 ·rcases zB8.1 ht with q|q
  ·exact h.2.1 t q
  ·obtain rfl:=zB5.1 q;exact ⟨(WF (by omega) (by omega)).2 hik,hz,g1,g2⟩
 ·rcases zB8.1 ht with q|q
  ·exact (h.next hk).2.2.1 t q
  ·obtain rfl:=zB5.1 q;exact .inr ⟨rfl,(WF (by omega) (by omega)).2 (by omega)⟩
 ·have:=h.2.2.2;rw [if_pos hi2] at this ⊢;simp;omega
abbrev MdQ (q q4:Nat) (gs:List Zh) (vg:SlV) (ts:List Ti) (vt:SlV):List Rs:=[.sl vg.val 98 9 eG gs,.blk q4 [.slice none 0 0,.slice none 0 0] 158,Gv gs,.blk q [vg.val,vt.val] 158,.sl vt.val 137 3 jY ts]
variable [Flag]
end Go.Proofs.Xx
namespace Go.Proofs.Xx
open Go Go.Proofs
def VZ (k:Nat):List UInt8:=[116,UInt8.ofNat (97+k % 26)]
theorem PV {i j:Nat} (hi:i<26) (hj:j<26) (h:VZ i=VZ j):i=j:=by
 unfold VZ at h;have h1:=congrArg UInt8.toNat (List.cons.inj (List.cons.inj h).2).1;rw [UInt8.toNat_ofNat',UInt8.toNat_ofNat',Nat.mod_eq_of_lt (by omega),Nat.mod_eq_of_lt (by omega)] at h1;omega
def tsz (s a b:Int):Int:=if s=2 then 2*a+b else if s=3 then a+2*b else a
structure qf2 (i x:Nat) (t:Tab):Prop where
 name:t.name=VZ i
 sh:1≤t.shape∧t.shape≤4
 X:t.X=x
 Y:t.Y=255 - x
 A:1≤t.A∧t.A≤6
 B:0≤t.B∧t.B≤6
 sz:zf t=tsz t.shape t.A t.B∧1≤zf t
def qf3 (s A B:Int):Prop:=(1≤A∧A≤6)∧(0≤B∧B≤6)∧1≤jh s A B∧jh s A B=tsz s A B
abbrev tnM (i m:Nat) (A B:Int) (os:SlV) (l:List Int):Tab:=⟨VZ i,1+(m:Int) % 4,A,B,os,l,m,255 - m⟩
theorem qfk {k:Kd} {p:Pb} {r:Ru} (h1:0≤r.w∧r.w≤1000) (h2:k.plain r) (h3:¬ k.unk p.us r) (h4:¬ (k.a=100∧¬ Ql r.a)) (h5:¬ (k.b=true∧r.a=r.b)) (h6:¬ k.ut p.tabs r) (h7:¬ (k.n=true∧(r.n<k.lo∨k.most p.tabs r<r.n))):k.err p r=0:=by
 unfold Kd.err;rw [if_neg (by omega),if_neg (fun q=>q h2),if_neg h3,if_neg h4,if_neg h5,if_neg h6,if_neg h7]
theorem WP {l m:List Tab} {n:List UInt8} (h:Jm l n):Jm (l ++ m) n∧X4 (l ++ m) n=X4 l n∧tb (l ++ m) (X4 l n)=tb l (X4 l n):=by
 obtain ⟨j,hj,hn⟩:=h;have hlt:X4 l n<l.length:=by
  unfold X4;refine List.findIdx_lt_length.2 ⟨tb l j,qI hj,by simpa using hn⟩
 refine ⟨⟨j,by simp;omega,by unfold tb;rw [gA1 hj];exact hn⟩,?_,by unfold tb;rw [gA1 hlt]⟩;unfold X4 at hlt ⊢;rw [List.findIdx_append,if_pos hlt]
theorem qcL {p p':Pb} {r:Ru} {m:List Tab} (hu:p'.us=p.us) (ht:p'.tabs=p.tabs ++ m) (h:yE p r=0):yE p' r=0:=by
 unfold yE at h ⊢;split at h
 rotate_left
 ·cases h
 rename_i hk
 rw [if_pos hk];have hks:(Qu r.k).seat=true→(Qu r.k).t=116:=by
  have:∀ i,i<18→(kdL.getD i default).seat=true→(kdL.getD i default).t=116:=by decide
  exact this _ (by omega)
 generalize Qu r.k=k at h hks ⊢
 unfold Kd.err at h;split at h;· cases h
 split at h;· cases h
 split at h;· cases h
 split at h;· cases h
 split at h;· cases h
 split at h;· cases h
 split at h;· cases h
 rename_i h1 h2 h3 h4 h5 h6 h7
 refine qfk (by omega) (zF3.1 h2) (by rw [hu];exact h3) h4 h5 ?_ ?_
 ·rintro (⟨q1,q2⟩|⟨q1,q2,q3⟩)
  ·exact h6 (.inl ⟨q1,fun q=>q2 (by rw [ht];exact (WP q).1)⟩)
  ·exact h6 (.inr ⟨q1,q2,fun q=>q3 (by rw [ht];exact (WP q).1)⟩)
 ·rintro ⟨q1,q2⟩;refine h7 ⟨q1,q2.imp id fun q=>?_⟩;unfold Kd.most at q ⊢;split at q
  ·rename_i hs
   rw [if_pos hs];by_cases hT:Jm p.tabs r.t
   ·obtain ⟨-,e1,e2⟩:=WP (m:=m) hT;rw [ht,e1,e2] at q;exact q
   ·exact absurd (.inl ⟨hks hs,hT⟩) h6
  ·rename_i hs
   rw [if_neg hs];exact q
def e32 (x:Nat):List Value:=[.int .u32 x]
def OpOk (l:List Tab) (h:AH) (fp:Fp):Prop:=∀ t∈l,(Rs.rd t.ov 1 eI t.opn).ok h fp
abbrev opR (l:List Tab):Rs:=.any (OpOk l)
theorem OpOk.rd {h:AH} {fp:Fp} {gs:List Tab} (k:OpOk gs h fp) {i:Nat} (hi:i<gs.length):qY h (tb gs i).ov 1 eI (tb gs i).opn:=by
 have q:=k _ (List.getElem_mem hi);show qY h (gs.getD i default).ov 1 eI (gs.getD i default).opn
 rw [show gs.getD i default=gs[i] by rw [zA2,zA4 hi];rfl];rcases q with ⟨q1,q2⟩|⟨b,o,cap,cc,e,s,r,q1,q2,q3,q4⟩
 ·exact .inl ⟨q1,by rw [q2];rfl,by rw [q2];rfl⟩
 ·exact .inr ⟨b,o,cap,cc,e,s,r,q1,q2,q4⟩
structure NuV where
 vt:SlV
 vg:SlV
 vi:SlV
 vr:SlV
abbrev NuV.cs (v:NuV):List Value:=[v.vt.val,v.vg.val,v.vi.val,v.vr.val]
structure NuR (h:AH) (v:NuV) (a b c d:List Nat):Prop where
 ra:qY h v.vt.val 1 eU a
 rb:qY h v.vg.val 1 e16 b
 cap:Qw v.vg.val
 rc:qY h v.vi.val 1 eU c
 rd:qY h v.vr.val 1 e32 d
 la:a.length≤9223372036854775807
 lb:b.length≤9223372036854775807
 lc:c.length≤9223372036854775807
 ld:d.length≤9223372036854775807
 ha:∀ i,i<a.length→a.getD i default<256
 hb:∀ i,i<b.length→b.getD i default<65536
 hc:∀ i,i<c.length→c.getD i default<256
 hd:∀ i,i<d.length→d.getD i default<4294967296
abbrev PbR (v:PbV) (p:Pb):List Rs:=[.sl v.vt.val 95 7 eT p.tabs,.sl v.vg.val 98 9 eG v.gs,.sl v.vi.val 137 3 jY p.ts,.sl v.vc.val 3 1 eI p.cl,.sl v.vr.val 125 6 JW p.ru,Gv v.gs,opR p.tabs]
def TabsM (l:List Tab):Prop:=∀ j,j<l.length→(∃ m,m<256∧qf2 j m (tb l j))∧chk (tb l j)=0∧(tb l j).opn.length≤24
theorem TabsM.valid {l:List Tab} (h:TabsM l) (hl:l.length≤16):ValidL l:=⟨hl,fun j hj=>⟨(h j hj).2.1,fun ⟨i,hi,he⟩=>by
 obtain ⟨⟨m,-,h1⟩,-⟩:=h i (by omega);obtain ⟨⟨m',-,h2⟩,-⟩:=h j hj;rw [h1.name,h2.name] at he;have:=PV (by omega) (by omega) he;omega⟩⟩
theorem qaZ {l:List Tab} {t:Tab} (n:Nat):n≤l.length→sumT (l ++ [t]) n=sumT l n:=by
 induction n with
 | zero=>intro _;rfl
 | succ n ih =>
  intro h;have e:tb (l ++ [t]) n=tb l n:=by unfold tb;rw [gA1 (show n<l.length by omega)]
  simp only [sumT,ih (by omega),e]
section
variable {P:Program} {X:Extern} {sz:Nat} {L L':Ks} {h h0:AH} {rs:List Rs} {ops:Array Oper} {os:List Oper} {o:Oper} {R:Ks→AH→Prop}
end
def xQ (k:Nat):List UInt8:=[114,UInt8.ofNat (97+k)]
theorem qad {k:Nat} (hk:k<26):Ql (xQ k):=by
 refine ⟨by simp [xQ],by simp [xQ],fun i hi=>?_⟩;have hi:i<2:=by simpa [xQ] using hi
 rcases (show i=0∨i=1 by omega) with rfl|rfl
 ·show QP 114
  unfold QP;decide
 ·show QP (UInt8.ofNat (97+k))
  unfold QP;rw [UInt8.toNat_ofNat',Nat.mod_eq_of_lt (by omega)];omega
theorem qbh {i j:Nat} (hi:i<26) (hj:j<26) (h:xQ i=xQ j):i=j:=by
 unfold xQ at h;have h1:=congrArg UInt8.toNat (List.cons.inj (List.cons.inj h).2).1;rw [UInt8.toNat_ofNat',UInt8.toNat_ofNat',Nat.mod_eq_of_lt (by omega),Nat.mod_eq_of_lt (by omega)] at h1;omega
theorem qac {i j:Nat}:xQ i≠VZ j:=fun h=>by
 have h1:=congrArg UInt8.toNat (List.cons.inj h).1;revert h1;decide
def rowT (k x:Nat):Tab:=⟨xQ k,4,1+(x:Int) % 3,0,⟨none,0,0⟩,[],(x:Int) / 3 % 50,(x:Int) / 150 % 50⟩
theorem qbg {k x:Nat} (hk:k<26):chk (rowT k x)=0:=by
 have hs:zf (rowT k x)=1+(x:Int) % 3:=by
  show Ji (1+(x:Int) % 3) 0=_
  unfold Ji;rw [if_pos (by omega)]
 unfold chk;rw [if_neg (fun q=>q (qad hk)),if_neg (by rw [hs];omega),if_neg (fun q=>q fun i hi=>absurd hi (zB7 _)),if_neg];exact fun q=>q ⟨by show 0≤(x:Int) / 3 % 50;omega,by show (x:Int) / 3 % 50≤1000;omega,by show 0≤(x:Int) / 150 % 50;omega,by show (x:Int) / 150 % 50≤1000;omega⟩
def NmI (l:List Tab) (i:Nat):Prop:=∀ j,j<l.length→((∃ k,(tb l j).name=VZ k)∨∃ k,k<i∧(tb l j).name=xQ k)∧(tb l j).opn.length≤24
theorem PO.row {p:Pb} {i x:Nat} (h:PO p) (hn:NmI p.tabs i) (hi:i<6) (hl:p.tabs.length≤15):PO { p with tabs:=p.tabs ++ [rowT i x] }∧NmI (p.tabs ++ [rowT i x]) (i+1):=by
 have e1:∀ j,j<p.tabs.length→tb (p.tabs ++ [rowT i x]) j=tb p.tabs j:=fun j hj=>by unfold tb;rw [gA1 hj]
 have e2:tb (p.tabs ++ [rowT i x]) p.tabs.length=rowT i x:=by unfold tb;rw [gA2 (zA3 _),zG6];rfl
 have hlen:(p.tabs ++ [rowT i x]).length=p.tabs.length+1:=by simp
 have hsz:=jT (rowT i x);refine ⟨⟨⟨by rw [hlen];omega,fun j hj=>?_⟩,h.rl,h.cl,?_,fun r hr=>qcL (p:=p) rfl rfl (h.ru r hr),h.lr⟩,fun j hj=>?_⟩
 ·rcases zA7 j p.tabs.length with q|q
  ·have g:=h.tabs.2 j q;refine ⟨by rw [e1 j q];exact g.1,fun ⟨m,hm,he⟩=>g.2 ⟨m,hm,by rw [e1 m (by omega),e1 j q] at he;exact he⟩⟩
  ·have hj:j=p.tabs.length:=by rw [hlen] at hj;omega
   subst hj;refine ⟨by rw [e2];exact qbg (by omega),fun ⟨m,hm,he⟩=>?_⟩;rw [e1 m hm,e2] at he;rcases (hn m hm).1 with ⟨k,hk⟩|⟨k,hk,hk2⟩
   ·exact qac (he.symm.trans hk)
   ·have:=qbh (by omega) (by omega) (hk2.symm.trans he);omega
 ·have:=h.room;show (p.us.length:Int)≤sumT (p.tabs ++ [rowT i x]) (p.tabs ++ [rowT i x]).length
  rw [hlen];show _≤sumT (p.tabs ++ [rowT i x]) p.tabs.length+zf (tb (p.tabs ++ [rowT i x]) p.tabs.length)
  rw [qaZ _ (zA3 _),e2];omega
 ·rcases zA7 j p.tabs.length with q|q
  ·rw [e1 j q];exact ⟨(hn j q).1.imp id fun ⟨k,h1,h2⟩=>⟨k,by omega,h2⟩,(hn j q).2⟩
  ·have hj:j=p.tabs.length:=by rw [hlen] at hj;omega
   rw [hj,e2];exact ⟨.inr ⟨i,by omega,rfl⟩,zB0 _⟩
theorem NuR.ext {h h':AH} {v:NuV} {a b c d:List Nat} (H:NuR h v a b c d) (w:WfH h) (x:Ext h h'):NuR h' v a b c d:=⟨H.ra.ext w x,H.rb.ext w x,H.cap,H.rc.ext w x,H.rd.ext w x,H.la,H.lb,H.lc,H.ld,H.ha,H.hb,H.hc,H.hd⟩
structure SeI (N:Nat) (q:List Int) (tk:List Bool):Prop where
 tl:tk.length=N
 rng:∀ x∈q,-1≤x∧x<N
 nd:∀ i j,i<j→j<q.length→0≤q.getD i default→q.getD i default≠q.getD j default
 fr:∀ k,k<N→tk.getD k default=false→(k:Int) ∉ q
theorem SeI.none {N:Nat} {q:List Int} {tk:List Bool} (h:SeI N q tk):SeI N (q ++ [-1]) tk:=by
 refine ⟨h.tl,fun x hx=>?_,fun i j hij hj h0=>?_,fun k hk ht hx=>?_⟩
 ·rcases zB8.1 hx with q|q
  ·exact h.rng x q
  ·obtain rfl:=zB5.1 q;omega
 ·simp at hj;rw [gA1 (show i<q.length by omega)] at h0 ⊢;rcases zA7 j q.length with r|r
  ·rw [gA1 r];exact h.nd i j hij r h0
  ·rw [gA2 r,show j - q.length=0 by omega];show q.getD i default≠-1
   omega
 ·rcases zB8.1 hx with q|q
  ·exact h.fr k hk ht q
  ·have:=zB5.1 q;omega
theorem SeI.some {N:Nat} {q:List Int} {tk:List Bool} (h:SeI N q tk) {s:Nat} (hs:s<N) (hf:tk.getD s default=false):SeI N (q ++ [(s:Int)]) (tk.set s true):=by
 have hn:=h.fr s hs hf;refine ⟨by simp [h.tl],fun x hx=>?_,fun i j hij hj h0=>?_,fun k hk ht hx=>?_⟩
 ·rcases zB8.1 hx with q|q
  ·exact h.rng x q
  ·obtain rfl:=zB5.1 q;omega
 ·simp at hj;rw [gA1 (show i<q.length by omega)] at h0 ⊢;rcases zA7 j q.length with r|r
  ·rw [gA1 r];exact h.nd i j hij r h0
  ·rw [gA2 r,show j - q.length=0 by omega];show q.getD i default≠(s:Int)
   intro e;exact hn (e ▸ qI (show i<q.length by omega))
 ·rw [zA2,List.getElem?_set] at ht;by_cases e:s=k
  ·rw [if_pos e,if_pos (by rw [h.tl];exact hs)] at ht;cases ht
  ·rw [if_neg e,← zA2] at ht;rcases zB8.1 hx with q|q
   ·exact h.fr k hk ht q
   ·have:=zB5.1 q;omega
theorem qcx {h0:AH} (w:WfH h0) (g:Zh) (nm:List UInt8) (b:Nat) (hb:h0.get b=some (.cells [str nm] 9 none false)):Fn Tryz.prog Xh 221 [gV g,.pointer (some ⟨b,0,none⟩)] h0 (fun v h'=>qL v (g.name=nm)∧Hs h0 h' []):=by
 have S:=Hs.start w;refine qJ (by first|rfl) Tryz.func221 rfl rfl ?_;all_goals (repeat' (first|refine qg ?_|(refine qc 0 ?_;(refine bx S ?_;clear S;intro b h S);refine mv ?_;refine qf ?_)|(refine qc 1 ?_;refine vl ?_;refine lB S rfl rfl ?_;refine lH S ?_;(refine tS ?_ ?_<;>intro hc)<;>(refine mv ?_;refine qf ?_))))
 all_goals (refine qj ⟨_,rfl,?_⟩)
 all_goals (refine ⟨?_,S.drop⟩;unfold qL)
 ·exact .inl ⟨rfl,hc⟩
 ·exact .inr ⟨rfl,hc⟩
theorem qcX {h0:AH} (w:WfH h0) (v:Value) (l:List Zh) (g:Nat) (cap:List Value) (p:Nat→Prop) (hr:qY h0 v 9 eG l) (hl:l.length≤9223372036854775807)
 (hf:∀ i h,i<l.length→Hs h0 h []→Fn Tryz.prog Xh g (gV (l.getD i default) :: cap) h (fun v h'=>qL v (p i)∧Hs h h' [])) :
 Fn Tryz.prog Xh 220 [v,.func (.func g) #[] cap.toArray] h0 (fun r h'=>Gg r p l.length∧Hs h0 h' []):=by
 have S:=Hs.start w;refine qJ (by first|rfl) Tryz.func220 rfl rfl ?_;all_goals (repeat' (first|refine qg ?_|refine qo ?_|(refine qc 0 ?_;refine mv ?_;refine qf ?_)|(refine qc 1 ?_;refine mv ?_;refine zC S ?_;refine mv ?_;refine qf ?_)))
 refine qH (σ:=Nat) (fun i h'=>Hs h0 h' []∧i≤l.length∧∀ j,j<i→¬ p j) (fun i=>l.length - i) (fun i=>[(0,v),(1,.func (.func g) #[] cap.toArray),(7,.int .i64 l.length),(8,.int .i64 i)]) 0 qy ?_ ?_
 ·exact ⟨S,zB0 _,fun j hj=>absurd hj (zB7 _)⟩
 clear S;rintro i h ⟨S,h1,h2⟩;all_goals (repeat' (first|refine qg ?_|refine qh rfl ?_|refine qi ?_|refine qB ?_|refine qo ?_|(refine qc 2 ?_;(first|(refine cS ?_ ?_<;>intro hc))<;>(refine qf ?_))|(refine qc 3 ?_;refine mv ?_;refine mv ?_;refine qf ?_)|(refine qc 4 ?_;(iterate 3 refine mv ?_);refine zW S ?_;refine zV S ?_)|(refine qc 7 ?_;refine mv ?_;refine qf ?_)))
 ·(refine jQ rfl rfl rfl rfl ((hf i _ (by omega) S).mono ?_);rintro _ h ⟨⟨rfl,hq⟩|⟨rfl,hq⟩,x⟩)<;>(replace S:=S.join0 x;clear x;refine qf ?_)
  all_goals (repeat' (first|refine qg ?_|refine qh rfl ?_|refine qi ?_|(refine qc 5 ?_;refine mv ?_;refine mv ?_;refine qf ?_)|(refine qc 6 ?_;refine ad ?_;refine mv ?_;refine qf ?_)))
  ·refine qj ⟨_,rfl,?_⟩;exact ⟨.inl ⟨i,by omega,rfl,hq,h2⟩,S⟩
  ·refine ⟨i+1,?_,?_,qy⟩
   ·show l.length - (i+1)<l.length - i;omega
   ·exact ⟨S,by omega,jy h2 hq⟩
 ·refine qj ⟨_,rfl,?_⟩;exact ⟨.inr ⟨rfl,fun j hj=>h2 j (by omega)⟩,S⟩
theorem qcY {gs:List Zh} {us:List Gu} (hu:gs.map (·.toGu)=us) (nm:List UInt8) {v:Value} (h:Gg v (fun i=>(gs.getD i default).name=nm) gs.length):v = .int .i64 (gI us nm):=by
 have e:∀ i,i<gs.length→(us.getD i default).name=(gs.getD i default).name:=fun i hi=>by
  rw [← hu,zq hi]
 have hl:gs.length=us.length:=by rw [← hu];simp
 unfold gI;rcases h with ⟨i,hi,rfl,h1,h2⟩|⟨rfl,h2⟩
 ·cases hq:gat us nm with
  | none=>exact absurd ((e i hi).trans h1) (JP.1 hq _ (qI (by omega)))
  | some j =>
   obtain ⟨q1,q2,q3⟩:=Yn hq;rcases zE7 i j with q|q|q
   ·exact absurd ((e i hi).trans h1) (q3 i q)
   ·rw [q]
   ·exact absurd ((e j (by omega)).symm.trans q2) (h2 j q)
 ·cases hq:gat us nm with
  | none=>rfl
  | some j =>
   obtain ⟨q1,q2,q3⟩:=Yn hq;exact absurd ((e j (by omega)).symm.trans q2) (h2 j (by omega))
theorem YG {h0:AH} (w:WfH h0) (v:PbV) (p:Pb) (H:PbOk h0 v p) (nm:List UInt8):Fn Tryz.prog Xh 173 [v.val,str nm] h0 (fun r h'=>r = .int .i64 (gI p.us nm)∧Hs h0 h' []):=by
 have S:=Hs.start w;have hr:=H.rol.rg;have hl:=H.rol.len;have hlg:v.gs.length≤9223372036854775807:=by rw [hl];exact H.rol.lg
 unfold PbV.val;refine qJ (by first|rfl) Tryz.func173 rfl rfl ?_;all_goals (repeat' (first|refine qg ?_|(refine qc 0 ?_;(refine bx S ?_;clear S;intro b h S);(refine bx S ?_;clear S;intro b h S);refine mv ?_;refine qf ?_)|(refine qc 1 ?_;refine vl ?_;refine lB S rfl rfl ?_;refine vl ?_)))
 have gb:=S.gB (b:=b);have hf:∀ i h',i<v.gs.length→Hs h h' []→Fn Tryz.prog Xh 221 (gV (v.gs.getD i default) :: [.pointer (some ⟨b,0,none⟩)]) h' (fun v' h''=>qL v' ((v.gs.getD i default).name=nm)∧Hs h' h'' []):=fun i h' hi x=>qcx x.wf (v.gs.getD i default) nm b (x.ext.get S.wf gb);(refine qx rfl rfl rfl rfl rfl ((qcX S.wf v.vg.val v.gs 221 [.pointer (some ⟨b,0,none⟩)] (fun i=>(v.gs.getD i default).name=nm) (hr.ext w S.ext) hlg hf).mono ?_);rintro _ h ⟨hq,x⟩)<;>(replace S:=S.join0 x;clear x;refine mv ?_;refine qf ?_)
 obtain rfl:=qcY H.rol.us nm hq;all_goals (repeat' (fail))
 refine qj ⟨_,rfl,?_⟩;exact ⟨rfl,S.drop⟩
theorem qbj {h:AH} (s:List UInt8):Fn Tryz.prog Xh 174 [str s] h (fun v h'=>qL v (Ql s)∧h'=h):=by
 refine qJ (by first|rfl) Tryz.func174 rfl rfl ?_;all_goals (repeat' (first|refine qg ?_|refine qh rfl ?_|refine qi ?_|(refine qc 0 ?_;refine mv ?_;refine qf ?_)|(refine qc 1 ?_;refine mv ?_;refine tl ?_;(first|(refine cS ?_ ?_<;>intro hc))<;>(refine mv ?_;(first|refine off ?_|refine mv ?_);(first|refine off ?_|refine tl ?_);(first|refine off ?_|(first|(refine cS ?_ ?_<;>intro hc)))<;>(refine vl ?_;refine qf ?_)))|(refine qc 2 ?_;refine mv ?_;refine qf ?_)))
 ·refine qj ⟨_,rfl,?_⟩;exact ⟨.inr ⟨rfl,fun q=>by have:=q.1;omega⟩,rfl⟩
 ·refine qj ⟨_,rfl,?_⟩;exact ⟨.inr ⟨rfl,fun q=>by have:=q.2.1;omega⟩,rfl⟩
 all_goals (repeat' (first|refine qo ?_|(refine qc 3 ?_;refine mv ?_;refine tl ?_;refine mv ?_;refine qf ?_)))
 refine qH (σ:=Nat) (fun i h'=>h'=h∧i≤s.length∧∀ j,j<i→QP (s.getD j default)) (fun i=>s.length - i) (fun i=>[(0,str s),(13,.int .i64 s.length),(14,.int .i64 i)]) 0 qy ?_ ?_
 ·exact ⟨rfl,zB0 _,fun j hj=>absurd hj (zB7 _)⟩
 rintro i h ⟨rfl,h1,h2⟩;all_goals (repeat' (first|refine qg ?_|refine qh rfl ?_|refine qi ?_|refine qB ?_|refine qo ?_|(refine qc 4 ?_;(first|(refine cS ?_ ?_<;>intro hc))<;>(refine qf ?_))|(refine qc 5 ?_;refine mv ?_;refine mv ?_;refine qf ?_)|(refine qc 6 ?_;refine mv ?_;refine mv ?_;refine ti ?_;(first|(refine cS ?_ ?_<;>intro hc))<;>(refine mv ?_;(first|refine off ?_|refine mv ?_);(first|refine off ?_|refine mv ?_);(first|refine off ?_|(refine ti ?_));(first|refine off ?_|(first|(refine cS ?_ ?_<;>intro hc)))<;>(refine vl ?_;refine qf ?_)))|(refine qc 7 ?_;refine mv ?_;refine qf ?_)|(refine qc 8 ?_;refine ad ?_;refine mv ?_;refine qf ?_)|(refine qc 9 ?_;refine mv ?_;refine qf ?_)))
 all_goals (try simp only [zA0] at *)
 ·refine qj ⟨_,rfl,?_⟩;exact ⟨.inr ⟨rfl,fun q=>by have:=q.2.2 i (by omega);unfold QP at this;simp only [XY] at this;omega⟩,rfl⟩
 ·refine qj ⟨_,rfl,?_⟩;exact ⟨.inr ⟨rfl,fun q=>by have:=q.2.2 i (by omega);unfold QP at this;simp only [XY] at this;omega⟩,rfl⟩
 ·refine ⟨i+1,?_,?_,qy⟩
  ·show s.length - (i+1)<s.length - i;omega
  ·refine ⟨rfl,by omega,jy h2 ?_⟩;unfold QP;simp only [XY];omega
 ·refine qj ⟨_,rfl,?_⟩;exact ⟨.inl ⟨rfl,by omega,by omega,fun j hj=>h2 j (by omega)⟩,rfl⟩
def eKd (wd:List UInt8) (k:Kd) (f:Value):List Value:=[str wd,.int .u8 k.a,.bool k.b,.int .u8 k.t,.bool k.n,.int .i64 k.lo,.bool k.seat,f]
abbrev kdV (wd:List UInt8) (k:Kd) (f:Value):Value:=.agg (eKd wd k f).toArray
theorem qbs {h0:AH} (w:WfH h0) (wd:List UInt8) (k:Kd) (f:Value) (r:Ru):Fn Tryz.prog Xh 172 [kdV wd k f,ruV r] h0 (fun v h'=>qL v (k.plain r)∧Hs h0 h' []):=by
 have S:=Hs.start w;obtain ⟨ka,kb,kt,kn,lo,st⟩:=k;unfold kdV eKd ruV JW;cases kb<;>cases kn
 all_goals (refine qJ (by first|rfl) Tryz.func172 rfl rfl ?_)
 all_goals (all_goals (repeat' (first|refine qg ?_|(refine qc 0 ?_;(refine bx S ?_;clear S;intro b h S);(refine bx S ?_;clear S;intro b h S);refine mv ?_;refine qf ?_)|(refine qc 1 ?_;refine vl ?_;refine lB S rfl rfl ?_;(first|(refine cS ?_ ?_<;>intro hc))<;>(refine mv ?_;(first|refine off ?_|(refine vl ?_));(first|refine off ?_|(refine lB S rfl rfl ?_));(first|refine off ?_|(refine tS ?_ ?_<;>intro hc))<;>(refine vl ?_;refine mv ?_;(first|refine off ?_|(refine vl ?_));(first|refine off ?_|(refine lB S rfl rfl ?_));(first|refine off ?_|refine mv ?_);(first|refine off ?_|(refine vl ?_));(first|refine off ?_|(refine lB S rfl rfl ?_));(first|refine off ?_|(refine tS ?_ ?_<;>intro hc))<;>((first|refine off ?_|refine vl ?_);refine vl ?_;refine mv ?_;(first|refine off ?_|(refine vl ?_));(first|refine off ?_|(refine lB S rfl rfl ?_));(first|refine off ?_|(first|(refine cS ?_ ?_<;>intro hc)))<;>((first|refine off ?_|refine mv ?_);(first|refine off ?_|(refine vl ?_));(first|refine off ?_|(refine lB S rfl rfl ?_));(first|refine off ?_|(refine tS ?_ ?_<;>intro hc))<;>((first|refine off ?_|refine vl ?_);refine vl ?_;refine mv ?_;(first|refine off ?_|(refine vl ?_));(first|refine off ?_|(refine lB S rfl rfl ?_));(first|refine off ?_|refine mv ?_);(first|refine off ?_|(refine vl ?_));(first|refine off ?_|(refine lB S rfl rfl ?_));(first|refine off ?_|(first|(refine cS ?_ ?_<;>intro hc)))<;>((first|refine off ?_|refine vl ?_);refine vl ?_;refine mv ?_;refine qf ?_))))))))))
 all_goals (refine qj ⟨_,rfl,?_⟩)
 all_goals refine ⟨?_,S.drop⟩
 all_goals unfold qL
 all_goals first|exact .inl ⟨rfl,by simp_all [Kd.plain]⟩|exact .inr ⟨rfl,by simp_all [Kd.plain]⟩
theorem countOne {h0:AH} (w:WfH h0) {v:Value} {t:Tab} (hr:qY h0 v 7 eT [t]) (hc:Qw v) (ht:TabR h0 t) (hk:chk t=0):Fn Tryz.prog Xh 153 [v] h0 (fun r h'=>r = .int .i64 (zf t)∧Hs h0 h' []):=by
 refine (W9 w v [t] ⟨hr,fun i hi=>?_,by simp,hc⟩).mono ?_
 ·have:i=0:=by simp at hi;omega
  subst this;exact ht
 ·rintro r h ⟨rfl,x⟩;refine ⟨?_,x⟩;have:ValidL [t]:=⟨by simp,fun j hj=>by
   have:j=0:=by simp at hj;omega
   subst this;exact ⟨hk,fun ⟨i,hi,_⟩=>absurd hi (zB7 _)⟩⟩
  unfold JX;rw [if_pos this];simp [sumT,tb]
theorem yR {us:List Gu} {n:List UInt8}:¬ gI us n<0↔gat us n≠none:=by rw [QZ]
theorem Kd.err41 {k:Kd} {p:Pb} {r:Ru} (h:r.w<0∨1000<r.w):k.err p r=41:=by unfold Kd.err;rw [if_pos h]
theorem Kd.err43 {k:Kd} {p:Pb} {r:Ru} (h:¬ (r.w<0∨1000<r.w)) (h2:¬ k.plain r):k.err p r=43:=by unfold Kd.err;rw [if_neg h,if_pos h2]
theorem Kd.err6 {k:Kd} {p:Pb} {r:Ru} (h:¬ (r.w<0∨1000<r.w)) (h2:k.plain r) (h3:k.unk p.us r):k.err p r=6:=by unfold Kd.err;rw [if_neg h,if_neg (fun q=>q h2),if_pos h3]
theorem Kd.err4 {k:Kd} {p:Pb} {r:Ru} (h:¬ (r.w<0∨1000<r.w)) (h2:k.plain r) (h3:¬ k.unk p.us r) (h4:k.a=100∧¬ Ql r.a):k.err p r=4:=by unfold Kd.err;rw [if_neg h,if_neg (fun q=>q h2),if_neg h3,if_pos h4]
structure Kd.one (k:Kd) (p:Pb) (r:Ru):Prop where
 w:¬ (r.w<0∨1000<r.w)
 pl:k.plain r
 un:¬ k.unk p.us r
 nm:¬ (k.a=100∧¬ Ql r.a)
theorem Kd.err5 {k:Kd} {p:Pb} {r:Ru} (h:k.one p r) (h5:k.b=true∧r.a=r.b):k.err p r=5:=by unfold Kd.err;rw [if_neg h.w,if_neg (fun q=>q h.pl),if_neg h.un,if_neg h.nm,if_pos h5]
open Classical in
theorem Kd.errR {k:Kd} {p:Pb} {r:Ru} (h:k.one p r) (h5:¬ (k.b=true∧r.a=r.b)):k.err p r=if k.ut p.tabs r then 6 else if k.n=true∧(r.n<k.lo∨k.most p.tabs r<r.n) then 42 else 0:=by
 unfold Kd.err;rw [if_neg h.w,if_neg (fun q=>q h.pl),if_neg h.un,if_neg h.nm,if_neg h5]
theorem qau {h0:AH} (w:WfH h0) (wd:List UInt8) (k:Kd) (f:Value) (v:PbV) (p:Pb) (H:PbOk h0 v p) (hv:ValidL p.tabs) (r:Ru) (hw:wd≠[]) (hs:k.seat=true→k.t=116) :
 Fn Tryz.prog Xh 128 [kdV wd k f,v.val,ruV r] h0 (fun u h'=>u = .int .i64 (k.err p r)∧Hs h0 h' []):=by
 have S:=Hs.start w;have hr:=H.tab.rd;have hl:=H.tab.len;obtain ⟨ka,kb,kt,kn,lo,st⟩:=k;unfold kdV eKd ruV JW PbV.val;refine qJ (by first|rfl) Tryz.func128 rfl rfl ?_;all_goals (repeat' (first|refine qg ?_|(refine qc 0 ?_;(refine bx S ?_;clear S;intro b h S);(refine bx S ?_;clear S;intro b h S);(refine bx S ?_;clear S;intro b h S);refine mv ?_;refine qf ?_)))
 rename_i b3 h3 b4 h4
 (repeat (refine qg ?_));first|refine kJ (σ:=Unit) (fun _ h'=>Hs h0 h' [.blk b (JW r) 125,.blk b4 v.cs 28,.blk b3 (eKd wd (Kd.mk ka kb kt kn lo st) f) 170]∧(Kd.mk ka kb kt kn lo st).one p r∧¬ (kb=true∧r.a=r.b)) (fun _=>[(3,.pointer (some ⟨b3,0,none⟩)),(4,.pointer (some ⟨b4,0,none⟩)),(5,.pointer (some ⟨b,0,none⟩)),(6,.int .i64 0)]) ?_ ?_
 ·all_goals (repeat' (first|refine qg ?_|refine qh rfl ?_|refine qo ?_|(refine qc 1 ?_;refine vl ?_;refine lB S rfl rfl ?_;(refine tS ?_ ?_<;>intro hc)<;>(refine mv ?_;refine qf ?_))|(refine qc 2 ?_;refine mv ?_;refine qf ?_)|(refine qc 3 ?_;refine vl ?_;refine lB S rfl rfl ?_;(first|(refine cS ?_ ?_<;>intro hc))<;>(refine mv ?_;(first|refine off ?_|(refine vl ?_));(first|refine off ?_|(refine lB S rfl rfl ?_));(first|refine off ?_|(first|(refine cS ?_ ?_<;>intro hc)))<;>(refine vl ?_;refine mv ?_;refine qf ?_)))|(refine qc 4 ?_;refine mv ?_;refine qf ?_)|(refine qc 5 ?_;refine lB S rfl rfl ?_;refine lB S rfl rfl ?_)))
  ·exact absurd hc hw
  ·refine qj ⟨_,rfl,?_⟩;exact ⟨by rw [Kd.err41 (.inl hc)];rfl,S.drop⟩
  ·refine qj ⟨_,rfl,?_⟩;exact ⟨by rw [Kd.err41 (.inr (by omega))];rfl,S.drop⟩
  rename_i hw1
  have hww:¬ (r.w<0∨1000<r.w):=by omega
  (refine qx rfl rfl rfl rfl rfl ((qbs S.wf wd (Kd.mk ka kb kt kn lo st) f r).mono ?_);rintro _ h ⟨⟨rfl,hp⟩|⟨rfl,hp⟩,x⟩)<;>(replace S:=S.join0 x;clear x;refine vl ?_;refine mv ?_;refine qf ?_)
  all_goals (repeat' (first|refine qg ?_|refine qh rfl ?_|(refine qc 6 ?_;refine mv ?_;refine qf ?_)))
  rotate_left
  ·refine qj ⟨_,rfl,?_⟩;exact ⟨by rw [Kd.err43 hww hp];rfl,S.drop⟩
  (repeat (refine qg ?_));first|refine zB (σ:=Bool) (fun c h'=>Hs h0 h' [.blk b (JW r) 125,.blk b4 v.cs 28,.blk b3 (eKd wd (Kd.mk ka kb kt kn lo st) f) 170]∧(c=true↔(Kd.mk ka kb kt kn lo st).unk p.us r)) (fun c=>[(3,.pointer (some ⟨b3,0,none⟩)),(4,.pointer (some ⟨b4,0,none⟩)),(5,.pointer (some ⟨b,0,none⟩)),(6,.int .i64 0),(28,.bool c)]) ?_ ?_
  ·all_goals (repeat' (first|refine qg ?_|refine qh rfl ?_|(refine qc 7 ?_;refine vl ?_;refine lB S rfl rfl ?_;(first|(refine cS ?_ ?_<;>intro hc))<;>(refine mv ?_;(first|refine off ?_|(refine lB S rfl rfl ?_));(first|refine off ?_|(refine vl ?_));(first|refine off ?_|(refine lB S rfl rfl ?_));(first|(refine off ?_;(refine off ?_)<;>(refine vl ?_;refine mv ?_;refine qf ?_))|skip)))))
   ·have h103:ka=103:=hc;(refine qx rfl rfl rfl rfl rfl ((YG S.wf v p (H.ext w S.ext) r.a).mono ?_);rintro _ h ⟨rfl,x⟩)<;>(replace S:=S.join0 x;clear x;(first|(first|(refine cS ?_ ?_<;>intro hc)))<;>(refine vl ?_;refine mv ?_;refine qf ?_))
    all_goals (repeat' (first|refine qg ?_|refine qh rfl ?_|refine qi ?_|(refine qc 8 ?_;refine vl ?_;refine lB S rfl rfl ?_;(refine cF ?_)<;>(refine mv ?_;refine off ?_;refine off ?_;(refine off ?_)<;>(refine vl ?_;refine mv ?_;refine off ?_;refine off ?_;refine off ?_;(first|(refine off ?_;(refine off ?_)<;>(refine vl ?_;refine mv ?_;refine qf ?_))))))))
    ·exact ⟨true,⟨S,fun _=>.inl ⟨h103,QZ.1 hc⟩,fun _=>rfl⟩,(qy)⟩
    have ha1:¬ (ka=103∧gat p.us r.a=none):=fun q=>yR.1 hc q.2;have ha2:¬ (ka=101∧r.a≠[]∧gat p.us r.a=none):=fun q=>by have:=q.1;omega
    cases kb
    ·all_goals (repeat' (first|(refine qc 9 ?_;refine vl ?_;refine lB S rfl rfl ?_;refine mv ?_;refine off ?_;refine off ?_;refine off ?_;(first|(refine off ?_;(refine off ?_)<;>(refine vl ?_;refine mv ?_;refine qf ?_))))))
     exact ⟨false,⟨S,fun q=>(by cases q),fun q=>q.elim (fun q=>absurd q ha1) fun q=>q.elim (fun q=>absurd q ha2) fun q=>(by cases q.1)⟩,(qy)⟩
    ·all_goals (repeat' (first|(refine qc 9 ?_;refine vl ?_;refine lB S rfl rfl ?_;refine mv ?_;(first|(refine lB S rfl rfl ?_));(first|(refine vl ?_));(first|(refine lB S rfl rfl ?_));(skip))))
     (refine qx rfl rfl rfl rfl rfl ((YG S.wf v p (H.ext w S.ext) r.b).mono ?_);rintro _ h ⟨rfl,x⟩)<;>(replace S:=S.join0 x;clear x;(first|(first|(refine cS ?_ ?_<;>intro hc)))<;>(refine vl ?_;refine mv ?_;refine qf ?_))
     all_goals (repeat' (fail))
     ·exact ⟨true,⟨S,fun _=>.inr (.inr ⟨rfl,QZ.1 hc⟩),fun _=>rfl⟩,(qy)⟩
     ·exact ⟨false,⟨S,fun q=>(by cases q),fun q=>q.elim (fun q=>absurd q ha1) fun q=>q.elim (fun q=>absurd q ha2) fun q=>absurd q.2 (yR.1 hc)⟩,(qy)⟩
   ·have h103:ka≠103:=hc;have ha1:¬ (ka=103∧gat p.us r.a=none):=fun q=>h103 q.1;all_goals (repeat' (first|refine qh rfl ?_|(refine qc 8 ?_;refine vl ?_;refine lB S rfl rfl ?_;(first|(refine cS ?_ ?_<;>intro hc))<;>(refine mv ?_;(first|refine off ?_|(refine vl ?_));(first|refine off ?_|(refine lB S rfl rfl ?_));(first|refine off ?_|(refine tS ?_ ?_<;>intro hc))<;>(refine vl ?_;refine mv ?_;(first|refine off ?_|(refine lB S rfl rfl ?_));(first|refine off ?_|(refine vl ?_));(first|refine off ?_|(refine lB S rfl rfl ?_));(first|(refine off ?_;(refine off ?_)<;>(refine vl ?_;refine mv ?_;refine qf ?_))|skip))))))
    ·have ha2:¬ (ka=101∧r.a≠[]∧gat p.us r.a=none):=fun q=>q.2.1 hc;cases kb
     ·all_goals (repeat' (first|(refine qc 9 ?_;refine vl ?_;refine lB S rfl rfl ?_;refine mv ?_;refine off ?_;refine off ?_;refine off ?_;(first|(refine off ?_;(refine off ?_)<;>(refine vl ?_;refine mv ?_;refine qf ?_))))))
      exact ⟨false,⟨S,fun q=>(by cases q),fun q=>q.elim (fun q=>absurd q ha1) fun q=>q.elim (fun q=>absurd q ha2) fun q=>(by cases q.1)⟩,(qy)⟩
     ·all_goals (repeat' (first|(refine qc 9 ?_;refine vl ?_;refine lB S rfl rfl ?_;refine mv ?_;(first|(refine lB S rfl rfl ?_));(first|(refine vl ?_));(first|(refine lB S rfl rfl ?_));(skip))))
      (refine qx rfl rfl rfl rfl rfl ((YG S.wf v p (H.ext w S.ext) r.b).mono ?_);rintro _ h ⟨rfl,x⟩)<;>(replace S:=S.join0 x;clear x;(first|(first|(refine cS ?_ ?_<;>intro hc)))<;>(refine vl ?_;refine mv ?_;refine qf ?_))
      all_goals (repeat' (fail))
      ·exact ⟨true,⟨S,fun _=>.inr (.inr ⟨rfl,QZ.1 hc⟩),fun _=>rfl⟩,(qy)⟩
      ·exact ⟨false,⟨S,fun q=>(by cases q),fun q=>q.elim (fun q=>absurd q ha1) fun q=>q.elim (fun q=>absurd q ha2) fun q=>absurd q.2 (yR.1 hc)⟩,(qy)⟩
    ·have h101:ka=101:=by assumption
     have hne:r.a≠[]:=hc;(refine qx rfl rfl rfl rfl rfl ((YG S.wf v p (H.ext w S.ext) r.a).mono ?_);rintro _ h ⟨rfl,x⟩)<;>(replace S:=S.join0 x;clear x;(first|(first|(refine cS ?_ ?_<;>intro hc)))<;>(refine vl ?_;refine mv ?_;refine qf ?_))
     all_goals (repeat' (first|refine qh rfl ?_|refine qi ?_))
     ·exact ⟨true,⟨S,fun _=>.inr (.inl ⟨h101,hne,QZ.1 hc⟩),fun _=>rfl⟩,(qy)⟩
     have ha2:¬ (ka=101∧r.a≠[]∧gat p.us r.a=none):=fun q=>yR.1 hc q.2.2;cases kb
     ·all_goals (repeat' (first|(refine qc 9 ?_;refine vl ?_;refine lB S rfl rfl ?_;refine mv ?_;refine off ?_;refine off ?_;refine off ?_;(first|(refine off ?_;(refine off ?_)<;>(refine vl ?_;refine mv ?_;refine qf ?_))))))
      exact ⟨false,⟨S,fun q=>(by cases q),fun q=>q.elim (fun q=>absurd q ha1) fun q=>q.elim (fun q=>absurd q ha2) fun q=>(by cases q.1)⟩,(qy)⟩
     ·all_goals (repeat' (first|(refine qc 9 ?_;refine vl ?_;refine lB S rfl rfl ?_;refine mv ?_;(first|(refine lB S rfl rfl ?_));(first|(refine vl ?_));(first|(refine lB S rfl rfl ?_));(skip))))
      (refine qx rfl rfl rfl rfl rfl ((YG S.wf v p (H.ext w S.ext) r.b).mono ?_);rintro _ h ⟨rfl,x⟩)<;>(replace S:=S.join0 x;clear x;(first|(first|(refine cS ?_ ?_<;>intro hc)))<;>(refine vl ?_;refine mv ?_;refine qf ?_))
      all_goals (repeat' (fail))
      ·exact ⟨true,⟨S,fun _=>.inr (.inr ⟨rfl,QZ.1 hc⟩),fun _=>rfl⟩,(qy)⟩
      ·exact ⟨false,⟨S,fun q=>(by cases q),fun q=>q.elim (fun q=>absurd q ha1) fun q=>q.elim (fun q=>absurd q ha2) fun q=>absurd q.2 (yR.1 hc)⟩,(qy)⟩
    ·have ha2:¬ (ka=101∧r.a≠[]∧gat p.us r.a=none):=fun q=>hc q.1;cases kb
     ·all_goals (repeat' (first|(refine qc 9 ?_;refine vl ?_;refine lB S rfl rfl ?_;refine mv ?_;refine off ?_;refine off ?_;refine off ?_;(first|(refine off ?_;(refine off ?_)<;>(refine vl ?_;refine mv ?_;refine qf ?_))))))
      exact ⟨false,⟨S,fun q=>(by cases q),fun q=>q.elim (fun q=>absurd q ha1) fun q=>q.elim (fun q=>absurd q ha2) fun q=>(by cases q.1)⟩,(qy)⟩
     ·all_goals (repeat' (first|(refine qc 9 ?_;refine vl ?_;refine lB S rfl rfl ?_;refine mv ?_;(first|(refine lB S rfl rfl ?_));(first|(refine vl ?_));(first|(refine lB S rfl rfl ?_));(skip))))
      (refine qx rfl rfl rfl rfl rfl ((YG S.wf v p (H.ext w S.ext) r.b).mono ?_);rintro _ h ⟨rfl,x⟩)<;>(replace S:=S.join0 x;clear x;(first|(first|(refine cS ?_ ?_<;>intro hc)))<;>(refine vl ?_;refine mv ?_;refine qf ?_))
      all_goals (repeat' (fail))
      ·exact ⟨true,⟨S,fun _=>.inr (.inr ⟨rfl,QZ.1 hc⟩),fun _=>rfl⟩,(qy)⟩
      ·exact ⟨false,⟨S,fun q=>(by cases q),fun q=>q.elim (fun q=>absurd q ha1) fun q=>q.elim (fun q=>absurd q ha2) fun q=>absurd q.2 (yR.1 hc)⟩,(qy)⟩
  clear S;rintro c h ⟨S,hu⟩;cases c
  ·have hun:¬ (Kd.mk ka kb kt kn lo st).unk p.us r:=fun q=>by have:=hu.2 q;cases this
   all_goals (repeat' (first|refine qg ?_|refine qh rfl ?_|(refine qc 11 ?_;refine vl ?_;refine lB S rfl rfl ?_;(first|(refine cS ?_ ?_<;>intro hc))<;>(refine mv ?_;(first|refine off ?_|(refine vl ?_));(first|refine off ?_|(refine lB S rfl rfl ?_));(first|(refine off ?_;refine off ?_;refine vl ?_;refine mv ?_;refine qf ?_)|skip)))))
   ·have h100:ka=100:=hc;(refine qx rfl rfl rfl rfl rfl ((qbj r.a).mono ?_);rintro _ _ ⟨⟨rfl,hn⟩|⟨rfl,hn⟩,rfl⟩)<;>((refine vl ?_);refine vl ?_;refine mv ?_;refine qf ?_)
    ·have hnm:¬ (ka=100∧¬ Ql r.a):=fun q=>q.2 hn;all_goals (repeat' (first|refine qg ?_|refine qh rfl ?_))
     cases kb
     ·all_goals (repeat' (first|refine qh rfl ?_|refine qi ?_|(refine qc 13 ?_;refine vl ?_;refine lB S rfl rfl ?_;refine mv ?_;refine off ?_;refine off ?_;refine off ?_;refine off ?_;(refine off ?_)<;>(refine vl ?_;refine mv ?_;refine qf ?_))))
      exact ⟨(),⟨S,⟨hww,hp,hun,hnm⟩,fun q=>(by cases q.1)⟩,(qy)⟩
     ·all_goals (repeat' (first|refine qg ?_|refine qh rfl ?_|refine qi ?_|(refine qc 13 ?_;refine vl ?_;refine lB S rfl rfl ?_;refine mv ?_;(first|(refine vl ?_));(first|(refine lB S rfl rfl ?_));(first|(refine vl ?_));(first|(refine lB S rfl rfl ?_));(first|(refine tS ?_ ?_<;>intro hc))<;>(refine vl ?_;refine mv ?_;refine qf ?_))|(refine qc 14 ?_;refine mv ?_;refine qf ?_)))
      ·refine qj ⟨_,rfl,?_⟩;exact ⟨by rw [Kd.err5 ⟨hww,hp,hun,hnm⟩ ⟨rfl,hc⟩];rfl,S.drop⟩
      ·exact ⟨(),⟨S,⟨hww,hp,hun,hnm⟩,fun q=>hc q.2⟩,(qy)⟩
    ·all_goals (repeat' (first|refine qg ?_|refine qh rfl ?_|(refine qc 12 ?_;refine mv ?_;refine qf ?_)))
     refine qj ⟨_,rfl,?_⟩;exact ⟨by rw [Kd.err4 hww hp hun ⟨h100,hn⟩];rfl,S.drop⟩
   ·have hnm:¬ (ka=100∧¬ Ql r.a):=fun q=>hc q.1;cases kb
    ·all_goals (repeat' (first|refine qh rfl ?_|refine qi ?_|(refine qc 13 ?_;refine vl ?_;refine lB S rfl rfl ?_;refine mv ?_;refine off ?_;refine off ?_;refine off ?_;refine off ?_;(refine off ?_)<;>(refine vl ?_;refine mv ?_;refine qf ?_))))
     exact ⟨(),⟨S,⟨hww,hp,hun,hnm⟩,fun q=>(by cases q.1)⟩,(qy)⟩
    ·all_goals (repeat' (first|refine qg ?_|refine qh rfl ?_|refine qi ?_|(refine qc 13 ?_;refine vl ?_;refine lB S rfl rfl ?_;refine mv ?_;(first|(refine vl ?_));(first|(refine lB S rfl rfl ?_));(first|(refine vl ?_));(first|(refine lB S rfl rfl ?_));(first|(refine tS ?_ ?_<;>intro hc))<;>(refine vl ?_;refine mv ?_;refine qf ?_))|(refine qc 14 ?_;refine mv ?_;refine qf ?_)))
     ·refine qj ⟨_,rfl,?_⟩;exact ⟨by rw [Kd.err5 ⟨hww,hp,hun,hnm⟩ ⟨rfl,hc⟩];rfl,S.drop⟩
     ·exact ⟨(),⟨S,⟨hww,hp,hun,hnm⟩,fun q=>hc q.2⟩,(qy)⟩
  ·have hun:(Kd.mk ka kb kt kn lo st).unk p.us r:=hu.1 rfl;all_goals (repeat' (first|refine qg ?_|refine qh rfl ?_|(refine qc 10 ?_;refine mv ?_;refine qf ?_)))
   refine qj ⟨_,rfl,?_⟩;exact ⟨by rw [Kd.err6 hww hp hun];rfl,S.drop⟩
 clear S;rintro _ h ⟨S,ho,h5⟩;(repeat (refine qg ?_));first|refine kJ (σ:=Int×Bool) (fun (i,c) h'=>Hs h0 h' [.blk b (JW r) 125,.blk b4 v.cs 28,.blk b3 (eKd wd (Kd.mk ka kb kt kn lo st) f) 170]∧((c=true∧Jm p.tabs r.t∧i=X4 p.tabs r.t∧X4 p.tabs r.t<p.tabs.length)∨(c=false∧¬ Jm p.tabs r.t))) (fun (i,c)=>[(3,.pointer (some ⟨b3,0,none⟩)),(4,.pointer (some ⟨b4,0,none⟩)),(5,.pointer (some ⟨b,0,none⟩)),(6,.int .i64 0),(7,.int .i64 i),(8,.bool c)]) ?_ ?_
 ·all_goals (repeat' (first|(refine qc 15 ?_;refine vl ?_;refine lB S rfl rfl ?_;refine vl ?_;refine lB S rfl rfl ?_)))
  (refine qx rfl rfl rfl rfl rfl ((qbP S.wf v.vt.val p.tabs (H.tab.ext w S.ext) r.t).mono ?_);rintro _ h ⟨⟨k,rfl,-,hk,hn,hmin⟩|⟨rfl,hnot⟩,x⟩)<;>(replace S:=S.join0 x;clear x;refine mv ?_;refine vl ?_;refine vl ?_;refine mv ?_;refine mv ?_;refine qf ?_)
  ·all_goals (repeat' (fail))
   exact ⟨((k:Int),true),⟨S,.inl ⟨rfl,⟨k,hk,hn⟩,by rw [Gn hk hn hmin],by rw [Gn hk hn hmin];exact hk⟩⟩,(qy)⟩
  ·all_goals (repeat' (fail))
   exact ⟨(0,false),⟨S,.inr ⟨rfl,fun ⟨j,hj,hn⟩=>hnot.elim (fun q=>q hv) fun q=>q j hj hn⟩⟩,(qy)⟩
 clear S;rintro ⟨i,c⟩ h ⟨S,hf⟩;(repeat (refine qg ?_));first|refine zB (σ:=Unit) (fun _ h'=>Hs h0 h' [.blk b (JW r) 125,.blk b4 v.cs 28,.blk b3 (eKd wd (Kd.mk ka kb kt kn lo st) f) 170]∧¬ (Kd.mk ka kb kt kn lo st).ut p.tabs r) (fun _=>[(3,.pointer (some ⟨b3,0,none⟩)),(4,.pointer (some ⟨b4,0,none⟩)),(5,.pointer (some ⟨b,0,none⟩)),(6,.int .i64 0),(7,.int .i64 i),(8,.bool c)]) ?_ ?_
 ·rcases hf with ⟨rfl,hT,-,-⟩|⟨rfl,hT⟩
  ·all_goals (repeat' (first|refine qh rfl ?_|refine qi ?_|(refine qc 16 ?_;refine vl ?_;refine lB S rfl rfl ?_;(first|(refine cS ?_ ?_<;>intro hc))<;>(refine mv ?_;(first|refine off ?_|refine mv ?_);(first|refine off ?_|refine vl ?_);refine vl ?_;refine mv ?_;(first|(refine vl ?_));(first|(refine lB S rfl rfl ?_));(first|(first|refine cF ?_|(refine cS ?_ ?_<;>intro hc)))<;>((refine mv ?_);(first|refine off ?_|(refine vl ?_));(first|refine off ?_|(refine lB S rfl rfl ?_));(first|refine off ?_|(refine tS ?_ ?_<;>intro hc))<;>((refine vl ?_);refine mv ?_;(first|refine off ?_|refine mv ?_);(first|refine off ?_|refine vl ?_);refine vl ?_;refine vl ?_;refine qf ?_))))))
   all_goals exact ⟨(),⟨S,fun q=>q.elim (fun q=>q.2 hT) fun q=>q.2.2 hT⟩,(qy)⟩
  ·all_goals (repeat' (first|refine qg ?_|refine qh rfl ?_|refine qi ?_|(refine qc 16 ?_;refine vl ?_;refine lB S rfl rfl ?_;(first|(refine cS ?_ ?_<;>intro hc))<;>(refine mv ?_;(first|refine off ?_|refine mv ?_);(first|refine off ?_|refine vl ?_);refine vl ?_;refine mv ?_;(first|refine off ?_|(refine vl ?_));(first|refine off ?_|(refine lB S rfl rfl ?_));(first|refine off ?_|(first|(refine cS ?_ ?_<;>intro hc)))<;>((first|refine off ?_|refine mv ?_);(first|refine off ?_|(refine vl ?_));(first|refine off ?_|(refine lB S rfl rfl ?_));(first|refine off ?_|(refine tS ?_ ?_<;>intro hc))<;>((first|refine off ?_|refine vl ?_);(first|refine off ?_|refine mv ?_);(first|refine off ?_|refine mv ?_);(first|refine off ?_|refine vl ?_);(first|refine off ?_|refine vl ?_);refine vl ?_;refine qf ?_))))|(refine qc 17 ?_;refine mv ?_;refine qf ?_)))
   all_goals first|((refine qj ⟨_,rfl,?_⟩);have hut:(Kd.mk ka kb kt kn lo st).ut p.tabs r:=(by first|exact .inl ⟨by assumption,hT⟩|exact .inr ⟨by assumption,by assumption,hT⟩);exact ⟨by rw [Kd.errR ho h5,if_pos hut];rfl,S.drop⟩)|exact ⟨(),⟨S,fun q=>by rcases q with ⟨q1,-⟩|⟨q1,q2,-⟩<;>first|contradiction⟩,(qy)⟩
 clear S;rintro _ h ⟨S,hut⟩;all_goals (repeat' (first|refine qg ?_|(refine qc 18 ?_;refine mv ?_;refine qf ?_)))
 (repeat (refine qg ?_));first|refine zB (σ:=Unit) (fun _ h'=>Hs h0 h' [.blk b (JW r) 125,.blk b4 v.cs 28,.blk b3 (eKd wd (Kd.mk ka kb kt kn lo st) f) 170]) (fun _=>[(3,.pointer (some ⟨b3,0,none⟩)),(4,.pointer (some ⟨b4,0,none⟩)),(5,.pointer (some ⟨b,0,none⟩)),(6,.int .i64 0),(7,.int .i64 i),(8,.bool c),(9,.int .i64 ((Kd.mk ka kb kt kn lo st).most p.tabs r))]) ?_ ?_
 ·cases st
  ·all_goals (repeat' (first|refine qh rfl ?_|refine qi ?_|(refine qc 19 ?_;refine vl ?_;refine lB S rfl rfl ?_;refine qf ?_)))
   exact ⟨(),S,(qy)⟩
  ·have h116:kt=116:=hs rfl;rcases hf with ⟨rfl,hT,rfl,hti⟩|⟨rfl,hT⟩
   ·have hg:=(hv.2 _ hti).1;have ht:=H.tab.tab _ hti;have hone:(p.tabs.drop (X4 p.tabs r.t)).take (X4 p.tabs r.t+1 - X4 p.tabs r.t)=[tb p.tabs (X4 p.tabs r.t)]:=by
     rw [Nat.add_sub_cancel_left];unfold tb;rw [zA2,zA4 hti,zG7 hti];rfl
    have b1:=jT (tb p.tabs (X4 p.tabs r.t));all_goals (repeat' (first|refine qh rfl ?_|(refine qc 19 ?_;refine vl ?_;refine lB S rfl rfl ?_;refine qf ?_)|(refine qc 20 ?_;refine vl ?_;refine lB S rfl rfl ?_;refine mv ?_;refine mv ?_;refine ad ?_)))
    refine su (X4 p.tabs r.t) (X4 p.tabs r.t+1) (hr.ext w S.ext) H.tab.cap ?_;intro vs hrs hcs;(skip);rw [hone] at hrs;(refine qx rfl rfl rfl rfl rfl ((countOne S.wf hrs hcs (ht.ext w S.ext) hg).mono ?_);rintro _ h ⟨rfl,x⟩)<;>(replace S:=S.join0 x;clear x;refine sb ?_;refine mv ?_;refine qf ?_)
    all_goals (repeat' (fail))
    exact ⟨(),S,(qy)⟩
   ·exact absurd (.inl ⟨h116,hT⟩) hut
 clear S;rintro _ h S;cases kn
 ·all_goals (repeat' (first|refine qg ?_|refine qh rfl ?_|refine qi ?_|(refine qc 21 ?_;refine vl ?_;refine lB S rfl rfl ?_;refine mv ?_;refine off ?_;refine off ?_;refine off ?_;refine off ?_;(refine off ?_)<;>((refine off ?_);refine off ?_;refine off ?_;refine off ?_;(refine off ?_)<;>((refine off ?_);refine vl ?_;refine qf ?_)))|(refine qc 23 ?_;refine mv ?_;refine qf ?_)))
  refine qj ⟨_,rfl,?_⟩;exact ⟨by rw [Kd.errR ho h5,if_neg hut,if_neg (fun q=>by cases q.1)];rfl,S.drop⟩
 ·all_goals (repeat' (first|refine qg ?_|refine qh rfl ?_|refine qi ?_|(refine qc 21 ?_;refine vl ?_;refine lB S rfl rfl ?_;refine mv ?_;(first|(refine vl ?_));(first|(refine lB S rfl rfl ?_));(first|(refine vl ?_));(first|(refine lB S rfl rfl ?_));(first|(first|(refine cS ?_ ?_<;>intro hc)))<;>((refine mv ?_);(first|refine off ?_|(refine vl ?_));(first|refine off ?_|(refine lB S rfl rfl ?_));(first|refine off ?_|refine mv ?_);(first|refine off ?_|(first|(refine cS ?_ ?_<;>intro hc)))<;>((refine vl ?_);refine vl ?_;refine qf ?_)))|(refine qc 22 ?_;refine mv ?_;refine qf ?_)|(refine qc 23 ?_;refine mv ?_;refine qf ?_)))
  ·refine qj ⟨_,rfl,?_⟩;exact ⟨by rw [Kd.errR ho h5,if_neg hut,if_pos ⟨rfl,.inl hc⟩];rfl,S.drop⟩
  ·refine qj ⟨_,rfl,?_⟩;exact ⟨by rw [Kd.errR ho h5,if_neg hut,if_pos ⟨rfl,.inr hc⟩];rfl,S.drop⟩
  ·refine qj ⟨_,rfl,?_⟩;exact ⟨by rw [Kd.errR ho h5,if_neg hut,if_neg (fun q=>q.2.elim (fun q=>by contradiction) fun q=>by contradiction)];rfl,S.drop⟩
def mkP (b:Nat) (es:List (Value×Value×Nat)) (c:Nat) (h:AH) (fp:Fp):Prop:=h.get b=some (.map es c)∧fp b
abbrev mkR (b:Nat) (es:List (Value×Value×Nat)) (c:Nat):Rs:=.any (mkP b es c)
def mvO (r:Option (Nat×Value)) (z:Value):Value:=match r with|some q=>q.2|none=>z
section
variable {P:Program} {X:Extern} {sz:Nat} {L:Ks} {h h0:AH} {rs:List Rs} {ops:Array Oper} {os:List Oper} {o:Oper} {R:Ks→AH→Prop}
theorem qfP {ty:TypeId} {d:Tmp} (S:Hs h0 h rs) (w:∀ b h',Hs h0 h' (mkR b [] 0 :: rs)→KO P X sz ops os (L.put d (.map (some b))) h' R) (ho:o.op = .makeMap ty none:=by exact rfl) (hg:qw ops L.tree o.guard=some true:=by exact rfl) (hdst:o.dst=some d:=by exact rfl) (hds:Nat.blt d sz=true:=by exact rfl):KO P X sz ops (o :: os) L h R :=
 zh hg (v:=.map (some h.next)) (h':=h.add (.map [] 0)) (by rw [ho];rfl) (show qG sz L o.dst _=some (L.put d _) by simp only [qG,hdst,hds]) (w _ _ (S.grow (fp:=fun b=>b=h.next) ((Ext.refl S.wf).add _) (fun h' q=>⟨by rw [q _ rfl,AH.get_add,if_pos rfl],rfl⟩) fun b hb=>by subst hb;exact ⟨zA3 _,zG0 _⟩))
theorem ins {b c:Nat} {es es2:List (Value×Value×Nat)} {m k x:Operand} {ty et:TypeId} {kv xv:Value} {kd:TypeDesc} {L':Ks} (S:Hs h0 h (mkR b es c :: rs)) (w:∀ h',Hs h0 h' (mkR b es2 (c+1) :: rs)→KO P X sz ops os L' h' R)
 (ho:o.op = .insert ty m k x:=by exact rfl) (hg:qw ops L.tree o.guard=some true:=by exact rfl) (hm:kA L m=some (.map (some b)):=by exact rfl) (hk:kA L k=some kv:=by exact rfl) (hx:kA L x=some xv:=by exact rfl)
 (hT:VE P ty kv=some (kd,et):=by exact rfl) (hf:QT kd kv es 0=some none:=by exact rfl) (he:es ++ [(kv,xv,c)]=es2:=by exact rfl) (hp:qG sz L o.dst (.tuple #[])=some L':=by exact rfl):KO P X sz ops (o :: os) L h R:=by
 obtain ⟨fp,k1,k2⟩:=At.here.ok S.sep;obtain ⟨g1,g2⟩:=k1 h fun _ _=>rfl;have g3:=fun j (hj:fp j)=>k2 j hj;have e:jJ P ty (.map (some b)) kv xv h=some (h.put b (.map es2 (c+1))):=by
  unfold jJ;simp only [hT,g1,hf,he]
 refine kK hg (h':=h.put b (.map es2 (c+1))) ?_ hp (w _ ?_)
 ·rw [ho];simp only [zF,qE hm,qE hk,qE hx,e]
 ·refine S.turn .here (zA3 _) (S.wf.put (g3 b g2).2.1 _) fun fq q1 q2=>?_;obtain ⟨g4,g5⟩:=q1 h fun _ _=>rfl;exact ⟨fun j _ hj=>by rw [AH.get_put,if_neg];intro q;subst q;exact hj g5,fq,fun h' q=>⟨by rw [q b g5,AH.get_put,if_pos rfl],g5⟩,fun j hj=>⟨(q2 j hj).2,.inl hj⟩⟩
theorem qfe {b c:Nat} {es:List (Value×Value×Nat)} {ty et:TypeId} {kv z:Value} {kd:TypeDesc} {r:Option (Nat×Value)} (S:Hs h0 h rs) (a:At rs (mkR b es c)) (hT:VE P ty kv=some (kd,et)) (hf:QT kd kv es 0=some r) (hz:zeroV P et=some z) :
 jX P ty (.map (some b)) kv false h=some (mvO r z):=by
 obtain ⟨fp,⟨g1,g2⟩⟩:=S.anyP a;unfold jX J3;simp only [hT,g1,hf,hz];cases r<;>rfl
theorem lkK {b c:Nat} {es:List (Value×Value×Nat)} {m k:Operand} {ty et:TypeId} {kv z v:Value} {kd:TypeDesc} {r:Option (Nat×Value)} {L':Ks} (S:Hs h0 h rs) (a:At rs (mkR b es c)) (hf:QT kd kv es 0=some r) (hv:mvO r z=v) (w:KO P X sz ops os L' h R)
 (ho:o.op = .lookup ty m k false:=by exact rfl) (hg:qw ops L.tree o.guard=some true:=by exact rfl) (hm:kA L m=some (.map (some b)):=by exact rfl) (hk:kA L k=some kv:=by exact rfl) (hT:VE P ty kv=some (kd,et):=by exact rfl) (hz:zeroV P et=some z:=by exact rfl) (hp:qG sz L o.dst v=some L':=by exact rfl):KO P X sz ops (o :: os) L h R:=by
 have e:=qfe S a hT hf hz;rw [hv] at e;refine zh hg (v:=v) (h':=h) ?_ hp w;rw [ho];simp only [zF,qE hm,qE hk,e,qN]
end
def kwL:List (List UInt8):=[[97,112,97,114,116],[98,101,115,105,100,101],[97,99,114,111,115,115],[110,101,97,114],[116,111,103,101,116,104,101,114],[97,116],[115,101,97,116],[97,108,116,101,114,110,97,116,101],[104,111,115,116],[114,101,97,99,104],[115,112,101,97,107],[112,101,97,99,101],[99,111,109,112,97,110,121],[104,111,110,111,117,114],[102,105,108,108],[108,105,109,105,116],[107,105,116,99,104,101,110],[109,105,120]]
def kfL:List Value:=[Jy 154,Jy 155,Jy 156,Jy 157,Jy 158,Jy 159,Jy 160,Jy 161,Jy 162,Jy 163,Jy 164,Jy 165,Jy 166,Jy 167,Jy 168,Jy 169,Jy 170,Jy 171]
def kEs:List (Value×Value×Nat):=(List.range 18).map fun i=>(.int .u8 ((i+1:Nat):Int),kdV (kwL.getD i []) (kdL.getD i default) (kfL.getD i .nilFunc),i)
theorem qbL {h0:AH} (w:WfH h0):Fn Tryz.prog Xh 127 [] h0 (fun u h'=>∃ b,u = .map (some b)∧Hs h0 h' [mkR b kEs 18]):=by
 have S:=Hs.start w;refine qJ (by first|rfl|exact KX.no _ _ _ (by decide) rfl) Tryz.func127 rfl rfl ?_;all_goals (repeat' (first|refine qg ?_|refine qh rfl ?_|refine qi ?_|refine qB ?_|refine qo ?_|refine zT ?_|refine ja ?_|(refine qc 0 ?_;refine mv ?_;refine qf ?_)))
 (repeat (refine qg ?_));refine qc 1 ?_;refine qfP S ?_;clear S;intro b h S;refine vl ?_;refine ins (es2:=kEs.take 1) S ?_;clear S;intro h S;refine vl ?_;refine ins (es2:=kEs.take 2) S ?_;clear S;intro h S;refine vl ?_;refine ins (es2:=kEs.take 3) S ?_;clear S;intro h S;refine vl ?_;refine ins (es2:=kEs.take 4) S ?_;clear S;intro h S;refine vl ?_;refine ins (es2:=kEs.take 5) S ?_;clear S;intro h S;refine vl ?_;refine ins (es2:=kEs.take 6) S ?_;clear S;intro h S;refine vl ?_;refine ins (es2:=kEs.take 7) S ?_;clear S;intro h S;refine vl ?_;refine ins (es2:=kEs.take 8) S ?_;clear S;intro h S;refine vl ?_;refine ins (es2:=kEs.take 9) S ?_;clear S;intro h S;refine vl ?_;refine ins (es2:=kEs.take 10) S ?_;clear S;intro h S;refine vl ?_;refine ins (es2:=kEs.take 11) S ?_;clear S;intro h S;refine vl ?_;refine ins (es2:=kEs.take 12) S ?_;clear S;intro h S;refine vl ?_;refine ins (es2:=kEs.take 13) S ?_;clear S;intro h S;refine vl ?_;refine ins (es2:=kEs.take 14) S ?_;clear S;intro h S;refine vl ?_;refine ins (es2:=kEs.take 15) S ?_;clear S;intro h S;refine vl ?_;refine ins (es2:=kEs.take 16) S ?_;clear S;intro h S;refine vl ?_;refine ins (es2:=kEs.take 17) S ?_;clear S;intro h S;refine vl ?_;refine ins (es2:=kEs.take 18) S ?_;clear S;intro h S;refine mv ?_;refine mv ?_;refine qf ?_;all_goals (repeat' (first|refine qg ?_|refine qh rfl ?_|refine qi ?_|refine qB ?_|refine qo ?_|refine zT ?_|refine ja ?_|(refine qc 0 ?_;refine mv ?_;refine qf ?_)|(refine qc 1 ?_;skip)))
 refine qj ⟨_,rfl,?_⟩;exact ⟨b,rfl,S⟩
def WL (k:Int):Value:=if 1≤k∧k≤18 then kdV (kwL.getD (k.toNat - 1) []) (Qu k) (kfL.getD (k.toNat - 1) .nilFunc) else kdV [] ⟨0,false,0,false,0,false⟩ .nilFunc
variable [Flag]
theorem qay {h0:AH} (w:WfH h0) (v:RlV) (r:Rl) (H:RlOk h0 v r):Fn Tryz.prog Xh 152 [v.val] h0 (fun u h'=>((u = .tuple #[.int .i64 0,.int .i64 0]∧VRl r)∨∃ i e,u = .tuple #[.int .i64 i,.int .i64 e]∧Bad r i e)∧Hs h0 h' []):=by
 have S:=Hs.start w;unfold RlV.val;refine qJ (by first|rfl) Tryz.func152 rfl rfl ?_;all_goals (repeat' (first|refine qg ?_|(refine qc 0 ?_;(refine bx S ?_;clear S;intro b h S);refine mv ?_;refine mv ?_;refine qf ?_)|(refine qc 1 ?_;refine lB S rfl rfl ?_)))
 (refine qx rfl rfl rfl rfl rfl ((qcQ S.wf v r (H.ext w S.ext)).mono ?_);rintro _ h (⟨p,rfl,hv,x⟩|⟨i,e,rfl,hb,x⟩))<;>(refine mv ?_;refine vl ?_;refine vl ?_;refine vl ?_;(iterate 3 refine mv ?_);refine qf ?_)
 ·replace S:=S.join x;all_goals (repeat' (first|refine qg ?_|(refine qc 2 ?_;(iterate 4 refine mv ?_);refine qf ?_)))
  refine qj ⟨_,rfl,?_⟩;exact ⟨.inl ⟨rfl,hv⟩,S.drop⟩
 ·replace S:=S.join x;all_goals (repeat' (first|refine qg ?_|(refine qc 2 ?_;(iterate 4 refine mv ?_);refine qf ?_)))
  refine qj ⟨_,rfl,?_⟩;exact ⟨.inr ⟨_,_,rfl,hb⟩,S.drop⟩
end Go.Proofs.Xx
namespace Go.Proofs.Xx
open Go Go.Proofs
theorem qfh (k:Int):QT (.int .u8) (.int .u8 k) kEs 0=some (if 1≤k∧k≤18 then some (k.toNat - 1,WL k) else none):=by
 by_cases h:1≤k∧k≤18
 ·rw [if_pos h];obtain ⟨h1,h2⟩:=h;have:k=1∨k=2∨k=3∨k=4∨k=5∨k=6∨k=7∨k=8∨k=9∨k=10∨k=11∨k=12∨k=13∨k=14∨k=15∨k=16∨k=17∨k=18:=by omega
  rcases this with rfl|rfl|rfl|rfl|rfl|rfl|rfl|rfl|rfl|rfl|rfl|rfl|rfl|rfl|rfl|rfl|rfl|rfl<;>rfl
 ·rw [if_neg h];have e:∀ (es:List (Value×Value×Nat)) (i:Nat),(∀ e∈es,∃ j:Int,e.1 = .int .u8 j∧1≤j∧j≤18)→QT (.int .u8) (.int .u8 k) es i=some none:=by
   intro es;induction es with
   | nil=>intro i _;rfl
   | cons e es ih =>
    intro i he;obtain ⟨j,h1,h2⟩:=he e (by simp);have hs:Instr.sameNow (.int .u8) (.int .u8 k) e.1=some false:=by
     rw [h1];show some (decide (k=j))=_
     rw [decide_eq_false (by omega)]
    unfold QT;rw [hs];exact ih _ fun x hx=>he x (List.mem_cons_of_mem _ hx)
  refine e kEs 0 fun x hx=>?_;unfold kEs at hx;obtain ⟨i,hi,rfl⟩:=zF1.1 hx;have:=zE3.1 hi;exact ⟨_,rfl,by omega,by omega⟩
theorem kdv (k:Int):mvO (if 1≤k∧k≤18 then some (k.toNat - 1,WL k) else none) (kdV [] ⟨0,false,0,false,0,false⟩ .nilFunc)=WL k:=by
 by_cases h:1≤k∧k≤18
 ·rw [if_pos h];rfl
 ·rw [if_neg h];unfold WL mvO;rw [if_neg h]
theorem pq {h0:AH} (w:WfH h0) (v:PbV) (p:Pb) (H:PbOk h0 v p) (hv:ValidL p.tabs) (r:Ru) :
 Fn Tryz.prog Xh 128 [WL r.k,v.val,ruV r] h0 (fun u h'=>u = .int .i64 (yE p r)∧Hs h0 h' []):=by
 unfold WL yE;by_cases h:1≤r.k∧r.k≤18
 ·rw [if_pos h,if_pos h];refine qau w _ _ _ v p H hv r ?_ ?_
  ·have:∀ i,i<18→kwL.getD i []≠[]:=by decide
   exact this _ (by omega)
  ·have:∀ i,i<18→(kdL.getD i default).seat=true→(kdL.getD i default).t=116:=by decide
   exact this _ (by omega)
 ·rw [if_neg h,if_neg h];have S:=Hs.start w;unfold kdV eKd ruV JW PbV.val;refine qJ (by first|rfl) Tryz.func128 rfl rfl ?_;all_goals (repeat' (first|refine qg ?_|refine qh rfl ?_|refine qo ?_|(refine qc 0 ?_;(refine bx S ?_;clear S;intro b h S);(refine bx S ?_;clear S;intro b h S);(refine bx S ?_;clear S;intro b h S);refine mv ?_;refine qf ?_)|(refine qc 1 ?_;refine vl ?_;refine lB S rfl rfl ?_;(refine tS ?_ ?_<;>intro hc)<;>(refine mv ?_;refine qf ?_))|(refine qc 2 ?_;refine mv ?_;refine qf ?_)))
  ·refine qj ⟨_,rfl,?_⟩;exact ⟨rfl,S.drop⟩
  ·exact absurd rfl hc
def qgp (p:Pb):Prop:=(p.cl.length=0∨p.cl.length=p.us.length)∧∀ c∈p.cl,0≤c∧c<64
theorem qch {h0:AH} (w:WfH h0) (v:PbV) (p:Pb) (H:PbOk h0 v p):Fn Tryz.prog Xh 126 [v.val] h0 (fun u h'=>∃ i e,u = .tuple #[.int .i64 i,.int .i64 e]∧BasP p i e∧Hs h0 h' []):=by
 have S:=Hs.start w;have hr:=H.rol.rg;have hl:=H.rol.len;have hlg:=H.rol.lg;have hcr:=H.cl;have hcl:=H.lc;have hl':v.gs.length=p.us.length:=hl;have hlg':p.us.length≤9223372036854775807:=hlg;unfold PbV.val;refine qJ (by first|rfl) Tryz.func126 rfl rfl ?_;all_goals (repeat' (first|refine qg ?_|(refine qc 0 ?_;(refine bx S ?_;clear S;intro b h S);refine mv ?_;refine mv ?_;refine qf ?_)|(refine qc 1 ?_;refine vl ?_;refine lB S rfl rfl ?_)))
 (refine qx rfl rfl rfl rfl rfl ((JZ S.wf v.vt.val p.tabs (H.tab.ext w S.ext)).mono ?_);rintro _ h ⟨i,e,rfl,hk,x⟩)<;>(replace S:=S.join0 x;clear x;refine mv ?_;refine vl ?_;refine vl ?_;refine mv ?_;refine mv ?_;refine qf ?_)
 all_goals (repeat' (first|refine qg ?_|refine qh rfl ?_|refine qi ?_|(refine qc 2 ?_;refine mv ?_;(first|(refine cS ?_ ?_<;>intro hc))<;>(refine qf ?_))|(refine qc 3 ?_;(iterate 4 refine mv ?_);refine qf ?_)))
 ·refine qj ⟨_,rfl,?_⟩;exact ⟨i,e,rfl,.inl ⟨hc,hk⟩,S.drop⟩
 have hv:ValidL p.tabs:=hk.valid.1 (by omega);all_goals (repeat' (first|(refine qc 4 ?_;refine vl ?_;refine lB S rfl rfl ?_;refine vl ?_;refine lB S rfl rfl ?_;refine vl ?_)))
 (refine qx rfl rfl rfl rfl rfl ((qay S.wf v.rl p.rl (H.rol.ext w S.ext)).mono ?_);rintro _ h ⟨⟨rfl,hq⟩|⟨i2,e2,rfl,hq⟩,x⟩)<;>(replace S:=S.join0 x;clear x;refine mv ?_;refine vl ?_;refine vl ?_;refine mv ?_;refine mv ?_;refine qf ?_)
 rotate_left
 ·all_goals (repeat' (first|refine qg ?_|refine qh rfl ?_|refine qi ?_|(refine qc 5 ?_;refine mv ?_;(first|(refine cS ?_ ?_<;>intro hc))<;>(refine qf ?_))|(refine qc 6 ?_;(iterate 4 refine mv ?_);refine qf ?_)))
  ·refine qj ⟨_,rfl,?_⟩;exact ⟨i2,e2,rfl,.inr (.inl ⟨hv,hq⟩),S.drop⟩
  ·exact absurd (by omega) hq.1
 have ho:RO p.rl:=YC.1 hq;all_goals (repeat' (first|refine qg ?_|refine qh rfl ?_|refine qi ?_|(refine qc 5 ?_;refine mv ?_;(refine cF ?_)<;>(refine qf ?_))))
 (repeat (refine qg ?_));first|refine zB (σ:=Unit) (fun _ h'=>Hs h0 h' [.blk b v.cs 28]∧(p.cl.length=0∨p.cl.length=p.us.length)) (fun _=>[(1,.pointer (some ⟨b,0,none⟩)),(2,.int .i64 0),(3,.int .i64 0)]) ?_ ?_
 ·have hl2:v.rl.gs.length=p.us.length:=hl;all_goals (repeat' (first|refine qg ?_|refine qh rfl ?_|refine qi ?_|(refine qc 7 ?_;refine vl ?_;refine lB S rfl rfl ?_;refine zC S ?_;(first|(refine cS ?_ ?_<;>intro hc))<;>(refine mv ?_;(first|refine off ?_|(refine vl ?_));(first|refine off ?_|(refine lB S rfl rfl ?_));(first|refine off ?_|(refine zC S ?_));(first|refine off ?_|(refine vl ?_));(first|refine off ?_|(refine lB S rfl rfl ?_));(first|refine off ?_|(refine zC S ?_));(first|refine off ?_|(first|(refine cS ?_ ?_<;>intro hc)))<;>(refine vl ?_;refine qf ?_)))|(refine qc 8 ?_;refine mv ?_;refine mv ?_;refine qf ?_)))
  ·refine qj ⟨_,rfl,?_⟩;exact ⟨0,44,rfl,.inr (.inr ⟨hv,ho,.inl ⟨fun q=>by have:=q.1;omega,rfl,rfl⟩⟩),S.drop⟩
  ·exact ⟨(),⟨S,by omega⟩,(qy)⟩
  ·exact ⟨(),⟨S,by omega⟩,(qy)⟩
 clear S;rintro _ h ⟨S,h1⟩;all_goals (repeat' (first|refine qg ?_|refine qo ?_|(refine qc 9 ?_;refine vl ?_;refine lB S rfl rfl ?_;refine zC S ?_;refine mv ?_;refine qf ?_)))
 refine qH (σ:=Nat) (fun i h'=>Hs h0 h' [.blk b v.cs 28]∧i≤p.cl.length∧∀ j,j<i→0≤p.cl.getD j default∧p.cl.getD j default<64) (fun i=>p.cl.length - i) (fun i=>[(1,.pointer (some ⟨b,0,none⟩)),(2,.int .i64 0),(3,.int .i64 0),(47,v.vc.val),(48,.int .i64 p.cl.length),(49,.int .i64 i)]) 0 qy ?_ ?_
 ·exact ⟨S,zB0 _,fun j hj=>absurd hj (zB7 _)⟩
 clear S;rintro i h ⟨S,k1,k2⟩;all_goals (repeat' (first|refine qg ?_|refine qh rfl ?_|refine qi ?_|refine qB ?_|refine qo ?_|(refine qc 10 ?_;(first|(refine cS ?_ ?_<;>intro hc))<;>(refine qf ?_))|(refine qc 11 ?_;refine zW S ?_;refine zV S ?_;refine mv ?_;refine qf ?_)|(refine qc 12 ?_;refine mv ?_;(first|(refine cS ?_ ?_<;>intro hc))<;>(refine mv ?_;(first|refine off ?_|refine mv ?_);(first|refine off ?_|(first|(refine cS ?_ ?_<;>intro hc)))<;>(refine vl ?_;refine qf ?_)))|(refine qc 13 ?_;refine mv ?_;refine mv ?_;refine qf ?_)|(refine qc 14 ?_;refine ad ?_;refine mv ?_;refine qf ?_)))
 ·refine qj ⟨_,rfl,?_⟩;exact ⟨0,44,rfl,.inr (.inr ⟨hv,ho,.inl ⟨fun q=>by have:=(q.2 _ (qI (show i<p.cl.length by omega))).1;simp only [zA0] at hc;omega,rfl,rfl⟩⟩),S.drop⟩
 ·refine qj ⟨_,rfl,?_⟩;exact ⟨0,44,rfl,.inr (.inr ⟨hv,ho,.inl ⟨fun q=>by have:=(q.2 _ (qI (show i<p.cl.length by omega))).2;simp only [zA0] at hc;omega,rfl,rfl⟩⟩),S.drop⟩
 ·(try simp only [zA0] at *)
  refine ⟨i+1,?_,?_,qy⟩
  ·show p.cl.length - (i+1)<p.cl.length - i;omega
  ·exact ⟨S,by omega,jy k2 ⟨by omega,by omega⟩⟩
 have hco:(p.cl.length=0∨p.cl.length=p.us.length)∧∀ c∈p.cl,0≤c∧c<64:=⟨h1,fun c hc2=>by
  obtain ⟨j,hj,rfl⟩:=qK.1 hc2;exact k2 j (by omega)⟩
 have hs:=zJ p.tabs p.tabs.length;have htl:=H.tab.len;have hcv:JX p.tabs=sumT p.tabs p.tabs.length:=by unfold JX;rw [if_pos hv]
 have hl2:v.rl.gs.length=p.us.length:=hl;(repeat (refine qg ?_));refine Qp (id:=15) [(1,(0,1))] [some (b)] ?_;refine qp ?_;(first|(refine vl ?_<;>refine qf ⟨⟨by (first|exact True.intro),rfl⟩,?_⟩));refine qp ?_;(first|(refine lB S rfl rfl ?_<;>refine qf ⟨⟨by (first|exact Or.inr rfl),rfl⟩,?_⟩));refine qp ?_;(first|(refine zC S ?_<;>refine qf ⟨⟨by (first|exact True.intro),rfl⟩,?_⟩));refine qp ?_;(first|(refine vl ?_<;>refine qf ⟨⟨by (first|exact True.intro),rfl⟩,?_⟩));refine qp ?_;(first|(refine lB S rfl rfl ?_<;>refine qf ⟨⟨by (first|exact True.intro),rfl⟩,?_⟩));((refine qp ?_;first|refine qx rfl rfl rfl rfl rfl ((W9 S.wf v.vt.val p.tabs (H.tab.ext w S.ext)).mono ?_));rintro _ h ⟨rfl,x⟩)<;>((refine qf ⟨⟨True.intro,?_⟩,?_⟩;(focus ((show keepsX _ _ _ _ _;simp only [keepsX];(repeat' (first|exact True.intro|refine And.intro ?_ ?_));all_goals (intro hw;first|exact x.ext.old _ S.bB)))));replace S:=S.join0 x;clear x;refine qp ?_;(first|((refine cS ?_ ?_<;>intro hc)<;>refine qf ⟨⟨by (first|exact True.intro),rfl⟩,?_⟩))<;>(refine Qq ?_))
 all_goals (all_goals (repeat' (first|refine qg ?_|refine qh rfl ?_|refine qi ?_|(refine qc 16 ?_;refine mv ?_;refine mv ?_;refine qf ?_))))
 ·refine qj ⟨_,rfl,?_⟩;exact ⟨0,45,rfl,.inr (.inr ⟨hv,ho,.inr ⟨hco,.inl ⟨by rw [hcv] at hc;omega,rfl,rfl⟩⟩⟩),S.drop⟩
 ·all_goals (repeat' (first|(refine qc 17 ?_;refine mv ?_;refine mv ?_;refine qf ?_)))
  refine qj ⟨_,rfl,?_⟩;exact ⟨0,0,rfl,.inr (.inr ⟨hv,ho,.inr ⟨hco,.inr ⟨by rw [hcv] at hc;omega,rfl,rfl⟩⟩⟩),S.drop⟩
theorem XF {h0:AH} (w:WfH h0) (v:PbV) (p:Pb) (H:PbOk h0 v p):Fn Tryz.prog Xh 89 [v.val] h0 (fun u h'=>∃ i e,u = .tuple #[.int .i64 i,.int .i64 e]∧CkP p i e∧Hs h0 h' []):=by
 have S:=Hs.start w;have hr:=H.ru;have hlr:=H.lr;unfold PbV.val;refine qJ (by first|rfl) Tryz.func89 rfl rfl ?_;all_goals (repeat' (first|refine qg ?_|(refine qc 0 ?_;(refine bx S ?_;clear S;intro b h S);refine mv ?_;refine mv ?_;refine qf ?_)|(refine qc 1 ?_;refine lB S rfl rfl ?_)))
 obtain ⟨bp,hnm⟩:∃ x,x=b:=⟨_,rfl⟩;subst hnm;(refine qx rfl rfl rfl rfl rfl ((qch S.wf v p (H.ext w S.ext)).mono ?_);rintro _ h ⟨i,e,rfl,hk,x⟩)<;>(replace S:=S.join0 x;clear x;refine mv ?_;refine vl ?_;refine vl ?_;refine mv ?_;refine mv ?_;refine qf ?_)
 all_goals (repeat' (first|refine qg ?_|refine qh rfl ?_|refine qi ?_|(refine qc 2 ?_;refine mv ?_;(first|(refine cS ?_ ?_<;>intro hc))<;>(refine qf ?_))|(refine qc 3 ?_;(iterate 4 refine mv ?_);refine qf ?_)))
 ·refine qj ⟨_,rfl,?_⟩;exact ⟨i,e,rfl,.inl ⟨hc,hk⟩,S.drop⟩
 have he:e=0:=by omega
 subst he;obtain ⟨hb,rfl⟩:=hk.bo;all_goals (repeat' (first|(refine qc 4 ?_;skip)))
 (refine qx rfl rfl rfl rfl rfl ((qbL S.wf).mono ?_);rintro _ h ⟨m,rfl,x⟩)<;>(replace S:=S.join1 x;clear x;refine mv ?_;refine qf ?_)
 all_goals (repeat' (first|refine qg ?_|refine qo ?_|(refine qc 5 ?_;refine vl ?_;refine lB S rfl rfl ?_;refine zC S ?_;refine mv ?_;refine qf ?_)))
 refine qH (σ:=Nat) (fun i h'=>Hs h0 h' [mkR m kEs 18,.blk bp v.cs 28]∧i≤p.ru.length∧i≤64∧∀ j,j<i→yE p (p.ru.getD j default)=0) (fun i=>p.ru.length - i) (fun i=>[(1,.pointer (some ⟨bp,0,none⟩)),(2,.int .i64 0),(3,.int .i64 0),(6,.map (some m)),(21,v.vr.val),(22,.int .i64 p.ru.length),(23,.int .i64 i)]) 0 qy ?_ ?_
 ·exact ⟨S,zB0 _,zB0 _,fun j hj=>absurd hj (zB7 _)⟩
 clear S;rintro i h ⟨S,k1,k3,k2⟩;all_goals (repeat' (first|refine qg ?_|refine qh rfl ?_|refine qi ?_|refine qB ?_|refine qo ?_|(refine qc 6 ?_;(first|(refine cS ?_ ?_<;>intro hc))<;>(refine qf ?_))|(refine qc 7 ?_;refine mv ?_;refine zW S ?_;refine zV S ?_;(refine al S ?_;clear S;intro b h S);refine mv ?_;(first|(refine sB S rfl rfl ?_;clear S;intro h S));refine qf ?_)|(refine qc 8 ?_;refine mv ?_;refine vl ?_;refine lB S rfl rfl ?_)))
 ·(try simp only [zA0] at *)
  have hi:i<p.ru.length:=by omega
  obtain ⟨r,hre⟩:∃ r,p.ru.getD i default=r:=⟨_,rfl⟩
  rw [hre] at S ⊢;replace S:Hs h0 h [.blk b (JW r) 125,mkR m kEs 18,.blk bp v.cs 28]:=S;refine lkK (v:=WL r.k) (z:=kdV [] ⟨0,false,0,false,0,false⟩ .nilFunc) S (.there .here) (qfh r.k) (kdv r.k) ?_;((refine lB S rfl rfl ?_);refine lB S rfl rfl ?_);(refine qx rfl rfl rfl rfl rfl ((pq S.wf v p (H.ext w S.ext) hb.tabs r).mono ?_);rintro _ h ⟨rfl,x⟩)<;>(replace S:=S.join0 x;clear x;refine mv ?_;refine qf ?_)
  all_goals (repeat' (first|refine qg ?_|refine qh rfl ?_|refine qi ?_|(refine qc 9 ?_;refine mv ?_;(first|(refine cS ?_ ?_<;>intro hc))<;>(refine qf ?_))|(refine qc 10 ?_;(iterate 4 refine mv ?_);refine qf ?_)|(refine qc 11 ?_;refine mv ?_;(first|(refine cS ?_ ?_<;>intro hc))<;>(refine qf ?_))|(refine qc 12 ?_;(iterate 3 refine mv ?_);refine qf ?_)))
  ·refine qj ⟨_,rfl,?_⟩;exact ⟨i,_,rfl,.inr ⟨hb,.inl ⟨i,hi,rfl,k3,k2,.inl ⟨by rw [hre];exact hc,by rw [hre]⟩⟩⟩,S.drop⟩
  ·refine qj ⟨_,rfl,?_⟩;exact ⟨i,7,rfl,.inr ⟨hb,.inl ⟨i,hi,rfl,k3,k2,.inr ⟨by rw [hre];omega,by omega,rfl⟩⟩⟩,S.drop⟩
  ·all_goals (repeat' (first|(refine qc 13 ?_;refine ad ?_;refine mv ?_;refine qf ?_)))
   refine ⟨i+1,?_,?_,qy⟩
   ·show p.ru.length - (i+1)<p.ru.length - i;omega
   ·exact ⟨S.tail,by omega,by omega,jy k2 (by rw [hre];omega)⟩
 ·all_goals (repeat' (first|(refine qc 14 ?_;refine mv ?_;refine mv ?_;refine qf ?_)))
  refine qj ⟨_,rfl,?_⟩;exact ⟨0,0,rfl,.inr ⟨hb,.inr ⟨by omega,fun j hj=>k2 j (by omega),rfl,rfl⟩⟩,S.drop⟩
end Go.Proofs.Xx
