/-
  The check of a hall,the program's and the reference's.
-/
import Derived.Test.YtnopenpheaihmaaGreatDoorM8
import Derived.Test.YtnopenpheaihmaaGreatDoorM4
import Derived.Test.YtnopenpheaihmaaGreatDoorM6
namespace Go.Proofs.Xx
open Go Go.Proofs
set_option linter.unusedSimpArgs false
set_option linter.unusedVariables false
set_option maxRecDepth 100000
abbrev tb (l:List Tab) (i:Nat):Tab:=l.getD i default
def qar (l:List Tab) (k:Nat):Prop:=∃ j,j<k∧(tb l j).name=(tb l k).name
def Jv (l:List Tab) (k:Nat):Prop:=chk (tb l k)=0∧¬ qar l k
def ChkAll (l:List Tab) (i e:Int):Prop :=
 (16<l.length∧i=0∧e=7)∨(l.length≤16∧((∃ k:Nat,k<l.length∧i=k∧(∀ j,j<k→Jv l j)∧((chk (tb l k)≠0∧e=chk (tb l k))∨(chk (tb l k)=0∧qar l k∧e=5)))∨((∀ j,j<l.length→Jv l j)∧i=0∧e=0)))
structure HallR (h:AH) (v:Value) (l:List Tab):Prop where
 rd:RdL h v 7 eT l
 tab:∀ i,i<l.length→TabR h (tb l i)
 len:l.length≤1000
 cap:XR v
theorem TabR.ext {h h':AH} {t:Tab} (r:TabR h t) (w:WfH h) (x:Ext h h'):TabR h' t:=⟨r.1.ext w x,r.2⟩
theorem HallR.ext {h h':AH} {v:Value} {l:List Tab} (r:HallR h v l) (w:WfH h) (x:Ext h h'):HallR h' v l:=⟨r.rd.ext w x,fun i hi=>(r.tab i hi).ext w x,r.len,r.cap⟩
def ValidL (l:List Tab):Prop:=l.length≤16∧∀ j,j<l.length→Jv l j
theorem ChkAll.valid {l:List Tab} {i e:Int} (a:ChkAll l i e):e=0↔ValidL l:=by
 rcases a with ⟨h1,h2,h3⟩|⟨h1,⟨k,hk,h2,h3,⟨h4,h5⟩|⟨h4,h5,h6⟩⟩|⟨h2,h3,h4⟩⟩
 ·exact ⟨fun q=>by omega,fun q=>by have:=q.1;omega⟩
 ·exact ⟨fun q=>absurd (h5 ▸ q) h4,fun q=>absurd (q.2 k hk).1 h4⟩
 ·exact ⟨fun q=>by omega,fun q=>absurd h5 (q.2 k hk).2⟩
 ·exact ⟨fun _=>⟨h1,h2⟩,fun _=>h4⟩
theorem ChkAll.uniq {l:List Tab} {i e i' e':Int} (a:ChkAll l i e) (b:ChkAll l i' e'):i=i'∧e=e':=by
 have key:∀ {k k':Nat},(∀ j,j<k→Jv l j)→¬ Jv l k'→k≤k':=fun g n=>Nat.le_of_not_lt fun q=>n (g _ q)
 have bad:∀ {k:Nat} {e:Int},((chk (tb l k)≠0∧e=chk (tb l k))∨(chk (tb l k)=0∧qar l k∧e=5))→¬ Jv l k:=fun q g=>q.elim (fun q=>q.1 g.1) (fun q=>g.2 q.2.1)
 rcases a with ⟨h1,h2,h3⟩|⟨h1,⟨k,hk,h2,h3,h4⟩|⟨h2,h3,h4⟩⟩<;>rcases b with ⟨g1,g2,g3⟩|⟨g1,⟨k',hk',g2,g3,g4⟩|⟨g2,g3,g4⟩⟩
 ·exact ⟨by omega,by omega⟩
 ·omega
 ·omega
 ·omega
 ·have e1:=key h3 (bad g4)
  have e2:=key g3 (bad h4)
  have:k=k':=by omega
  subst this
  refine ⟨by omega,?_⟩
  rcases h4 with ⟨h4,h5⟩|⟨h4,h5,h6⟩<;>rcases g4 with ⟨g4,g5⟩|⟨g4,g5,g6⟩
  ·omega
  ·exact absurd g4 h4
  ·exact absurd h4 g4
  ·omega
 ·exact absurd (g2 k hk) (bad h4)
 ·omega
 ·exact absurd (h2 k' hk') (bad g4)
 ·exact ⟨by omega,by omega⟩
def sumT (l:List Tab):Nat→Int
 | 0=>0
 | k+1=>sumT l k+qC (tb l k)
theorem pG {h0:AH} (w:WfH h0) (t u:Tab) (b:Nat) (hb:h0.get b=some (.cells (eT u) 25 none false)):Fn Tryz.prog Xh 113 [jg t,.pointer (some ⟨b,0,none⟩)] h0 (fun v h'=>BoolIs v (t.name=u.name)∧Hs h0 h' []):=by
 have S:=Hs.start w
 refine qF rfl Tryz.func113 rfl rfl ?_
 all_goals (repeat' (first|refine qi ?_|(refine qf 0 ?_;(refine bx S ?_;clear S;intro b h S);refine mv ?_;refine qg ?_)|(refine qf 1 ?_;refine vl ?_;refine lB S rfl rfl ?_;refine vl ?_;refine lH S ?_;(refine tS ?_ ?_<;>intro hc)<;>(refine mv ?_;refine qg ?_))))
 all_goals (refine qx ⟨_,rfl,?_⟩)
 all_goals (refine ⟨?_,S.drop⟩;unfold BoolIs)
 ·exact .inl ⟨rfl,hc⟩
 ·exact .inr ⟨rfl,hc⟩
theorem WL {h0:AH} (w:WfH h0) (v:Value) (l:List Tab) (H:HallR h0 v l):Fn Tryz.prog Xh 55 [v] h0 (fun r h'=>∃ i e,r = .tuple #[.int .i64 i,.int .i64 e]∧ChkAll l i e∧Hs h0 h' []):=by
 have S:=Hs.start w
 have hl:=H.len
 have hr:=H.rd
 refine qF rfl Tryz.func55 rfl rfl ?_
 all_goals (repeat' (first|refine qi ?_|refine ql rfl ?_|refine qo ?_|refine qm ?_|(refine qf 0 ?_;refine mv ?_;refine mv ?_;refine qg ?_)|(refine qf 1 ?_;refine mv ?_;refine QD S ?_;(first|(refine cS ?_ ?_<;>intro hc))<;>(refine qg ?_))|(refine qf 2 ?_;refine mv ?_;refine mv ?_;refine qg ?_)|(refine qf 3 ?_;refine mv ?_;refine QD S ?_;refine mv ?_;refine qg ?_)))
 ·refine qx ⟨_,rfl,?_⟩
  exact ⟨0,7,rfl,.inl ⟨by omega,rfl,rfl⟩,S⟩
 ·refine qE (σ:=Nat) (fun i h'=>Hs h0 h' []∧i≤l.length∧∀ j,j<i→Jv l j) (fun i=>l.length - i) (fun i=>[(0,v),(10,v),(11,.int .i64 l.length),(12,.int .i64 i)]) 0 (by repeat (first|exact Ks.le_nil _|refine Ks.qh rfl ?_)) ?_ ?_
  ·exact ⟨S,Nat.zero_le _,fun j hj=>absurd hj (Nat.not_lt_zero _)⟩
  clear S
  rintro i h ⟨S,h1,h2⟩
  all_goals (repeat' (first|refine qi ?_|refine ql rfl ?_|refine qo ?_|refine qA ?_|refine qm ?_|(refine qf 4 ?_;(first|(refine cS ?_ ?_<;>intro hc))<;>(refine qg ?_))|(refine qf 5 ?_;refine mv ?_;refine jv S ?_;refine zS S ?_;(refine al S ?_;clear S;intro b h S);refine mv ?_;(first|(refine sB S rfl rfl ?_;clear S;intro h S));refine qg ?_)|(refine qf 6 ?_;refine lB S rfl rfl ?_)|(refine qf 12 ?_;refine mv ?_;refine mv ?_;refine qg ?_)))
  ·(try simp only [Int.toNat_natCast] at *)
   have hi:i<l.length:=by omega
   (refine qw rfl rfl rfl rfl rfl ((XN S.wf (tb l i) ((H.tab i hi).ext w S.ext)).mono ?_);rintro _ h ⟨rfl,x⟩)<;>(replace S:=S.qy x;clear x;refine mv ?_;refine qg ?_)
   all_goals (repeat' (first|refine qi ?_|refine ql rfl ?_|refine qo ?_|(refine qf 7 ?_;refine mv ?_;(first|(refine cS ?_ ?_<;>intro hc))<;>(refine qg ?_))|(refine qf 8 ?_;(iterate 4 refine mv ?_);refine qg ?_)|(refine qf 9 ?_;refine mv ?_;refine mv ?_)))
   ·refine qx ⟨_,rfl,?_⟩
    exact ⟨i,_,rfl,.inr ⟨by omega,.inl ⟨i,hi,rfl,h2,.inl ⟨by simpa using hc,rfl⟩⟩⟩,S.drop⟩
   ·refine su 0 i (hr.ext w S.ext) H.cap ?_;intro vs hrs hcs;(refine vl ?_)
    have gb:=S.gB (b:=b)
    have hlen:((l.drop 0).take (i - 0)).length=i:=by simp;omega
    have hget:∀ k,k<i→((l.drop 0).take (i - 0)).getD k default=tb l k:=fun k hk=>by
     unfold tb
     simp only [List.drop_zero,Nat.sub_zero,List.getD_eq_getElem?_getD,List.getElem?_take,if_pos hk]
    have hf:∀ k h',k<((l.drop 0).take (i - 0)).length→Hs h h' []→Fn Tryz.prog Xh 113 (jg (((l.drop 0).take (i - 0)).getD k default) :: [.pointer (some ⟨b,0,none⟩)]) h' (fun v h''=>BoolIs v ((tb l k).name=(tb l i).name)∧Hs h' h'' []):=fun k h' hk x=>by
     rw [hget k (by omega)]
     exact pG x.wf (tb l k) (tb l i) b (x.ext.get S.wf gb)
    (refine qw rfl rfl rfl rfl rfl ((yT S.wf vs _ 113 [.pointer (some ⟨b,0,none⟩)] (fun k=>(tb l k).name=(tb l i).name) hrs (by omega) hf).mono ?_);rintro _ h ⟨⟨rfl,hq⟩|⟨rfl,hq⟩,x⟩)<;>(replace S:=S.qy x;clear x;refine qg ?_)
    all_goals (repeat' (first|refine qi ?_|refine ql rfl ?_|refine qo ?_|(refine qf 10 ?_;(iterate 3 refine mv ?_);refine qg ?_)|(refine qf 11 ?_;refine ad ?_;refine mv ?_;refine qg ?_)))
    ·refine qx ⟨_,rfl,?_⟩
     obtain ⟨j,hj,hq⟩:=hq
     exact ⟨i,5,rfl,.inr ⟨by omega,.inl ⟨i,hi,rfl,h2,.inr ⟨by simpa using hc,⟨j,by omega,hq⟩,rfl⟩⟩⟩,S.drop⟩
    ·refine ⟨i+1,?_,?_,(by repeat (first|exact Ks.le_nil _|refine Ks.qh rfl ?_))⟩
     ·show l.length - (i+1)<l.length - i;omega
     ·refine ⟨S.drop,by omega,fun j hj=>?_⟩
      rcases Nat.lt_or_ge j i with q|q
      ·exact h2 j q
      ·obtain rfl:j=i:=by omega
       exact ⟨by simpa using hc,fun ⟨k,hk,he⟩=>hq ⟨k,by omega,he⟩⟩
  ·refine qx ⟨_,rfl,?_⟩
   exact ⟨0,0,rfl,.inr ⟨by omega,.inr ⟨fun j hj=>h2 j (by omega),rfl,rfl⟩⟩,S⟩
theorem XC {h0:AH} (w:WfH h0) (v:Value) (l:List Tab) (H:HallR h0 v l):Fn Tryz.prog Xh 74 [v] h0 (fun r h'=>∃ i e,r = .tuple #[.int .i64 i,.int .i64 e]∧ChkAll l i e∧Hs h0 h' []):=by
 have S:=Hs.start w
 have hl:=H.len
 have hr:=H.rd
 refine qF rfl Tryz.func74 rfl rfl ?_
 all_goals (repeat' (first|refine qi ?_|refine ql rfl ?_|refine qo ?_|refine qm ?_|(refine qf 0 ?_;refine mv ?_;refine mv ?_;refine qg ?_)|(refine qf 1 ?_;refine mv ?_;refine QD S ?_;(first|(refine cS ?_ ?_<;>intro hc))<;>(refine qg ?_))|(refine qf 2 ?_;refine mv ?_;refine mv ?_;refine qg ?_)|(refine qf 3 ?_;refine mv ?_;refine qg ?_)))
 ·refine qx ⟨_,rfl,?_⟩
  exact ⟨0,7,rfl,.inl ⟨by omega,rfl,rfl⟩,S⟩
 ·refine qE (σ:=Nat) (fun i h'=>Hs h0 h' []∧i≤l.length∧∀ j,j<i→Jv l j) (fun i=>l.length - i) (fun i=>[(0,v),(4,.int .i64 i)]) 0 (by repeat (first|exact Ks.le_nil _|refine Ks.qh rfl ?_)) ?_ ?_
  ·exact ⟨S,Nat.zero_le _,fun j hj=>absurd hj (Nat.not_lt_zero _)⟩
  clear S
  rintro i h ⟨S,h1,h2⟩
  all_goals (repeat' (first|refine qi ?_|refine ql rfl ?_|refine qo ?_|refine qA ?_|refine qm ?_|(refine qf 4 ?_;refine mv ?_;refine mv ?_;refine QD S ?_;(first|(refine cS ?_ ?_<;>intro hc))<;>(refine qg ?_))|(refine qf 6 ?_;refine mv ?_;refine mv ?_;refine jv S ?_;refine zS S ?_)|(refine qf 14 ?_;refine mv ?_;refine mv ?_;refine qg ?_)))
  ·(try simp only [Int.toNat_natCast] at *)
   have hi:i<l.length:=by omega
   (refine qw rfl rfl rfl rfl rfl ((XB S.wf (tb l i) ((H.tab i hi).ext w S.ext)).mono ?_);rintro _ h ⟨rfl,x⟩)<;>(replace S:=S.qy x;clear x;refine mv ?_;refine qg ?_)
   all_goals (repeat' (first|refine qi ?_|refine ql rfl ?_|refine qo ?_|refine qm ?_|(refine qf 7 ?_;refine mv ?_;(first|(refine cS ?_ ?_<;>intro hc))<;>(refine qg ?_))|(refine qf 8 ?_;(iterate 4 refine mv ?_);refine qg ?_)|(refine qf 9 ?_;refine mv ?_;refine qg ?_)))
   ·refine qx ⟨_,rfl,?_⟩
    exact ⟨i,_,rfl,.inr ⟨by omega,.inl ⟨i,hi,rfl,h2,.inl ⟨by simpa using hc,rfl⟩⟩⟩,S.drop⟩
   ·have hc0:chk (tb l i)=0:=by simpa using hc
    refine qE (σ:=Nat) (fun k h'=>Hs h0 h' []∧k≤i∧∀ j,j<k→¬ (tb l j).name=(tb l i).name) (fun k=>i - k) (fun k=>[(0,v),(4,.int .i64 i),(6,.int .i64 k)]) 0 (by repeat (first|exact Ks.le_nil _|refine Ks.qh rfl ?_)) ?_ ?_
    ·exact ⟨S,Nat.zero_le _,fun j hj=>absurd hj (Nat.not_lt_zero _)⟩
    clear S
    rintro k h ⟨S,k1,k2⟩
    all_goals (repeat' (first|refine qi ?_|refine ql rfl ?_|refine qo ?_|refine qA ?_|refine qm ?_|(refine qf 5 ?_;refine mv ?_;refine ad ?_;refine mv ?_;refine qg ?_)|(refine qf 10 ?_;refine mv ?_;refine mv ?_;(first|(refine cS ?_ ?_<;>intro hc))<;>(refine qg ?_))|(refine qf 11 ?_;refine mv ?_;refine ad ?_;refine mv ?_;refine qg ?_)|(refine qO 12 ?_;refine mv ?_;refine mv ?_;refine jv S ?_;refine fB S ?_;refine zS S ?_;refine mv ?_;refine mv ?_;refine jv S ?_;refine fB S ?_;refine zS S ?_;(refine tS ?_ ?_<;>intro hc)<;>(refine qg ?_))|(refine qf 13 ?_;(iterate 3 refine mv ?_);refine qg ?_)))
    ·(try simp only [Int.toNat_natCast] at *)
     refine qx ⟨_,rfl,?_⟩
     exact ⟨i,5,rfl,.inr ⟨by omega,.inl ⟨i,hi,rfl,h2,.inr ⟨hc0,⟨k,by omega,by assumption⟩,rfl⟩⟩⟩,S⟩
    ·(try simp only [Int.toNat_natCast] at *)
     refine ⟨k+1,?_,?_,(by repeat (first|exact Ks.le_nil _|refine Ks.qh rfl ?_))⟩
     ·show i - (k+1)<i - k;omega
     ·refine ⟨S,by omega,fun j hj=>?_⟩
      rcases Nat.lt_or_ge j k with q|q
      ·exact k2 j q
      ·obtain rfl:j=k:=by omega
       assumption
    ·refine ⟨i+1,?_,?_,(by repeat (first|exact Ks.le_nil _|refine Ks.qh rfl ?_))⟩
     ·show l.length - (i+1)<l.length - i;omega
     ·refine ⟨S,by omega,fun j hj=>?_⟩
      rcases Nat.lt_or_ge j i with q|q
      ·exact h2 j q
      ·obtain rfl:j=i:=by omega
       exact ⟨hc0,fun ⟨m,hm,he⟩=>k2 m (by omega) he⟩
  ·refine qx ⟨_,rfl,?_⟩
   exact ⟨0,0,rfl,.inr ⟨by omega,.inr ⟨fun j hj=>h2 j (by omega),rfl,rfl⟩⟩,S⟩
theorem Zj {h0:AH} (w:WfH h0) (v:Value) (l:List Tab) (H:HallR h0 v l):Fn Tryz.prog Xh 84 [v] h0 (fun r h'=>BoolIs r (ValidL l)∧Hs h0 h' []):=by
 have S:=Hs.start w
 refine qF rfl Tryz.func84 rfl rfl ?_
 all_goals (repeat' (first|refine qi ?_|(refine qf 0 ?_;refine mv ?_;refine qg ?_)|(refine qf 1 ?_;refine mv ?_)))
 (refine qw rfl rfl rfl rfl rfl ((WL S.wf v l H).mono ?_);rintro _ h ⟨i,e,rfl,hk,x⟩)<;>(replace S:=S.qy x;clear x;refine mv ?_;refine vl ?_;refine vl ?_;refine mv ?_;refine mv ?_;refine qg ?_)
 all_goals (repeat' (first|refine qi ?_|(refine qf 2 ?_;refine mv ?_;(first|(refine cS ?_ ?_<;>intro hc))<;>(refine mv ?_;refine qg ?_))))
 all_goals (refine qx ⟨_,rfl,?_⟩)
 ·exact ⟨.inl ⟨rfl,hk.valid.1 hc⟩,S⟩
 ·exact ⟨.inr ⟨rfl,fun q=>hc (hk.valid.2 q)⟩,S⟩
theorem Jj {h0:AH} (w:WfH h0) (v:Value) (l:List Tab) (H:HallR h0 v l):Fn Tryz.prog Xh 73 [v] h0 (fun r h'=>BoolIs r (ValidL l)∧Hs h0 h' []):=by
 have S:=Hs.start w
 refine qF rfl Tryz.func73 rfl rfl ?_
 all_goals (repeat' (first|refine qi ?_|(refine qf 0 ?_;refine mv ?_;refine qg ?_)|(refine qf 1 ?_;refine mv ?_)))
 (refine qw rfl rfl rfl rfl rfl ((XC S.wf v l H).mono ?_);rintro _ h ⟨i,e,rfl,hk,x⟩)<;>(replace S:=S.qy x;clear x;refine mv ?_;refine vl ?_;refine vl ?_;refine mv ?_;refine mv ?_;refine qg ?_)
 all_goals (repeat' (first|refine qi ?_|(refine qf 2 ?_;refine mv ?_;(first|(refine cS ?_ ?_<;>intro hc))<;>(refine mv ?_;refine qg ?_))))
 all_goals (refine qx ⟨_,rfl,?_⟩)
 ·exact ⟨.inl ⟨rfl,hk.valid.1 hc⟩,S⟩
 ·exact ⟨.inr ⟨rfl,fun q=>hc (hk.valid.2 q)⟩,S⟩
def Kw (l:List Int):Bool:=decide ((∀ x∈l,0≤x∧x<l.length)∧l.Nodup)
def qh6 (l:List Int) (i:Nat):List Value:=(List.range l.length).map fun (k:Nat)=>Value.bool (decide ((k:Int)∈l.take i))
theorem gz {a b:List Int} {i:Nat} (ha:i<a.length) (hb:i<b.length) (h:a.take i=b.take i) (hx:a[i]=b[i]):a.take (i+1)=b.take (i+1):=by
 rw [List.take_succ_eq_append_getElem ha,List.take_succ_eq_append_getElem hb,h,hx]
theorem qbb {h:AH} {v u:Value} {a b:List Int} (ra:RdI h v a) (rb:RdI h u b) (hl:a.length<2^30) (hl2:b.length<2^30) :
 Fn Tryz.prog Xh 59 [v,u] h (fun x h'=>x = .bool (decide (a=b))∧h'=h):=by
 refine qF rfl Tryz.func59 rfl rfl ?_
 refine qi (qf _ (qY rfl rfl rfl (qg ?_)))
 refine qi (qi (qf _ ?_))
 refine qY rfl rfl rfl ?_
 refine vk rfl rfl rfl (ra.len GM) rfl ?_
 refine qY rfl rfl rfl ?_
 refine vk rfl rfl rfl (rb.len GM) rfl ?_
 by_cases hlen:a.length=b.length
 ·refine je rfl rfl rfl rfl (xe (v:=false) (decide_eq_true (by omega))) rfl (qg ?_)
  refine V7 rfl (qo ?_)
  refine qi (qi (qf _ ?_))
  refine qY rfl rfl rfl ?_
  refine vk rfl rfl rfl (ra.len GM) rfl ?_
  refine qY rfl rfl rfl (qg ?_)
  refine GG ?_
  refine qeC (fun m L h'=>h'=h∧∃ i:Nat,m+i=a.length∧a.take i=b.take i∧L=[(0,v),(1,u),(12,.int .i64 a.length),(13,.int .i64 i)]) ?_ a.length
   ⟨rfl,0,rfl,by simp,rfl⟩ (by repeat (first|exact Ks.le_nil _|refine Ks.qh rfl ?_))
  rintro m L h' ⟨rfl,i,him,hi,rfl⟩
  refine qi (qf _ (qY rfl rfl rfl (qg ?_)))
  refine qi ?_
  refine qca rfl (fun hv=>?_) (fun hv=>?_)
  ·have hv:=of_decide_eq_true hv
   have hia:i<a.length:=by omega
   have hib:i<b.length:=by omega
   refine qo ?_
   refine qi (GG (qi (qf _ (qY rfl rfl rfl (qY rfl rfl rfl (qg ?_))))))
   refine qi (qO _ ?_)
   obtain ⟨p,hp1,hp2⟩:=ra.at1 GM sz3 qhl (ik:=.i64) (qak (List.getElem?_eq_getElem hia))
   obtain ⟨q,hq1,hq2⟩:=rb.at1 GM sz3 qhl (ik:=.i64) (qak (List.getElem?_eq_getElem hib))
   refine qY rfl rfl rfl ?_
   refine qY rfl rfl rfl ?_
   refine vz rfl rfl rfl rfl hp1 rfl ?_
   refine Vx rfl rfl rfl hp2 rfl ?_
   refine qY rfl rfl rfl ?_
   refine qY rfl rfl rfl ?_
   refine vz rfl rfl rfl rfl hq1 rfl ?_
   refine Vx rfl rfl rfl hq2 rfl ?_
   by_cases hx:a[i]=b[i]
   ·refine je rfl rfl rfl rfl (xe (v:=false) (decide_eq_true hx)) rfl (qg ?_)
    refine V7 rfl (qo ?_)
    refine qf _ ?_
    refine je rfl rfl rfl rfl (qb4 (c:=((i+1:Nat):Int)) (by omega) (by omega) (by omega)) rfl ?_
    refine qY rfl rfl rfl (qg ?_)
    refine ⟨m - 1,_,by omega,⟨rfl,i+1,by omega,gz hia hib hi hx,rfl⟩,?_⟩
    repeat (first|exact Ks.le_nil _|refine Ks.qh rfl ?_)
   ·refine je rfl rfl rfl rfl (xe (v:=true) (decide_eq_false hx)) rfl (qg ?_)
    refine V7 rfl ?_
    refine qi (qf _ (qY rfl rfl rfl (qg ?_)))
    refine qx ⟨_,rfl,?_,rfl⟩
    have:decide (a=b)=false:=by
     rw [decide_eq_false_iff_not]
     intro q;subst q;exact hx rfl
    rw [this];rfl
  ·have hv:=of_decide_eq_false hv
   refine qA ?_
   show K Tryz.prog Xh _ _ _ _ _ _
   refine qi (qf _ (qY rfl rfl rfl (qg ?_)))
   refine qx ⟨_,rfl,?_,rfl⟩
   have:decide (a=b)=true:=by
    rw [decide_eq_true_iff]
    rw [List.take_of_length_le (by omega),List.take_of_length_le (by omega)] at hi
    exact hi
   rw [this];rfl
 ·refine je rfl rfl rfl rfl (xe (v:=true) (decide_eq_false (by omega))) rfl (qg ?_)
  refine V7 rfl ?_
  refine qi (qf _ (qY rfl rfl rfl (qg ?_)))
  refine qx ⟨_,rfl,?_,rfl⟩
  have:decide (a=b)=false:=by
   rw [decide_eq_false_iff_not]
   intro q;subst q;exact hlen rfl
  rw [this];rfl
theorem qcH (l:List Int):l.flatMap eI=ints l:=by
 induction l with
 | nil=>rfl
 | cons x l ih=>simp [eI,ints,ih]
theorem RdL.toI {h:AH} {v:Value} {l:List Int} (r:RdL h v 1 eI l):RdI h v l:=by
 unfold RdL at r;rw [qcH] at r;exact r
theorem Jd {h0:AH} (w:WfH h0) (v u:Value) (a b:List Int) (ra:RdL h0 v 1 eI a) (rb:RdL h0 u 1 eI b) (ha:a.length≤1000000) (hb:b.length≤1000000):Fn Tryz.prog Xh 59 [v,u] h0 (fun r h'=>BoolIs r (a=b)∧Hs h0 h' []):=by
 refine (qbb ra.toI rb.toI (by omega) (by omega)).mono ?_
 rintro x h ⟨rfl,rfl⟩
 refine ⟨?_,Hs.start w⟩
 by_cases q:a=b
 ·exact .inl ⟨by simp [q],q⟩
 ·exact .inr ⟨by simp [q],q⟩
theorem Hs.jP {h0 h:AH} {rs:List Rs} {α:Type} {e:TypeId} {z:Nat} {enc:α→List Value} (S:Hs h0 h rs):Hs h0 h (.sl (.slice none 0 0) e z enc [] :: rs) :=
 S.grow (fp:=fun _=>False) (Ext.refl S.wf) (.inl ⟨rfl,rfl⟩) fun b hb=>hb.elim
theorem Hs.anyS {h0 h:AH} {rs:List Rs} {p:AH→Fp→Prop} (S:Hs h0 h rs) (k:∀ h',p h' fun _=>False):Hs h0 h (.any p :: rs) :=
 S.grow (fp:=fun _=>False) (Ext.refl S.wf) (fun h' _=>k h') fun b hb=>hb.elim
theorem Hs.Xb {h0 h:AH} {rs:List Rs} {p:AH→Fp→Prop} (S:Hs h0 h rs) (a:At rs (.any p)):∃ fp,p h fp:=by
 obtain ⟨fp,k,-⟩:=a.ok S.sep
 exact ⟨fp,k h fun _ _=>rfl⟩
theorem Hs.qcZ {h0 h:AH} {rs:List Rs} {v:Value} {α:Type} {e:TypeId} {z:Nat} {enc:α→List Value} {l:List α} (S:Hs h0 h rs) (a:At rs (.sl v e z enc l)):XR v:=by
 obtain ⟨fp,k,-⟩:=a.ok S.sep
 rcases k with ⟨rfl,-⟩|⟨b,o,cc,slk,rfl,-⟩
 ·exact Nat.le_refl _
 ·exact Nat.le_refl _
theorem yV {h0:AH} (w:WfH h0) (v:Value) (a:List Int) (r:RdL h0 v 1 eI a) (hl:a.length≤1000000):Fn Tryz.prog Xh 49 [v] h0 (fun u h'=>Hs h0 h' [.sl u 3 1 eI a]):=by
 have S:=Hs.start w
 have r0:=r
 rcases r with ⟨rfl,h1,-⟩|⟨b,o,cap,cc,e,s,q,rfl,h1,h2⟩
 ·obtain rfl:a=[]:=List.length_eq_zero_iff.1 h1
  refine qF rfl Tryz.func49 rfl rfl ?_
  all_goals (repeat' (first|refine qi ?_|refine ql rfl ?_|(refine qf 0 ?_;refine mv ?_;refine qg ?_)|(refine qf 1 ?_;refine mv ?_;refine vl ?_;refine qg ?_)|(refine qf 2 ?_;refine mv ?_;refine qg ?_)))
  refine qx ⟨_,rfl,?_⟩
  exact S.jP
 ·refine qF rfl Tryz.func49 rfl rfl ?_
  all_goals (repeat' (first|refine qi ?_|refine ql rfl ?_|refine qo ?_|(refine qf 0 ?_;refine mv ?_;refine qg ?_)|(refine qf 1 ?_;refine mv ?_;refine vl ?_;refine qg ?_)|(refine qf 3 ?_;skip)))
  refine nw 1 eI S ?_;clear S;intro u h S;(refine mv ?_)
  refine apd S rfl rfl (r0.ext w S.ext) ?_;clear S;intro v' h S;(refine mv ?_;refine qg ?_)
  all_goals (repeat' (fail))
  refine qx ⟨_,rfl,?_⟩
  exact S
def SameTab (t u:Tab):Prop:=t={ u with os:=t.os }
theorem jB (t u:Tab):SameTab t u↔t.name=u.name∧t.shape=u.shape∧t.A=u.A∧t.B=u.B∧t.X=u.X∧t.Y=u.Y∧t.opn=u.opn:=by
 cases t;cases u;unfold SameTab;simp
 intros;exact ⟨fun q=>⟨q.2.1,q.2.2,q.1⟩,fun q=>⟨q.2.2,q.1,q.2.1⟩⟩
theorem Y0 {h0:AH} (w:WfH h0) (t u:Tab) (rt:RdL h0 t.ov 1 eI t.opn) (ru:RdL h0 u.ov 1 eI u.opn) (ht:t.opn.length≤1000000) (hu:u.opn.length≤1000000):Fn Tryz.prog Xh 72 [jg t,jg u] h0 (fun r h'=>BoolIs r (SameTab t u)∧Hs h0 h' []):=by
 have S:=Hs.start w
 refine qF rfl Tryz.func72 rfl rfl ?_
 all_goals (repeat' (first|refine qi ?_|(refine qf 0 ?_;(refine bx S ?_;clear S;intro b h S);(refine bx S ?_;clear S;intro b h S);refine mv ?_;refine qg ?_)|(refine qf 1 ?_;refine vl ?_;refine lB S rfl rfl ?_;refine vl ?_;refine lB S rfl rfl ?_;(refine tS ?_ ?_<;>intro hc)<;>(refine mv ?_;(first|refine off ?_|(refine vl ?_));(first|refine off ?_|(refine lB S rfl rfl ?_));(first|refine off ?_|(refine vl ?_));(first|refine off ?_|(refine lB S rfl rfl ?_));(first|refine off ?_|(first|(refine cS ?_ ?_<;>intro hc)))<;>(refine vl ?_;refine mv ?_;(first|refine off ?_|(refine vl ?_));(first|refine off ?_|(refine lB S rfl rfl ?_));(first|refine off ?_|(refine vl ?_));(first|refine off ?_|(refine lB S rfl rfl ?_));(first|refine off ?_|(first|(refine cS ?_ ?_<;>intro hc)))<;>(refine vl ?_;refine mv ?_;(first|refine off ?_|(refine vl ?_));(first|refine off ?_|(refine lB S rfl rfl ?_));(first|refine off ?_|(refine vl ?_));(first|refine off ?_|(refine lB S rfl rfl ?_));(first|refine off ?_|(first|(refine cS ?_ ?_<;>intro hc)))<;>(refine vl ?_;refine mv ?_;(first|refine off ?_|(refine vl ?_));(first|refine off ?_|(refine lB S rfl rfl ?_));(first|refine off ?_|(refine vl ?_));(first|refine off ?_|(refine lB S rfl rfl ?_));(first|refine off ?_|(first|(refine cS ?_ ?_<;>intro hc)))<;>(refine vl ?_;refine mv ?_;(first|refine off ?_|(refine vl ?_));(first|refine off ?_|(refine lB S rfl rfl ?_));(first|refine off ?_|(refine vl ?_));(first|refine off ?_|(refine lB S rfl rfl ?_));(first|refine off ?_|(first|(refine cS ?_ ?_<;>intro hc)))<;>(refine vl ?_;refine mv ?_;(first|refine off ?_|(refine vl ?_));(first|refine off ?_|(refine lB S rfl rfl ?_));(first|refine off ?_|(refine vl ?_));(first|refine off ?_|(refine lB S rfl rfl ?_));(first|(refine off ?_;refine vl ?_;refine mv ?_;refine qg ?_)|skip))))))))))
 ·(refine qw rfl rfl rfl rfl rfl ((Jd S.wf t.ov u.ov t.opn u.opn (rt.ext w S.ext) (ru.ext w S.ext) ht hu).mono ?_);rintro _ h ⟨⟨rfl,hq⟩|⟨rfl,hq⟩,x⟩)<;>(replace S:=S.qy x;clear x;refine vl ?_;refine mv ?_;refine qg ?_)
  all_goals (repeat' (fail))
  all_goals (refine qx ⟨_,rfl,?_⟩)
  ·exact ⟨.inl ⟨rfl,(jB t u).2 ⟨by assumption,by assumption,by assumption,by assumption,by assumption,by assumption,hq⟩⟩,S.drop⟩
  ·exact ⟨.inr ⟨rfl,fun q=>hq ((jB t u).1 q).2.2.2.2.2.2⟩,S.drop⟩
 all_goals (refine qx ⟨_,rfl,?_⟩)
 all_goals (refine ⟨.inr ⟨rfl,fun q=>?_⟩,S.drop⟩;have q:=(jB t u).1 q;obtain ⟨q1,q2,q3,q4,q5,q6,-⟩:=q;first|exact hc q1|exact hc q2|exact hc q3|exact hc q4|exact hc q5|exact hc q6)
def SameAll (l m:List Tab):Prop:=l.length=m.length∧∀ i,i<l.length→SameTab (tb l i) (tb m i)
theorem KY {h0:AH} (w:WfH h0) (v u:Value) (l m:List Tab) (hv:RdL h0 v 7 eT l) (hu:RdL h0 u 7 eT m) (hl:∀ i,i<l.length→TabR h0 (tb l i)) (hm:∀ i,i<m.length→TabR h0 (tb m i)) (hl2:l.length≤1000) (hm2:m.length≤1000) :
 Fn Tryz.prog Xh 119 [v,u,.func (.func 72) #[] #[]] h0 (fun r h'=>BoolIs r (SameAll l m)∧Hs h0 h' []):=by
 have S:=Hs.start w
 refine qF rfl Tryz.func119 rfl rfl ?_
 all_goals (repeat' (first|refine qi ?_|refine ql rfl ?_|refine qo ?_|refine qm ?_|(refine qf 0 ?_;refine mv ?_;refine qg ?_)|(refine qf 1 ?_;refine mv ?_;refine QD S ?_;refine mv ?_;refine QD S ?_;(first|(refine cS ?_ ?_<;>intro hc))<;>(refine qg ?_))|(refine qf 2 ?_;refine mv ?_;refine qg ?_)|(refine qf 3 ?_;refine mv ?_;refine QD S ?_;refine mv ?_;refine qg ?_)))
 ·refine qx ⟨_,rfl,?_⟩
  exact ⟨.inr ⟨rfl,fun q=>hc (by rw [q.1])⟩,S⟩
 ·refine qE (σ:=Nat) (fun i h'=>Hs h0 h' []∧i≤l.length∧∀ j,j<i→SameTab (tb l j) (tb m j)) (fun i=>l.length - i) (fun i=>[(1,u),(2,.func (.func 72) #[] #[]),(15,v),(16,.int .i64 l.length),(17,.int .i64 i)]) 0 (by repeat (first|exact Ks.le_nil _|refine Ks.qh rfl ?_)) ?_ ?_
  ·exact ⟨S,Nat.zero_le _,fun j hj=>absurd hj (Nat.not_lt_zero _)⟩
  clear S
  rintro i h ⟨S,h1,h2⟩
  have hlm:l.length=m.length:=by omega
  all_goals (repeat' (first|refine qi ?_|refine ql rfl ?_|refine qo ?_|refine qA ?_|refine qm ?_|(refine qf 4 ?_;(first|(refine cS ?_ ?_<;>intro hc))<;>(refine qg ?_))|(refine qf 5 ?_;refine mv ?_;refine jv S ?_;refine zS S ?_;(refine al S ?_;clear S;intro b h S);refine mv ?_;(first|(refine sB S rfl rfl ?_;clear S;intro h S));refine qg ?_)|(refine qf 6 ?_;refine mv ?_;refine mv ?_;refine jv S ?_;refine zS S ?_;(refine al S ?_;clear S;intro b h S);(first|(refine sB S rfl rfl ?_;clear S;intro h S));refine qg ?_)|(refine qf 7 ?_;refine mv ?_;refine lB S rfl rfl ?_;refine lB S rfl rfl ?_)|(refine qf 10 ?_;refine mv ?_;refine qg ?_)))
  ·(try simp only [Int.toNat_natCast] at *)
   have hi:i<l.length:=by omega
   have k1:=hl i hi
   have k2:=hm i (by omega)
   (refine qN rfl rfl rfl rfl ((Y0 S.wf (tb l i) (tb m i) (k1.1.ext w S.ext) (k2.1.ext w S.ext) (by omega) (by omega)).mono ?_);rintro _ h ⟨⟨rfl,hq⟩|⟨rfl,hq⟩,x⟩)<;>(replace S:=S.qy x;clear x;refine vl ?_;refine qg ?_)
   all_goals (repeat' (first|refine qi ?_|refine ql rfl ?_|refine qo ?_|(refine qf 8 ?_;refine mv ?_;refine qg ?_)|(refine qf 9 ?_;refine ad ?_;refine mv ?_;refine qg ?_)))
   ·refine ⟨i+1,?_,?_,(by repeat (first|exact Ks.le_nil _|refine Ks.qh rfl ?_))⟩
    ·show l.length - (i+1)<l.length - i;omega
    ·refine ⟨S.drop,by omega,fun j hj=>?_⟩
     rcases Nat.lt_or_ge j i with q|q
     ·exact h2 j q
     ·obtain rfl:j=i:=by omega
      exact hq
   ·refine qx ⟨_,rfl,?_⟩
    exact ⟨.inr ⟨rfl,fun q=>hq (q.2 i hi)⟩,S.drop⟩
  ·refine qx ⟨_,rfl,?_⟩
   exact ⟨.inl ⟨rfl,hlm,fun j hj=>h2 j (by omega)⟩,S⟩
theorem ZI {h0:AH} (w:WfH h0) (v u:Value) (l m:List Tab) (hv:RdL h0 v 7 eT l) (hu:RdL h0 u 7 eT m) (hl:∀ i,i<l.length→TabR h0 (tb l i)) (hm:∀ i,i<m.length→TabR h0 (tb m i)) (hl2:l.length≤1000) (hm2:m.length≤1000) :
 Fn Tryz.prog Xh 62 [v,u] h0 (fun r h'=>BoolIs r (SameAll l m)∧Hs h0 h' []):=by
 have S:=Hs.start w
 refine qF rfl Tryz.func62 rfl rfl ?_
 all_goals (repeat' (first|refine qi ?_|(refine qf 0 ?_;refine mv ?_;refine qg ?_)|(refine qf 1 ?_;refine mv ?_;refine mv ?_)))
 (refine qw rfl rfl rfl rfl rfl ((KY S.wf v u l m hv hu hl hm hl2 hm2).mono ?_);rintro _ h ⟨hq,x⟩)<;>(replace S:=S.qy x;clear x;refine mv ?_;refine qg ?_)
 all_goals (repeat' (fail))
 refine qx ⟨_,rfl,?_⟩
 exact ⟨hq,S⟩
def qh5 (l:List Tab):Prop:=l.length≤20∧∀ i,i<l.length→(tb l i).name.length≤40∧(tb l i).opn.length≤40
def qeA (l l2:List Tab) (k:Nat) (h:AH) (fp:Fp):Prop:=∀ j,j<k→RdL h (tb l2 j).ov 1 eI (tb l j).opn
theorem xg {h0:AH} (w:WfH h0) (v:Value) (l:List Tab) (hr:RdL h0 v 7 eT l) (hl:l.length≤1000) (ht:∀ i,i<l.length→TabR h0 (tb l i)):Fn Tryz.prog Xh 66 [v] h0 (fun u h'=>∃ l2,SameAll l2 l∧HallR h' u l2∧Hs h0 h' []):=by
 have S:=Hs.start w
 refine qF rfl Tryz.func66 rfl rfl ?_
 all_goals (repeat' (first|refine qi ?_|refine qm ?_|(refine qf 0 ?_;refine mv ?_;refine qg ?_)|(refine qf 1 ?_;refine mv ?_;refine qg ?_)|(refine qf 2 ?_;refine mv ?_;refine QD S ?_;refine mv ?_;refine qg ?_)))
 refine qE (σ:=Nat×List Tab×Value) (fun (i,l2,vo) h'=>Hs h0 h' [.sl vo 25 7 eT l2,.any (qeA l l2 i)]∧i≤l.length∧l2.length=i∧∀ j,j<i→SameTab (tb l2 j) (tb l j)) (fun (i,l2,vo)=>l.length - i) (fun (i,l2,vo)=>[(3,vo),(6,v),(7,.int .i64 l.length),(8,.int .i64 i)]) (0,[],.slice none 0 0) (by repeat (first|exact Ks.le_nil _|refine Ks.qh rfl ?_)) ?_ ?_
 ·exact ⟨(S.anyS fun _ j hj=>absurd hj (Nat.not_lt_zero _)).jP,Nat.zero_le _,rfl,fun j hj=>absurd hj (Nat.not_lt_zero _)⟩
 clear S
 rintro ⟨i,l2,vo⟩ h ⟨S,h1,h2,h3⟩
 all_goals (repeat' (first|refine qi ?_|refine ql rfl ?_|refine qo ?_|refine qA ?_|refine qm ?_|(refine qf 3 ?_;(first|(refine cS ?_ ?_<;>intro hc))<;>(refine qg ?_))|(refine qf 4 ?_;refine jv S ?_;refine zS S ?_;(refine al S ?_;clear S;intro b h S);(first|(refine sB S rfl rfl ?_;clear S;intro h S));refine qg ?_)|(refine qf 8 ?_;refine mv ?_;refine mv ?_;refine qg ?_)))
 ·(try simp only [Int.toNat_natCast] at *)
  have hi:i<l.length:=by omega
  obtain ⟨hov,hnm,hol⟩:=ht i hi
  refine qaD (id:=5) (j1:=3) (rd:=[(3,(0,1)),(6,(0,2))]) (fun b1=>[some b1,some (b)]) S (HintOk.direct) ?_;clear S;intro b1 h S;refine qj ?_;(first|(refine vl ?_<;>refine qg ⟨⟨by (first|exact True.intro),rfl⟩,?_⟩));refine qj ?_;(first|(refine lB S rfl rfl ?_<;>refine qg ⟨⟨by (first|exact True.intro),rfl⟩,?_⟩))
  ((refine qj ?_;first|refine qw rfl rfl rfl rfl rfl ((yV S.wf (tb l i).ov (tb l i).opn (hov.ext w S.ext) (by omega)).mono ?_));rintro u h x)<;>((refine qg ⟨⟨True.intro,?_⟩,?_⟩;(focus ((show keepsX _ _ _ _ _;simp only [keepsX];(repeat' (first|exact True.intro|refine And.intro ?_ ?_));all_goals (intro hw;first|exact x.ext.old _ S.bB)))));replace S:=S.jo x;clear x;refine fl S rfl rfl S.gB ?_)
  refine qj ?_;refine apd S rfl rfl (qaV eI [(-7:Int)] S.gB) ?_;have S0:=S;clear S;intro v2 h S;refine qg ⟨⟨True.intro,?_⟩,?_⟩;(focus ((show keepsX _ _ _ _ _;simp only [keepsX];(repeat' (first|exact True.intro|refine And.intro ?_ ?_));all_goals (intro hw;first|exact (S.gB).trans (S0.gB).symm))));clear S0;(refine qj ?_;(first|(refine vl ?_<;>refine qg ⟨⟨by (first|exact True.intro),rfl⟩,?_⟩));refine qj ?_;(first|(refine lB S rfl rfl ?_<;>refine qg ⟨⟨by (first|exact Or.inr rfl),rfl⟩,?_⟩));refine qj ?_;(first|(refine QD S ?_<;>refine qg ⟨⟨by (first|exact True.intro),rfl⟩,?_⟩)))
  refine qj ?_;refine th (tb l i).opn.length S rfl rfl ?_;clear S;intro v3 S;obtain ⟨s3,rfl⟩:=(Rd.Y8 S .here).Xq;refine qg ⟨⟨True.intro,rfl⟩,?_⟩;(refine qj ?_;(first|(refine vl ?_<;>refine qg ⟨⟨by (first|exact True.intro),rfl⟩,?_⟩));refine qj ?_;(first|((refine sB S rfl rfl ?_;have S0:=S;clear S;intro h S);refine qg ⟨⟨True.intro,?_⟩,?_⟩;(focus ((show keepsX _ _ _ _ _;simp only [keepsX];(repeat' (first|exact True.intro|refine And.intro ?_ ?_));all_goals (intro hw;first|exact (S.gB).trans (S0.gB).symm|exact absurd hw (by decide +kernel)))));clear S0));refine jd ?_)
  all_goals (repeat' (first|(refine qf 6 ?_;refine mv ?_;refine lB S rfl rfl ?_;(refine one 7 S ?_;clear S;intro u h S))))
  refine app (y0:={ tb l i with os:=s3 }) S rfl rfl ?_;clear S;intro v h S;refine mv ?_;refine qg ?_
  all_goals (repeat' (first|(refine qf 7 ?_;refine ad ?_;refine mv ?_;refine qg ?_)))
  refine ⟨(i+1,l2 ++ [{ tb l i with os:=s3 }],v),?_,?_,(by repeat (first|exact Ks.le_nil _|refine Ks.qh rfl ?_))⟩
  ·show l.length - (i+1)<l.length - i;omega
  ·have hg0:∀ (y:Tab) (j:Nat),j<i→tb (l2 ++ [y]) j=tb l2 j:=fun y j hj=>by
    simp only [tb,List.getD_eq_getElem?_getD,List.getElem?_append_left (show j<l2.length by omega)]
   have hg1:∀ (y:Tab),tb (l2 ++ [y]) i=y:=fun y=>by
    simp only [tb,List.getD_eq_getElem?_getD,List.getElem?_append_right (show l2.length≤i by omega),h2,Nat.sub_self,List.getElem?_cons_zero,Option.getD_some]
   generalize hy:({ tb l i with os:=s3 }:Tab)=y at S
   have S:=((((S.del (.there (.there .here))).del (.there (.there .here))).front (.there (.there .here))).front (.there (.there .here)))
   have S:=S.merge (r:=.any (qeA l (l2 ++ [y]) (i+1))) (fun f1 f2 k1 k2 h'' hh j hj=>by
    rcases Nat.lt_or_ge j i with q|q
    ·rw [hg0 y j q]
     exact k2 h'' (fun b hb=>hh b (.inr hb)) j q
    ·obtain rfl:j=i:=by omega
     have k1:=k1.local fun b hb=>hh b (.inl hb)
     rw [hg1 y,← hy]
     rcases k1 with ⟨e1,e2⟩|⟨bb,o,cap,cc,e,sk,r,e1,e2,-,e3⟩
     ·have hnil:(tb l j).opn=[]:=by
       cases q1:(tb l j).opn with
       | nil=>rfl
       | cons a t=>rw [q1] at e2;simp at e2
      exact .inl ⟨e1,show (tb l j).opn.length=0 by rw [hnil];rfl,show (tb l j).opn.flatMap eI=[] by rw [hnil];rfl⟩
     ·rw [List.take_left'] at e1 e3<;>first|rfl|skip
      exact .inr ⟨bb,o,cap,cc,e,sk,r,e1,e2,e3⟩)
   refine ⟨S.front (.there .here),by omega,by simp;omega,fun j hj=>?_⟩
   show SameTab (tb (l2 ++ [y]) j) (tb l j)
   rcases Nat.lt_or_ge j i with q|q
   ·rw [hg0 y j q];exact h3 j q
   ·obtain rfl:j=i:=by omega
    rw [hg1 y,← hy];rfl
 ·refine qx ⟨_,rfl,?_⟩
  have hr2:=Rd.zo S .here
  obtain ⟨fp,ha⟩:=S.Xb (.there .here)
  have hil:i=l.length:=by omega
  have st:∀ j,j<l.length→SameTab (tb l2 j) (tb l j):=fun j hj=>h3 j (by omega)
  refine ⟨l2,⟨by omega,fun j hj=>st j (by omega)⟩,⟨hr2,fun j hj=>?_,by omega,S.qcZ .here⟩,S.drop⟩
  have q:=(jB _ _).1 (st j (by omega))
  have:=ht j (by omega)
  exact ⟨by rw [q.2.2.2.2.2.2];exact ha j (by omega),by rw [q.1];exact this.2.1,by rw [q.2.2.2.2.2.2];exact this.2.2⟩
theorem jJ (l:List Tab):∀ n,0≤sumT l n∧sumT l n≤24*n
 | 0=>by simp [sumT]
 | n+1=>by
  have:=jJ l n
  have:=qK (tb l n)
  simp only [sumT];omega
open Classical in
noncomputable def Zv (t:Tab):Int:=if chk t=0 then qC t else 0
theorem pq {h0:AH} (w:WfH h0) (t:Tab) (r:TabR h0 t):Fn Tryz.prog Xh 29 [jg t] h0 (fun v h'=>v = .int .i64 (Zv t)∧Hs h0 h' []):=by
 have S:=Hs.start w
 refine qF rfl Tryz.func29 rfl rfl ?_
 all_goals (repeat' (first|refine qi ?_|(refine qf 0 ?_;(refine bx S ?_;clear S;intro b h S);refine mv ?_;refine qg ?_)|(refine qf 1 ?_;refine lB S rfl rfl ?_)))
 (refine qw rfl rfl rfl rfl rfl ((XN S.wf t (r.ext w S.ext)).mono ?_);rintro _ h ⟨rfl,x⟩)<;>(replace S:=S.qy x;clear x;(first|(refine cS ?_ ?_<;>intro hc))<;>(refine qg ?_))
 all_goals (repeat' (first|refine qi ?_|refine ql rfl ?_|refine qo ?_|(refine qf 2 ?_;refine mv ?_;refine qg ?_)|(refine qf 3 ?_;refine lB S rfl rfl ?_)))
 ·refine qx ⟨_,rfl,?_⟩
  exact ⟨by unfold Zv;rw [if_neg hc];rfl,S.drop⟩
 ·(refine qw rfl rfl rfl rfl rfl ((Ze S.wf t).mono ?_);rintro _ h ⟨rfl,x⟩)<;>(replace S:=S.qy x;clear x;refine mv ?_;refine qg ?_)
  all_goals (repeat' (fail))
  refine qx ⟨_,rfl,?_⟩
  exact ⟨by unfold Zv;rw [if_pos (by simpa using hc)];rfl,S.drop⟩
open Classical in
noncomputable def zY (l:List Tab) (t:Int):Int:=if 0≤t∧t<l.length∧ValidL l then sumT l t.toNat else 0
theorem Jc {h0:AH} (w:WfH h0) (v:Value) (l:List Tab) (H:HallR h0 v l) (t:Int):Fn Tryz.prog Xh 31 [v,.int .i64 t] h0 (fun r h'=>r = .int .i64 (zY l t)∧Hs h0 h' []):=by
 have S:=Hs.start w
 have hl:=H.len
 have hr:=H.rd
 by_cases ht0:t<0
 ·refine qF rfl Tryz.func31 rfl rfl ?_
  all_goals (repeat' (first|refine qi ?_|refine ql rfl ?_|(refine qf 0 ?_;refine mv ?_;refine qg ?_)|(refine qf 1 ?_;refine mv ?_;(refine cT ?_)<;>(refine mv ?_;refine off ?_;refine off ?_;refine off ?_;(refine off ?_)<;>(refine vl ?_;refine mv ?_;refine off ?_;(first|(refine off ?_;refine off ?_;refine vl ?_;refine qg ?_)))))|(refine qf 2 ?_;refine mv ?_;refine qg ?_)))
  all_goals (try omega)
  refine qx ⟨_,rfl,?_⟩
  exact ⟨by unfold zY;rw [if_neg (by omega)];rfl,S⟩
 obtain ⟨n,rfl⟩:=Int.eq_ofNat_of_zero_le (show 0≤t by omega)
 refine qF rfl Tryz.func31 rfl rfl ?_
 all_goals (repeat' (first|refine qi ?_|refine ql rfl ?_|(refine qf 0 ?_;refine mv ?_;refine qg ?_)|(refine qf 1 ?_;refine mv ?_;(refine cF ?_)<;>((iterate 3 refine mv ?_);(first|(refine QD S ?_));(first|(first|(refine cS ?_ ?_<;>intro hc)))<;>(refine vl ?_;refine mv ?_;(first|refine off ?_|refine mv ?_);(first|(refine off ?_;refine off ?_;refine vl ?_;refine qg ?_)|skip))))|(refine qf 2 ?_;refine mv ?_;refine qg ?_)))
 all_goals (try omega)
 ·refine qx ⟨_,rfl,?_⟩
  exact ⟨by unfold zY;rw [if_neg (by omega)];rfl,S⟩
 ·(refine qw rfl rfl rfl rfl rfl ((Zj S.wf v l H).mono ?_);rintro _ h ⟨⟨rfl,hq⟩|⟨rfl,hq⟩,x⟩)<;>(replace S:=S.qy x;clear x;refine vl ?_;refine vl ?_;refine qg ?_)
  all_goals (repeat' (first|refine qi ?_|refine ql rfl ?_|refine qo ?_|(refine qf 2 ?_;refine mv ?_;refine qg ?_)|(refine qf 3 ?_;refine mv ?_;refine qg ?_)|(refine qf 4 ?_;refine mv ?_;refine mv ?_)))
  ·refine su 0 n (hr.ext w S.ext) H.cap ?_;intro vs hrs hcs
   have T:=S
   have w1:=S.wf
   replace S:=Hs.start w1
   have hlen:((l.drop 0).take (n - 0)).length=n:=by simp;omega
   have hget:∀ k,k<n→((l.drop 0).take (n - 0)).getD k default=tb l k:=fun k hk=>by
    unfold tb
    simp only [List.drop_zero,Nat.sub_zero,List.getD_eq_getElem?_getD,List.getElem?_take,if_pos hk]
   generalize ((l.drop 0).take (n - 0))=ls at hrs hlen hget
   (refine QD S ?_);refine mv ?_;refine qg ?_
   all_goals (repeat' (refine qm ?_))
   refine qE (σ:=Nat) (fun i h'=>Hs h h' []∧i≤n) (fun i=>n - i) (fun i=>[(5,.int .i64 (sumT l i)),(23,vs),(24,.int .i64 n),(25,.int .i64 i)]) 0 (by repeat (first|exact Ks.le_nil _|refine Ks.qh rfl ?_|refine Ks.zf ?_)) ?_ ?_
   ·exact ⟨S,Nat.zero_le _⟩
   clear S
   rintro i h2 ⟨S,h1⟩
   all_goals (repeat' (first|refine qi ?_|refine ql rfl ?_|refine qo ?_|refine qA ?_|refine qm ?_|(refine qf 5 ?_;(first|(refine cS ?_ ?_<;>intro hc))<;>(refine qg ?_))|(refine qf 6 ?_;refine jv S ?_;refine zS S ?_;(refine al S ?_;clear S;intro b h S);(first|(refine sB S rfl rfl ?_;clear S;intro h S));refine qg ?_)|(refine qf 7 ?_;refine mv ?_;refine lB S rfl rfl ?_)|(refine qf 9 ?_;refine mv ?_;refine mv ?_;refine qg ?_)))
   ·(try simp only [Int.toNat_natCast] at *)
    have hi:i<n:=by omega
    have b1:=jJ l i
    have b2:=qK (ls.getD i default)
    (refine qw rfl rfl rfl rfl rfl ((Ze S.wf (ls.getD i default)).mono ?_);rintro _ h ⟨rfl,x⟩)<;>(replace S:=S.qy x;clear x;refine ad ?_;refine mv ?_;refine qg ?_)
    rw [hget i hi]
    all_goals (repeat' (first|(refine qf 8 ?_;refine ad ?_;refine mv ?_;refine qg ?_)))
    refine ⟨i+1,?_,?_,(by repeat (first|exact Ks.le_nil _|refine Ks.qh rfl ?_))⟩
    ·show n - (i+1)<n - i;omega
    ·exact ⟨S.drop,by omega⟩
   ·refine qx ⟨_,rfl,?_⟩
    have:i=n:=by omega
    subst this
    exact ⟨by unfold zY;rw [if_pos ⟨by omega,by omega,hq⟩,Int.toNat_natCast];rfl,T.qy S⟩
  ·refine qx ⟨_,rfl,?_⟩
   exact ⟨by unfold zY;rw [if_neg (fun q=>hq q.2.2)];rfl,S⟩
theorem qai {h0:AH} (w:WfH h0) (v:Value) (l:List Tab) (H:HallR h0 v l):Fn Tryz.prog Xh 87 [v] h0 (fun r h'=>r = .int .i64 (if l.length=0 then 0 else qC (tb l (l.length - 1)))∧Hs h0 h' []):=by
 have S:=Hs.start w
 have hl:=H.len
 have hr:=H.rd
 refine qF rfl Tryz.func87 rfl rfl ?_
 all_goals (repeat' (first|refine qi ?_|refine ql rfl ?_|refine qo ?_|(refine qf 0 ?_;refine mv ?_;refine qg ?_)|(refine qf 1 ?_;refine mv ?_;refine QD S ?_;(first|(refine cS ?_ ?_<;>intro hc))<;>(refine qg ?_))|(refine qf 2 ?_;refine mv ?_;refine qg ?_)|(refine qf 3 ?_;refine mv ?_;refine mv ?_;refine QD S ?_;refine sb ?_;refine jv S ?_;refine zS S ?_)))
 ·refine qx ⟨_,rfl,?_⟩
  exact ⟨by rw [if_pos (by omega)];rfl,S⟩
 ·(refine qw rfl rfl rfl rfl rfl ((Ze S.wf _).mono ?_);rintro _ h ⟨rfl,x⟩)<;>(replace S:=S.qy x;clear x;refine mv ?_;refine qg ?_)
  all_goals (repeat' (fail))
  refine qx ⟨_,rfl,?_⟩
  exact ⟨by rw [if_neg (by omega),show l.length - 1=((l.length:Int) - 1).toNat by omega];rfl,S⟩
open Classical in
noncomputable def Qx (l:List Tab):Int:=if ValidL l then sumT l l.length else 0
theorem Vp {h0:AH} (w:WfH h0) (v:Value) (l:List Tab) (H:HallR h0 v l):Fn Tryz.prog Xh 33 [v] h0 (fun r h'=>r = .int .i64 (Qx l)∧Hs h0 h' []):=by
 have S:=Hs.start w
 have hl:=H.len
 have hr:=H.rd
 refine qF rfl Tryz.func33 rfl rfl ?_
 all_goals (repeat' (first|refine qi ?_|(refine qf 0 ?_;refine mv ?_;refine qg ?_)|(refine qf 1 ?_;refine mv ?_)))
 (refine qw rfl rfl rfl rfl rfl ((Zj S.wf v l H).mono ?_);rintro _ h ⟨⟨rfl,hq⟩|⟨rfl,hq⟩,x⟩)<;>(replace S:=S.qy x;clear x;refine vl ?_;refine qg ?_)
 all_goals (repeat' (first|refine qi ?_|refine ql rfl ?_|refine qo ?_|(refine qf 2 ?_;refine mv ?_;refine qg ?_)|(refine qf 3 ?_;refine mv ?_;refine mv ?_;refine QD S ?_;refine sb ?_)))
 ·have hs:zY l ((l.length:Int) - 1)+(if l.length=0 then 0 else qC (tb l (l.length - 1)))=sumT l l.length:=by
   unfold zY
   cases hk:l.length with
   | zero=>rw [if_neg (by omega)];simp [sumT]
   | succ k=>rw [if_pos ⟨by omega,by omega,hq⟩,if_neg (by omega),show ((k+1:Nat):Int) - 1=(k:Int) by omega,Int.toNat_natCast,Nat.add_sub_cancel];rfl
  have b1:=jJ l l.length
  (refine qw rfl rfl rfl rfl rfl ((Jc S.wf v l (H.ext w S.ext) _).mono ?_);rintro _ h ⟨rfl,x⟩)<;>(replace S:=S.qy x;clear x;refine mv ?_)
  (refine qw rfl rfl rfl rfl rfl ((qai S.wf v l (H.ext w S.ext)).mono ?_);rintro _ h ⟨rfl,x⟩)<;>(replace S:=S.qy x;clear x;refine ad ?_;refine mv ?_;refine qg ?_)
  all_goals (repeat' (fail))
  refine qx ⟨_,rfl,?_⟩
  exact ⟨by unfold Qx;rw [if_pos hq,← hs];rfl,S⟩
 ·refine qx ⟨_,rfl,?_⟩
  exact ⟨by unfold Qx;rw [if_neg hq];rfl,S⟩
theorem qao {h0:AH} (w:WfH h0) (t:Tab) (nm:List UInt8) (b:Nat) (hb:h0.get b=some (.cells [str nm] 9 none false)):Fn Tryz.prog Xh 86 [jg t,.pointer (some ⟨b,0,none⟩)] h0 (fun v h'=>BoolIs v (t.name=nm)∧Hs h0 h' []):=by
 have S:=Hs.start w
 refine qF rfl Tryz.func86 rfl rfl ?_
 all_goals (repeat' (first|refine qi ?_|(refine qf 0 ?_;(refine bx S ?_;clear S;intro b h S);refine mv ?_;refine qg ?_)|(refine qf 1 ?_;refine vl ?_;refine lB S rfl rfl ?_;refine lH S ?_;(refine tS ?_ ?_<;>intro hc)<;>(refine mv ?_;refine qg ?_))))
 all_goals (refine qx ⟨_,rfl,?_⟩)
 all_goals (refine ⟨?_,S.drop⟩;unfold BoolIs)
 ·exact .inl ⟨rfl,hc⟩
 ·exact .inr ⟨rfl,hc⟩
def qgJ (l:List Tab) (nm:List UInt8) (v:Value):Prop :=
 (∃ k:Nat,v = .tuple #[.int .i64 k,.bool true]∧ValidL l∧k<l.length∧(tb l k).name=nm∧∀ j,j<k→¬ (tb l j).name=nm) ∨
 (v = .tuple #[.int .i64 0,.bool false]∧(¬ ValidL l∨∀ j,j<l.length→¬ (tb l j).name=nm))
theorem find_ok {h0:AH} (w:WfH h0) (v:Value) (l:List Tab) (H:HallR h0 v l) (nm:List UInt8):Fn Tryz.prog Xh 32 [v,str nm] h0 (fun r h'=>qgJ l nm r∧Hs h0 h' []):=by
 have S:=Hs.start w
 have hl:=H.len
 have hr:=H.rd
 refine qF rfl Tryz.func32 rfl rfl ?_
 all_goals (repeat' (first|refine qi ?_|(refine qf 0 ?_;(refine bx S ?_;clear S;intro b h S);refine mv ?_;refine mv ?_;refine qg ?_)|(refine qf 1 ?_;refine mv ?_;refine vl ?_)))
 have gb:=S.gB (b:=b)
 have hf:∀ i h',i<l.length→Hs h h' []→Fn Tryz.prog Xh 86 (jg (l.getD i default) :: [.pointer (some ⟨b,0,none⟩)]) h' (fun v h''=>BoolIs v ((tb l i).name=nm)∧Hs h' h'' []):=fun i h' hi x=>qao x.wf (tb l i) nm b (x.ext.get S.wf gb)
 (refine qw rfl rfl rfl rfl rfl ((WB S.wf v l 86 [.pointer (some ⟨b,0,none⟩)] (fun i=>(tb l i).name=nm) (hr.ext w S.ext) (by omega) hf).mono ?_);rintro _ h ⟨⟨k,hk,rfl,hq,hn⟩|⟨rfl,hn⟩,x⟩)<;>(replace S:=S.qy x;clear x;refine mv ?_;refine qg ?_)
 all_goals (repeat' (first|refine qi ?_|refine ql rfl ?_|(refine qf 2 ?_;refine mv ?_;(first|refine cT ?_|refine cF ?_)<;>(refine mv ?_;(first|refine off ?_|refine mv ?_);(first|(refine off ?_;refine off ?_;refine vl ?_;refine qg ?_)|skip)))|(refine qf 3 ?_;refine mv ?_;refine mv ?_;refine qg ?_)))
 all_goals (try omega)
 ·(refine qw rfl rfl rfl rfl rfl ((Zj S.wf v l (H.ext w S.ext)).mono ?_);rintro _ h ⟨⟨rfl,hv⟩|⟨rfl,hv⟩,x⟩)<;>(replace S:=S.qy x;clear x;refine vl ?_;refine vl ?_;refine qg ?_)
  all_goals (repeat' (first|refine qi ?_|refine ql rfl ?_|refine qo ?_|(refine qf 3 ?_;refine mv ?_;refine mv ?_;refine qg ?_)|(refine qf 4 ?_;(iterate 3 refine mv ?_);refine qg ?_)))
  all_goals (refine qx ⟨_,rfl,?_⟩)
  ·exact ⟨.inl ⟨k,rfl,hv,hk,hq,hn⟩,S.drop⟩
  ·exact ⟨.inr ⟨rfl,.inl hv⟩,S.drop⟩
 ·refine qx ⟨_,rfl,?_⟩
  exact ⟨.inr ⟨rfl,.inr hn⟩,S.drop⟩
theorem Zm {h0:AH} (w:WfH h0) (v:Value) (l:List Tab) (H:HallR h0 v l) (n:Nat) (hn:n≤l.length):Fn Tryz.prog Xh 76 [v,.int .i64 n] h0 (fun r h'=>r = .int .i64 (sumT l n)∧Hs h0 h' []):=by
 have S:=Hs.start w
 have hl:=H.len
 have hr:=H.rd
 refine qF rfl Tryz.func76 rfl rfl ?_
 all_goals (repeat' (first|refine qi ?_|refine qm ?_|(refine qf 0 ?_;refine mv ?_;refine qg ?_)|(refine qf 1 ?_;refine mv ?_;refine qg ?_)|(refine qf 2 ?_;refine mv ?_;refine qg ?_)))
 refine qE (σ:=Nat) (fun i h'=>Hs h0 h' []∧i≤n) (fun i=>n - i) (fun i=>[(0,v),(1,.int .i64 n),(5,.int .i64 (sumT l i)),(6,.int .i64 i)]) 0 (by repeat (first|exact Ks.le_nil _|refine Ks.qh rfl ?_)) ?_ ?_
 ·exact ⟨S,Nat.zero_le _⟩
 clear S
 rintro i h ⟨S,h1⟩
 all_goals (repeat' (first|refine qi ?_|refine ql rfl ?_|refine qo ?_|refine qA ?_|refine qm ?_|(refine qf 3 ?_;refine mv ?_;refine mv ?_;(first|(refine cS ?_ ?_<;>intro hc))<;>(refine qg ?_))|(refine qf 5 ?_;(iterate 3 refine mv ?_);refine jv S ?_;refine zS S ?_)|(refine qf 6 ?_;refine mv ?_;refine mv ?_;refine qg ?_)))
 ·(try simp only [Int.toNat_natCast] at *)
  have hi:i<n:=by omega
  have b1:=jJ l i
  have b2:=qK (tb l i)
  (refine qw rfl rfl rfl rfl rfl ((jc S.wf (tb l i)).mono ?_);rintro _ h ⟨rfl,x⟩)<;>(replace S:=S.qy x;clear x;refine ad ?_;refine mv ?_;refine qg ?_)
  all_goals (repeat' (first|(refine qf 4 ?_;refine mv ?_;refine ad ?_;refine mv ?_;refine qg ?_)))
  refine ⟨i+1,?_,?_,(by repeat (first|exact Ks.le_nil _|refine Ks.qh rfl ?_))⟩
  ·show n - (i+1)<n - i;omega
  ·exact ⟨S,by omega⟩
 ·refine qx ⟨_,rfl,?_⟩
  have:i=n:=by omega
  subst this
  exact ⟨rfl,S⟩
theorem Kr {h0:AH} (w:WfH h0) (v:Value) (l:List Tab) (H:HallR h0 v l) (t:Int) (h1:0≤t) (h2:t≤l.length):Fn Tryz.prog Xh 76 [v,.int .i64 t] h0 (fun r h'=>r = .int .i64 (sumT l t.toNat)∧Hs h0 h' []):=by
 obtain ⟨n,rfl⟩:=Int.eq_ofNat_of_zero_le h1
 exact Zm w v l H n (by omega)
def eSt (p:Nat×Nat):List Value:=[.int .i64 (p.1:Int),.int .i64 (p.2:Int)]
def xk (l:List Tab) (n k:Nat) (out:List (Nat×Nat)):Prop:=(out.length:Int)=sumT l n+k∧∀ x,x<out.length→((out.getD x default).1<n∨((out.getD x default).1=n∧(out.getD x default).2<k))∧((out.getD x default).2:Int)<qC (tb l (out.getD x default).1)∧(x:Int)=sumT l (out.getD x default).1+(out.getD x default).2
theorem Wq {h0:AH} (w:WfH h0) (v:Value) (l:List Tab) (H:HallR h0 v l):Fn Tryz.prog Xh 75 [v] h0 (fun r h'=>∃ out,xk l l.length 0 out∧Hs h0 h' [.sl r 143 2 eSt out]):=by
 have S:=Hs.start w
 have hl:=H.len
 have hr:=H.rd
 refine qF rfl Tryz.func75 rfl rfl ?_
 all_goals (repeat' (first|refine qi ?_|refine qm ?_|(refine qf 0 ?_;refine mv ?_;refine qg ?_)|(refine qf 1 ?_;refine mv ?_;refine qg ?_)|(refine qf 2 ?_;refine mv ?_;refine qg ?_)))
 refine qE (σ:=Nat×List (Nat×Nat)×Value) (fun (i,out,vo) h'=>Hs h0 h' [.sl vo 143 2 eSt out]∧i≤l.length∧xk l i 0 out) (fun (i,out,vo)=>l.length - i) (fun (i,out,vo)=>[(0,v),(3,vo),(4,.int .i64 i)]) (0,[],.slice none 0 0) (by repeat (first|exact Ks.le_nil _|refine Ks.qh rfl ?_)) ?_ ?_
 ·exact ⟨S.jP,Nat.zero_le _,rfl,fun x hx=>absurd hx (Nat.not_lt_zero _)⟩
 clear S
 rintro ⟨i,out,vo⟩ h ⟨S,h1,h2⟩
 all_goals (repeat' (first|refine qi ?_|refine ql rfl ?_|refine qo ?_|refine qA ?_|refine qm ?_|(refine qf 3 ?_;refine mv ?_;refine mv ?_;refine QD S ?_;(first|(refine cS ?_ ?_<;>intro hc))<;>(refine qg ?_))|(refine qf 5 ?_;refine mv ?_;refine qg ?_)|(refine qf 9 ?_;refine mv ?_;refine mv ?_;refine qg ?_)))
 ·have hi:i<l.length:=by omega
  have b2:=qK (tb l i)
  refine qE (σ:=Nat×List (Nat×Nat)×Value) (fun (k,out,vo) h'=>Hs h0 h' [.sl vo 143 2 eSt out]∧(k:Int)≤qC (tb l i)∧xk l i k out) (fun (k,out,vo)=>(qC (tb l i)).toNat - k) (fun (k,out,vo)=>[(0,v),(3,vo),(4,.int .i64 i),(5,.int .i64 k)]) (0,out,vo) (by repeat (first|exact Ks.le_nil _|refine Ks.qh rfl ?_)) ?_ ?_
  ·exact ⟨S,by simpa using b2.1,h2⟩
  clear S h2
  rintro ⟨k,out,vo⟩ h ⟨S,h3,h4⟩
  all_goals (repeat' (first|refine qi ?_|(refine qf 6 ?_;(iterate 3 refine mv ?_);refine jv S ?_;refine zS S ?_)))
  (try simp only [Int.toNat_natCast] at *)
  have b1:=jJ l i
  have hol:=h4.1
  (refine qw rfl rfl rfl rfl rfl ((jc S.wf (tb l i)).mono ?_);rintro _ h ⟨rfl,x⟩)<;>(replace S:=S.qy x;clear x;(first|(refine cS ?_ ?_<;>intro hc))<;>(refine qg ?_))
  all_goals (repeat' (first|refine qi ?_|refine ql rfl ?_|refine qo ?_|refine qA ?_|refine qm ?_|(refine qf 4 ?_;refine mv ?_;refine ad ?_;refine mv ?_;refine qg ?_)|(refine qf 8 ?_;(iterate 3 refine mv ?_);refine vl ?_;(refine one 2 S ?_;clear S;intro u h S))))
  ·refine app (y0:=(i,k)) S rfl rfl ?_;clear S;intro v h S;refine mv ?_;refine qg ?_
   all_goals (repeat' (first|(refine qf 7 ?_;refine mv ?_;refine ad ?_;refine mv ?_;refine qg ?_)))
   refine ⟨(k+1,out ++ [(i,k)],v),?_,?_,(by repeat (first|exact Ks.le_nil _|refine Ks.qh rfl ?_))⟩
   ·show (qC (tb l i)).toNat - (k+1)<(qC (tb l i)).toNat - k;omega
   ·refine ⟨S,by omega,?_,fun x hx=>?_⟩
    ·simp only [List.length_append,List.length_cons,List.length_nil];omega
    ·simp only [List.length_append,List.length_cons,List.length_nil] at hx
     rcases Nat.lt_or_ge x out.length with q|q
     ·have e:(out ++ [(i,k)]).getD x default=out.getD x default:=by simp only [List.getD_eq_getElem?_getD,List.getElem?_append_left q]
      rw [e]
      have:=h4.2 x q
      exact ⟨by omega,this.2⟩
     ·obtain rfl:x=out.length:=by omega
      have e:(out ++ [(i,k)]).getD out.length default=(i,k):=by simp only [List.getD_eq_getElem?_getD,List.getElem?_append_right (Nat.le_refl _),Nat.sub_self];rfl
      rw [e]
      exact ⟨.inr ⟨rfl,by simp⟩,by simp only;omega,by simp only;omega⟩
  ·refine ⟨(i+1,out,vo),?_,?_,(by repeat (first|exact Ks.le_nil _|refine Ks.qh rfl ?_))⟩
   ·show l.length - (i+1)<l.length - i;omega
   ·have hk:(k:Int)=qC (tb l i):=by omega
    refine ⟨S,by omega,by show (out.length:Int)=sumT l i+qC (tb l i)+(0:Nat);omega,fun x hx=>?_⟩
    have:=h4.2 x hx
    exact ⟨.inl (show (out.getD x default).1<i+1 by omega),this.2⟩
 ·refine qx ⟨_,rfl,?_⟩
  have:i=l.length:=by omega
  subst this
  exact ⟨out,h2,S⟩
end Go.Proofs.Xx
namespace Go.Proofs.Xx
set_option linter.unusedVariables false
set_option linter.unusedSectionVars false
section
variable {α:Type} [Inhabited α]
theorem Vg (l:List α) {i:Nat} (x:α) (h:i<l.length) (j:Nat):(l.set i x).getD j default=if j=i then x else l.getD j default:=by
 rw [List.getD_eq_getElem?_getD,List.getD_eq_getElem?_getD,List.getElem?_set]
 by_cases e:i=j
 ·subst e;rw [if_pos rfl,if_pos rfl,if_pos h];rfl
 ·rw [if_neg e,if_neg (fun q=>e q.symm)]
theorem qap {l m:List α} (h:l.length=m.length) (k:∀ i,i<l.length→l.getD i default=m.getD i default):l=m:=by
 refine List.ext_getElem h fun i q1 q2=>?_
 have e:=k i q1
 rw [List.getD_eq_getElem?_getD,List.getD_eq_getElem?_getD,List.getElem?_eq_getElem q1,List.getElem?_eq_getElem q2] at e
 exact e
theorem jq (l:List α) (x:α) {j:Nat} (h:j<l.length):(l ++ [x]).getD j default=l.getD j default:=by
 simp only [List.getD_eq_getElem?_getD,List.getElem?_append_left h]
theorem jC (l:List α) (x:α) {j:Nat} (h:j=l.length):(l ++ [x]).getD j default=x:=by
 subst h
 simp only [List.getD_eq_getElem?_getD,List.getElem?_append_right (Nat.le_refl _),Nat.sub_self,List.getElem?_cons_zero,Option.getD_some]
def swp (l:List α) (i j:Nat):List α:=(l.set i (l.getD j default)).set j (l.getD i default)
theorem qeL (l:List α) (i j:Nat):(swp l i j).length=l.length:=by simp [swp]
theorem swp_get {l:List α} {i j:Nat} (hi:i<l.length) (hj:j<l.length) (k:Nat):(swp l i j).getD k default=if k=j then l.getD i default else if k=i then l.getD j default else l.getD k default:=by
 unfold swp
 rw [Vg _ _ (by simpa using hj),Vg _ _ hi]
theorem qdr {l:List α} {i j:Nat} (hi:i<l.length) (hj:j<l.length):(swp l i j).Perm l:=by
 unfold swp
 have e1:l.getD i default=l[i]:=by simp [List.getD_eq_getElem?_getD,List.getElem?_eq_getElem hi]
 have e2:l.getD j default=l[j]:=by simp [List.getD_eq_getElem?_getD,List.getElem?_eq_getElem hj]
 rw [e1,e2]
 exact List.set_set_perm hi hj
inductive Sw (a b:Nat):List α→List α→Prop
 | refl (l:List α):Sw a b l l
 | step {l l':List α} (i j:Nat) (h:Sw a b l l') (hi:a≤i∧i<b) (hj:a≤j∧j<b) (hb:b≤l'.length):Sw a b l (swp l' i j)
theorem Sw.len {a b:Nat} {l l':List α} (h:Sw a b l l'):l'.length=l.length:=by
 induction h with
 | refl=>rfl
 | step i j h hi hj hb ih=>rw [qeL,ih]
theorem Sw.perm {a b:Nat} {l l':List α} (h:Sw a b l l'):l'.Perm l:=by
 induction h with
 | refl=>exact .refl _
 | step i j h hi hj hb ih=>exact (qdr (by omega) (by omega)).trans ih
theorem Sw.out {a b:Nat} {l l':List α} (h:Sw a b l l') {k:Nat} (hk:k<a∨b≤k):l'.getD k default=l.getD k default:=by
 induction h with
 | refl=>rfl
 | step i j h hi hj hb ih=>rw [swp_get (by omega) (by omega),if_neg (by omega),if_neg (by omega),ih]
theorem Sw.in_ {a b:Nat} {l l':List α} (h:Sw a b l l'):∀ {k:Nat},a≤k→k<b→∃ m,a≤m∧m<b∧l'.getD k default=l.getD m default:=by
 induction h with
 | refl=>intro k h1 h2;exact ⟨k,h1,h2,rfl⟩
 | step i j h hi hj hb ih =>
  intro k h1 h2
  rw [swp_get (by omega) (by omega)]
  split
  ·exact ih hi.1 hi.2
  ·split
   ·exact ih hj.1 hj.2
   ·exact ih h1 h2
theorem Sw.trans {a b:Nat} {l m n:List α} (h:Sw a b l m) (g:Sw a b m n):Sw a b l n:=by
 induction g with
 | refl=>exact h
 | step i j g hi hj hb ih=>exact .step i j ih hi hj hb
theorem Sw.mono {a b a' b':Nat} {l m:List α} (h:Sw a b l m) (ha:a'≤a) (hb:b≤b') (hl:b'≤l.length):Sw a' b' l m:=by
 induction h with
 | refl=>exact .refl _
 | step i j g hi hj hbl ih =>
  exact .step i j ih ⟨by omega,by omega⟩ ⟨by omega,by omega⟩ (by rw [g.len];exact hl)
theorem Sw.one {a b:Nat} {l:List α} (i j:Nat) (hi:a≤i∧i<b) (hj:a≤j∧j<b) (hb:b≤l.length):Sw a b l (swp l i j):=.step i j (.refl l) hi hj hb
structure WOrd (lt:α→α→Prop):Prop where
 irr:∀ x,¬ lt x x
 tr:∀ {x y z},lt x y→lt y z→lt x z
 ntr:∀ {x y z},¬ lt y x→¬ lt z y→¬ lt z x
theorem WOrd.asym {lt:α→α→Prop} (W:WOrd lt) {x y:α} (h:lt x y):¬ lt y x:=fun g=>W.irr x (W.tr h g)
def Srt (lt:α→α→Prop) (a b:Nat) (l:List α):Prop:=∀ i j,a≤i→i<j→j<b→¬ lt (l.getD j default) (l.getD i default)
theorem Srt.adj {lt:α→α→Prop} (W:WOrd lt) {a b:Nat} {l:List α} (h:∀ i,a≤i→i+1<b→¬ lt (l.getD (i+1) default) (l.getD i default)):Srt lt a b l:=by
 intro i j h1 h2 h3
 induction j with
 | zero=>omega
 | succ j ih =>
  rcases Nat.lt_or_ge i j with q|q
  ·exact W.ntr (ih q (by omega)) (h j (by omega) h3)
  ·have:i=j:=by omega
   subst this;exact h i h1 h3
def InsI (lt:α→α→Prop) (a i j:Nat) (l:List α):Prop:=∀ p q,a≤p→p<q→q≤i→q≠j→¬ lt (l.getD q default) (l.getD p default)
theorem InsI.start {lt:α→α→Prop} {a i:Nat} {l:List α} (h:Srt lt a i l):InsI lt a i i l:=fun p q h1 h2 h3 h4=>h p q h1 h2 (by omega)
theorem InsI.next {lt:α→α→Prop} (W:WOrd lt) {a i j:Nat} {l:List α} (h:InsI lt a i j l) (hj:a<j) (hji:j≤i) (hl:i<l.length) (hc:lt (l.getD j default) (l.getD (j - 1) default)):InsI lt a i (j - 1) (swp l j (j - 1)):=by
 intro p q h1 h2 h3 h4
 have g:=swp_get (l:=l) (i:=j) (j:=j - 1) (by omega) (by omega)
 rw [g q,g p,if_neg h4]
 by_cases e1:q=j
 ·subst e1
  rw [if_pos rfl]
  by_cases e2:p=q - 1
  ·rw [if_pos e2];exact W.asym hc
  ·rw [if_neg e2,if_neg (by omega)];exact h p (q - 1) h1 (by omega) (by omega) (by omega)
 ·rw [if_neg e1]
  by_cases e2:p=j - 1
  ·rw [if_pos e2];exact h j q (by omega) (by omega) h3 e1
  ·rw [if_neg e2]
   by_cases e3:p=j
   ·rw [if_pos e3];exact h (j - 1) q (by omega) (by omega) h3 e1
   ·rw [if_neg e3];exact h p q h1 h2 h3 e1
theorem InsI.done {lt:α→α→Prop} (W:WOrd lt) {a i j:Nat} {l:List α} (h:InsI lt a i j l) (hc:j≤a∨¬ lt (l.getD j default) (l.getD (j - 1) default)):Srt lt a (i+1) l:=by
 intro p q h1 h2 h3
 by_cases e:q=j
 ·subst e
  rcases hc with hc|hc
  ·omega
  ·by_cases e2:p=q - 1
   ·rw [e2];exact hc
   ·exact W.ntr (h p (q - 1) h1 (by omega) (by omega) (by omega)) hc
 ·exact h p q h1 h2 (by omega) e
def GH (lt:α→α→Prop) (f hi k:Nat) (l:List α):Prop :=
 (2*k+1<hi→¬ lt (l.getD (f+k) default) (l.getD (f+(2*k+1)) default))∧(2*k+2<hi→¬ lt (l.getD (f+k) default) (l.getD (f+(2*k+2)) default))
def Heap (lt:α→α→Prop) (f lo hi:Nat) (l:List α):Prop:=∀ k,lo≤k→GH lt f hi k l
def SiftI (lt:α→α→Prop) (f lo hi root:Nat) (l:List α):Prop :=
 (∀ k,lo≤k→k≠root→GH lt f hi k l)∧∀ k,lo≤k→(root=2*k+1∨root=2*k+2)→∀ c,(c=2*root+1∨c=2*root+2)→c<hi→¬ lt (l.getD (f+k) default) (l.getD (f+c) default)
theorem SiftI.start {lt:α→α→Prop} {f lo hi:Nat} {l:List α} (h:Heap lt f (lo+1) hi l):SiftI lt f lo hi lo l:=⟨fun k h1 h2=>h k (by omega),fun k h1 h2=>by omega⟩
theorem SiftI.done {lt:α→α→Prop} {f lo hi root:Nat} {l:List α} (h:SiftI lt f lo hi root l) (hc:GH lt f hi root l):Heap lt f lo hi l:=fun k h1=>by
 by_cases e:k=root
 ·subst e;exact hc
 ·exact h.1 k h1 e
theorem SiftI.next {lt:α→α→Prop} (W:WOrd lt) {f lo hi root c:Nat} {l:List α} (h:SiftI lt f lo hi root l) (hr:lo≤root) (hcc:c=2*root+1∨c=2*root+2) (hch:c<hi) (hl:f+hi≤l.length)
 (hm:∀ d,(d=2*root+1∨d=2*root+2)→d<hi→¬ lt (l.getD (f+c) default) (l.getD (f+d) default)) (hc:lt (l.getD (f+root) default) (l.getD (f+c) default)) :
 SiftI lt f lo hi c (swp l (f+root) (f+c)):=by
 have g:=swp_get (l:=l) (i:=f+root) (j:=f+c) (by omega) (by omega)
 have at_c:(swp l (f+root) (f+c)).getD (f+c) default=l.getD (f+root) default:=by rw [g,if_pos rfl]
 have at_r:(swp l (f+root) (f+c)).getD (f+root) default=l.getD (f+c) default:=by rw [g,if_neg (by omega),if_pos rfl]
 have at_o:∀ k,k≠c→k≠root→(swp l (f+root) (f+c)).getD (f+k) default=l.getD (f+k) default:=fun k h1 h2=>by rw [g,if_neg (by omega),if_neg (by omega)]
 refine ⟨fun k h1 h2=>?_,fun k h1 h2 d hd hdh=>?_⟩
 ·by_cases e:k=root
  ·subst e
   refine ⟨fun q=>?_,fun q=>?_⟩
   ·rw [at_r]
    by_cases e1:2*k+1=c
    ·rw [e1,at_c];exact W.asym hc
    ·rw [at_o _ e1 (by omega)];exact hm _ (.inl rfl) q
   ·rw [at_r]
    by_cases e1:2*k+2=c
    ·rw [e1,at_c];exact W.asym hc
    ·rw [at_o _ e1 (by omega)];exact hm _ (.inr rfl) q
  ·have hk:=h.1 k h1 e
   rw [GH,at_o k h2 e]
   refine ⟨fun q=>?_,fun q=>?_⟩
   ·by_cases e1:2*k+1=root
    ·rw [e1,at_r];exact h.2 k h1 (.inl e1.symm) c hcc hch
    ·by_cases e2:2*k+1=c
     ·omega
     ·rw [at_o _ e2 e1];exact hk.1 q
   ·by_cases e1:2*k+2=root
    ·rw [e1,at_r];exact h.2 k h1 (.inr e1.symm) c hcc hch
    ·by_cases e2:2*k+2=c
     ·omega
     ·rw [at_o _ e2 e1];exact hk.2 q
 ·have e:k=root:=by omega
  subst e
  rw [at_r,at_o d (by omega) (by omega)]
  have hk:=h.1 c (by omega) (by omega)
  rcases hd with hd|hd
  ·subst hd;exact hk.1 hdh
  ·subst hd;exact hk.2 hdh
theorem Heap.max {lt:α→α→Prop} (W:WOrd lt) {f hi:Nat} {l:List α} (h:Heap lt f 0 hi l) (k:Nat) (hk:k<hi):¬ lt (l.getD (f+0) default) (l.getD (f+k) default):=by
 induction k using Nat.strongRecOn with
 | _ k ih =>
  rcases Nat.eq_zero_or_pos k with e|e
  ·subst e;exact W.irr _
  ·have hp:=h ((k - 1) / 2) (Nat.zero_le _)
   have hi':=ih ((k - 1) / 2) (by omega) (by omega)
   rcases (by omega:k=2*((k - 1) / 2)+1∨k=2*((k - 1) / 2)+2) with q|q
   ·have:=hp.1 (by omega)
    rw [← q] at this
    exact W.ntr this hi'
   ·have:=hp.2 (by omega)
    rw [← q] at this
    exact W.ntr this hi'
def HeapI (lt:α→α→Prop) (f i n:Nat) (l:List α):Prop:=Heap lt f 0 i l∧∀ p q,p<q→i≤q→q<n→¬ lt (l.getD (f+q) default) (l.getD (f+p) default)
theorem HeapI.pop {lt:α→α→Prop} (W:WOrd lt) {f i n:Nat} {l l':List α} (h:HeapI lt f (i+1) n l) (hin:i<n) (hl:f+n≤l.length) (s:Sw f (f+i) (swp l f (f+i)) l') (hh:Heap lt f 0 i l'):HeapI lt f i n l':=by
 refine ⟨hh,fun p q h1 h2 h3=>?_⟩
 have g:=swp_get (l:=l) (i:=f) (j:=f+i) (by omega) (by omega)
 have hq:l'.getD (f+q) default=if q=i then l.getD f default else l.getD (f+q) default:=by
  rw [s.out (by omega),g]
  by_cases e:q=i
  ·rw [if_pos (by omega),if_pos e]
  ·rw [if_neg (by omega),if_neg (by omega),if_neg e]
 rw [hq]
 have hp:∃ m,m<n∧(m≤i∨m=p)∧m≤q∧(m<q∨q=i)∧l'.getD (f+p) default=l.getD (f+m) default:=by
  rcases Nat.lt_or_ge p i with q1|q1
  ·obtain ⟨m,m1,m2,m3⟩:=s.in_ (k:=f+p) (by omega) (by omega)
   rw [g] at m3
   rw [if_neg (by omega)] at m3
   by_cases e:m=f
   ·rw [if_pos e] at m3
    exact ⟨i,by omega,.inl (Nat.le_refl _),by omega,by omega,m3⟩
   ·rw [if_neg e] at m3
    exact ⟨m - f,by omega,.inl (by omega),by omega,by omega,by rw [m3];congr 1;omega⟩
  ·rw [s.out (by omega),g]
   by_cases e:p=i
   ·refine ⟨0,by omega,.inl (by omega),by omega,by omega,?_⟩
    rw [if_pos (by omega)];rfl
   ·exact ⟨p,by omega,.inr rfl,by omega,by omega,by rw [if_neg (by omega),if_neg (by omega)]⟩
 obtain ⟨m,m1,m2,m3,m4,m5⟩:=hp
 rw [m5]
 by_cases e:q=i
 ·rw [if_pos e]
  exact Heap.max W h.1 m (by omega)
 ·rw [if_neg e]
  exact h.2 m q (by omega) (by omega) h3
def DoneI (lt:α→α→Prop) (a b a' b':Nat) (l:List α):Prop:=∀ i j,a≤i→i<j→j<b→(i<a'∨b'≤j)→¬ lt (l.getD j default) (l.getD i default)
theorem DoneI.start {lt:α→α→Prop} {a b:Nat} {l:List α}:DoneI lt a b a b l:=fun i j h1 h2 h3 h4=>by omega
theorem DoneI.sw {lt:α→α→Prop} {a b a' b':Nat} {l l':List α} (h:DoneI lt a b a' b' l) (s:Sw a' b' l l') (h1:a≤a') (h2:b'≤b):DoneI lt a b a' b' l':=by
 intro i j q1 q2 q3 q4
 rcases q4 with q4|q4
 ·rw [s.out (k:=i) (.inl q4)]
  rcases Nat.lt_or_ge j a' with q5|q5
  ·rw [s.out (.inl q5)];exact h i j q1 q2 q3 (.inl q4)
  ·rcases Nat.lt_or_ge j b' with q6|q6
   ·obtain ⟨m,m1,m2,m3⟩:=s.in_ q5 q6
    rw [m3];exact h i m q1 (by omega) (by omega) (.inl q4)
   ·rw [s.out (.inr q6)];exact h i j q1 q2 q3 (.inl q4)
 ·rw [s.out (k:=j) (.inr q4)]
  rcases Nat.lt_or_ge i a' with q5|q5
  ·rw [s.out (.inl q5)];exact h i j q1 q2 q3 (.inl q5)
  ·rcases Nat.lt_or_ge i b' with q6|q6
   ·obtain ⟨m,m1,m2,m3⟩:=s.in_ q5 q6
    rw [m3];exact h m j (by omega) (by omega) q3 (.inr q4)
   ·rw [s.out (.inr q6)];exact h i j q1 q2 q3 (.inr q4)
theorem DoneI.finish {lt:α→α→Prop} {a b a' b':Nat} {l:List α} (h:DoneI lt a b a' b' l) (s:Srt lt a' b' l):Srt lt a b l:=by
 intro i j q1 q2 q3
 by_cases e:i<a'∨b'≤j
 ·exact h i j q1 q2 q3 e
 ·exact s i j (by omega) q2 (by omega)
def Parted (lt:α→α→Prop) (a b m:Nat) (l:List α):Prop:=(∀ k,a≤k→k<m→lt (l.getD k default) (l.getD m default))∧∀ k,m<k→k<b→¬ lt (l.getD k default) (l.getD m default)
theorem Parted.across {lt:α→α→Prop} (W:WOrd lt) {a b m:Nat} {l:List α} (h:Parted lt a b m l) {i j:Nat} (h1:a≤i) (h2:i≤m) (h3:m≤j) (h4:j<b) (h5:i<j):¬ lt (l.getD j default) (l.getD i default):=by
 have e1:¬ lt (l.getD m default) (l.getD i default):=by
  rcases Nat.lt_or_ge i m with q|q
  ·exact W.asym (h.1 i h1 q)
  ·have:i=m:=by omega
   subst this;exact W.irr _
 have e2:¬ lt (l.getD j default) (l.getD m default):=by
  rcases Nat.lt_or_ge m j with q|q
  ·exact h.2 j q h4
  ·have:j=m:=by omega
   subst this;exact W.irr _
 exact W.ntr e1 e2
theorem DoneI.left {lt:α→α→Prop} (W:WOrd lt) {a b a' b' m:Nat} {l l':List α} (h:DoneI lt a b a' b' l) (p:Parted lt a' b' m l) (hm:a'≤m∧m<b') (hab:a≤a'∧b'≤b) (s:Sw a' m l l') (hs:Srt lt a' m l') (hl:b'≤l.length):DoneI lt a b (m+1) b' l':=by
 have h':=h.sw (s.mono (Nat.le_refl _) (by omega) hl) hab.1 hab.2
 intro i j q1 q2 q3 q4
 by_cases e:i<a'∨b'≤j
 ·exact h' i j q1 q2 q3 e
 ·rcases q4 with q4|q4
  ·rcases Nat.lt_or_ge j m with q5|q5
   ·exact hs i j (by omega) q2 q5
   ·rw [s.out (k:=j) (.inr q5)]
    rcases Nat.lt_or_ge i m with q6|q6
    ·obtain ⟨k,k1,k2,k3⟩:=s.in_ (k:=i) (by omega) q6
     rw [k3];exact p.across W k1 (by omega) q5 (by omega) (by omega)
    ·rw [s.out (.inr q6)];exact p.across W (by omega) (by omega) q5 (by omega) q2
  ·omega
theorem DoneI.right {lt:α→α→Prop} (W:WOrd lt) {a b a' b' m:Nat} {l l':List α} (h:DoneI lt a b a' b' l) (p:Parted lt a' b' m l) (hm:a'≤m∧m<b') (hab:a≤a'∧b'≤b) (s:Sw (m+1) b' l l') (hs:Srt lt (m+1) b' l') (hl:b'≤l.length):DoneI lt a b a' m l':=by
 have h':=h.sw (s.mono (by omega) (Nat.le_refl _) hl) hab.1 hab.2
 intro i j q1 q2 q3 q4
 by_cases e:i<a'∨b'≤j
 ·exact h' i j q1 q2 q3 e
 ·rcases q4 with q4|q4
  ·omega
  ·rcases Nat.lt_or_ge m i with q5|q5
   ·exact hs i j (by omega) q2 (by omega)
   ·rw [s.out (k:=i) (.inl (by omega))]
    rcases Nat.lt_or_ge m j with q6|q6
    ·obtain ⟨k,k1,k2,k3⟩:=s.in_ (k:=j) (by omega) (by omega)
     rw [k3];exact p.across W (by omega) q5 (by omega) k2 (by omega)
    ·rw [s.out (.inl (by omega))];exact p.across W (by omega) q5 (by omega) (by omega) q2
theorem DoneI.eq_ {lt:α→α→Prop} (W:WOrd lt) {a b a' b' m:Nat} {l:List α} {x:α} (h:DoneI lt a b a' b' l) (hm:a'≤m∧m≤b') (h1:∀ k,a'≤k→k<m→¬ lt x (l.getD k default)) (h2:∀ k,m≤k→k<b'→lt x (l.getD k default)) (h3:∀ k,a'≤k→k<b'→¬ lt (l.getD k default) x):DoneI lt a b m b' l:=by
 intro i j q1 q2 q3 q4
 by_cases e:i<a'∨b'≤j
 ·exact h i j q1 q2 q3 e
 ·rcases q4 with q4|q4
  ·exact W.ntr (h1 i (by omega) q4) (h3 j (by omega) (by omega))
  ·omega
theorem Sw.all {a b:Nat} {l l':List α} (s:Sw a b l l') {p:α→Prop} (h:∀ k,a≤k→k<b→p (l.getD k default)):∀ k,a≤k→k<b→p (l'.getD k default):=fun k h1 h2=>by
 obtain ⟨m,m1,m2,m3⟩:=s.in_ h1 h2
 rw [m3];exact h m m1 m2
end
end Go.Proofs.Xx
namespace Go.Proofs.Xx
set_option linter.unusedVariables false
set_option linter.unusedSectionVars false
section
variable {α:Type} [Inhabited α]
def xch (a b n k:Nat):Nat:=if a≤k∧k<a+n then k+(b - a) else if b≤k∧k<b+n then k - (b - a) else k
def IsXch (a b n:Nat) (l l':List α):Prop:=∀ k,l'.getD k default=l.getD (xch a b n k) default
theorem IsXch.zero {a b:Nat} {l:List α}:IsXch a b 0 l l:=fun k=>by
 unfold xch
 rw [if_neg (by omega),if_neg (by omega)]
theorem IsXch.next {a b i:Nat} {l l':List α} (h:IsXch a b i l l') (hab:a+i<b) (hl:b+i<l'.length):IsXch a b (i+1) l (swp l' (a+i) (b+i)):=fun k=>by
 rw [swp_get (by omega) hl]
 rw [h,h,h]
 unfold xch
 repeat' split
 all_goals first|omega|rfl|(congr 1<;>omega)
def rot (a m b k:Nat):Nat:=if k<a then k else if k<a+(b - m) then k+(m - a) else if k<b then k - (b - m) else k
def IsRot (a m b:Nat) (l l':List α):Prop:=∀ k,l'.getD k default=l.getD (rot a m b k) default
def RotI (a m b i j:Nat) (l c:List α):Prop:=∀ k,l.getD (rot a m b k) default=c.getD (rot (m - i) m (m+j) k) default
theorem RotI.start {a m b:Nat} {l:List α} (h1:a≤m) (h2:m≤b):RotI a m b (m - a) (b - m) l l:=fun k=>by
 rw [show m - (m - a)=a by omega,show m+(b - m)=b by omega]
theorem RotI.left {a m b i j:Nat} {l c c':List α} (h:RotI a m b i j l c) (hi:i≤m) (hij:j<i) (x:IsXch (m - i) m j c c'):RotI a m b (i - j) j l c':=fun k=>by
 rw [h k,x]
 congr 1
 unfold xch rot
 repeat' split
 all_goals omega
theorem RotI.right {a m b i j:Nat} {l c c':List α} (h:RotI a m b i j l c) (hi:i≤m) (hij:i<j) (x:IsXch (m - i) (m+j - i) i c c'):RotI a m b i (j - i) l c':=fun k=>by
 rw [h k,x]
 congr 1
 unfold xch rot
 repeat' split
 all_goals omega
theorem RotI.done {a m b i:Nat} {l c c':List α} (h:RotI a m b i i l c) (hi:i≤m) (x:IsXch (m - i) m i c c'):IsRot a m b l c':=fun k=>by
 rw [h k,x]
 congr 1
 unfold xch rot
 repeat' split
 all_goals omega
def IsUp (a k:Nat) (l l':List α):Prop:=∀ x,l'.getD x default=l.getD (if x<a then x else if x<k then x+1 else if x=k then a else x) default
theorem IsUp.start {a:Nat} {l:List α}:IsUp a a l l:=fun x=>by
 congr 1
 repeat' split
 all_goals omega
theorem IsUp.next {a k:Nat} {l l':List α} (h:IsUp a k l l') (hak:a≤k) (hl:k+1<l'.length):IsUp a (k+1) l (swp l' k (k+1)):=fun x=>by
 rw [swp_get (by omega) hl]
 rw [h,h,h]
 repeat' split
 all_goals first|omega|rfl|(congr 1<;>omega)
def IsDown (m k:Nat) (l l':List α):Prop:=∀ x,l'.getD x default=l.getD (if x<k then x else if x=k then m else if x≤m then x - 1 else x) default
theorem IsDown.start {m:Nat} {l:List α}:IsDown m m l l:=fun x=>by
 congr 1
 repeat' split
 all_goals omega
theorem IsDown.next {m k:Nat} {l l':List α} (h:IsDown m k l l') (hk:0<k∧k≤m) (hl:m<l'.length):IsDown m (k - 1) l (swp l' k (k - 1)):=fun x=>by
 rw [swp_get (by omega) (by omega)]
 rw [h,h,h]
 repeat' split
 all_goals first|omega|rfl|(congr 1<;>omega)
end
def zQ (key:Int→Int) (x y:Int):Prop:=key x<key y∨(key x=key y∧x<y)
theorem Zo (key:Int→Int):WOrd (zQ key) where
 irr x h:=by unfold zQ at h;omega
 tr h1 h2:=by unfold zQ at *;omega
 ntr h1 h2:=by unfold zQ at *;omega
theorem Vd {key:Int→Int} {x y:Int} (h:y<x):zQ key x y↔key x<key y:=by unfold zQ;omega
structure Mrg (key:Int→Int) (a m b:Nat) (l:List Int):Prop where
 sl:Srt (zQ key) a m l
 sr:Srt (zQ key) m b l
 cr:∀ p q,a≤p→p<m→m≤q→q<b→l.getD p default<l.getD q default
theorem Mrg.up {key:Int→Int} {a b i:Nat} {l l':List Int} (h:Mrg key a (a+1) b l) (hi:a+1≤i∧i≤b) (h1:∀ k,a+1≤k→k<i→zQ key (l.getD k default) (l.getD a default)) (h2:∀ k,i≤k→k<b→¬ zQ key (l.getD k default) (l.getD a default)) (u:IsUp a (i - 1) l l'):Srt (zQ key) a b l':=by
 have W:=Zo key
 have u1:∀ x,a≤x→x<i - 1→l'.getD x default=l.getD (x+1) default:=fun x q1 q2=>by rw [u x,if_neg (by omega),if_pos q2]
 have u2:l'.getD (i - 1) default=l.getD a default:=by
  rw [u,if_neg (by omega),if_neg (by omega),if_pos rfl]
 have u3:∀ x,i - 1<x→l'.getD x default=l.getD x default:=fun x q1=>by rw [u x,if_neg (by omega),if_neg (by omega),if_neg (by omega)]
 intro p q q1 q2 q3
 rcases Nat.lt_trichotomy p (i - 1) with e1|e1|e1
 ·rw [u1 p q1 e1]
  rcases Nat.lt_trichotomy q (i - 1) with e2|e2|e2
  ·rw [u1 q (by omega) e2];exact h.sr _ _ (by omega) (by omega) (by omega)
  ·rw [e2,u2];exact W.asym (h1 _ (by omega) (by omega))
  ·rw [u3 q e2];exact h.sr _ _ (by omega) (by omega) (by omega)
 ·rw [e1,u2,u3 q (by omega)];exact h2 _ (by omega) q3
 ·rw [u3 p e1,u3 q (by omega)];exact h.sr _ _ (by omega) (by omega) (by omega)
theorem Mrg.down {key:Int→Int} {a m i:Nat} {l l':List Int} (h:Mrg key a m (m+1) l) (hi:a≤i∧i≤m) (h1:∀ k,a≤k→k<i→¬ zQ key (l.getD m default) (l.getD k default)) (h2:∀ k,i≤k→k<m→zQ key (l.getD m default) (l.getD k default)) (u:IsDown m i l l'):Srt (zQ key) a (m+1) l':=by
 have W:=Zo key
 have u1:∀ x,x<i→l'.getD x default=l.getD x default:=fun x q1=>by rw [u x,if_pos q1]
 have u2:l'.getD i default=l.getD m default:=by
  rw [u,if_neg (by omega),if_pos rfl]
 have u3:∀ x,i<x→x≤m→l'.getD x default=l.getD (x - 1) default:=fun x q1 q2=>by rw [u x,if_neg (by omega),if_neg (by omega),if_pos q2]
 intro p q q1 q2 q3
 rcases Nat.lt_trichotomy p i with e1|e1|e1
 ·rw [u1 p e1]
  rcases Nat.lt_trichotomy q i with e2|e2|e2
  ·rw [u1 q e2];exact h.sl _ _ (by omega) (by omega) (by omega)
  ·rw [e2,u2];exact h1 _ (by omega) (by omega)
  ·rw [u3 q e2 (by omega)];exact h.sl _ _ (by omega) (by omega) (by omega)
 ·rw [e1,u2,u3 q (by omega) (by omega)];exact W.asym (h2 _ (by omega) (by omega))
 ·rw [u3 p e1 (by omega),u3 q (by omega) (by omega)];exact h.sl _ _ (by omega) (by omega) (by omega)
structure SrI (key:Int→Int) (a m b mid s r:Nat) (l:List Int):Prop where
 lo:(if m > mid then mid+m - b else a)≤s
 sr:s≤r
 hi:r≤(if m > mid then mid else m)
 low:(if m > mid then mid+m - b else a)<s→¬ zQ key (l.getD (mid+m - s) default) (l.getD (s - 1) default)
 high:r<(if m > mid then mid else m)→zQ key (l.getD (mid+m - 1 - r) default) (l.getD r default)
theorem Mrg.search {key:Int→Int} {a m b mid s:Nat} {l l2:List Int} (h:Mrg key a m b l) (hm:mid=(a+b) / 2) (hab:a<m∧m<b) (I:SrI key a m b mid s s l)
 (hr:IsRot s m (mid+m - s) l l2):(a≤s∧s≤mid∧s≤m∧m≤mid+m - s∧mid+m - s≤b)∧Mrg key a s mid l2∧Mrg key mid (mid+m - s) b l2∧∀ x y,a≤x→x<mid→mid≤y→y<b→¬ zQ key (l2.getD y default) (l2.getD x default):=by
 have W:=Zo key
 have lo:=I.lo
 have hi:=I.hi
 have low:=I.low
 have high:=I.high
 have hs:a≤s∧s≤mid∧s≤m∧m≤mid+m - s∧mid+m - s≤b:=by
  split at lo<;>split at hi<;>omega
 have r1:∀ k,k<s→l2.getD k default=l.getD k default:=fun k hk=>by rw [hr k];unfold rot;rw [if_pos hk]
 have r2:∀ k,s≤k→k<mid→l2.getD k default=l.getD (k+(m - s)) default:=fun k h1 h2=>by rw [hr k];unfold rot;rw [if_neg (by omega),if_pos (by omega)]
 have r3:∀ k,mid≤k→k<mid+m - s→l2.getD k default=l.getD (k - (mid - s)) default:=fun k h1 h2=>by
  rw [hr k];unfold rot;rw [if_neg (by omega),if_neg (by omega),if_pos (by omega)];congr 1;omega
 have r4:∀ k,mid+m - s≤k→l2.getD k default=l.getD k default:=fun k h1=>by rw [hr k];unfold rot;rw [if_neg (by omega),if_neg (by omega),if_neg (by omega)]
 refine ⟨hs,⟨fun i j q1 q2 q3=>?_,fun i j q1 q2 q3=>?_,fun p q q1 q2 q3 q4=>?_⟩,⟨fun i j q1 q2 q3=>?_,fun i j q1 q2 q3=>?_,fun p q q1 q2 q3 q4=>?_⟩,fun x y q1 q2 q3 q4=>?_⟩
 ·rw [r1 i (by omega),r1 j q3];exact h.sl i j q1 q2 (by omega)
 ·rw [r2 i q1 (by omega),r2 j (by omega) q3];exact h.sr _ _ (by omega) (by omega) (by omega)
 ·rw [r1 p q2,r2 q q3 q4];exact h.cr _ _ q1 (by omega) (by omega) (by omega)
 ·rw [r3 i q1 (by omega),r3 j (by omega) q3];exact h.sl _ _ (by omega) (by omega) (by omega)
 ·rw [r4 i q1,r4 j (by omega)];exact h.sr _ _ (by omega) q2 q3
 ·rw [r3 p q1 q2,r4 q q3];exact h.cr _ _ (by omega) (by omega) (by omega) q4
 ·
  have le_of:∀ {i j:Nat},a≤i→i≤j→j<m→¬ zQ key (l.getD j default) (l.getD i default):=fun {i j} g1 g2 g3=>by
   rcases Nat.lt_or_ge i j with q|q
   ·exact h.sl i j g1 q g3
   ·have:i=j:=by omega
    subst this;exact W.irr _
  have le_of2:∀ {i j:Nat},m≤i→i≤j→j<b→¬ zQ key (l.getD j default) (l.getD i default):=fun {i j} g1 g2 g3=>by
   rcases Nat.lt_or_ge i j with q|q
   ·exact h.sr i j g1 q g3
   ·have:i=j:=by omega
    subst this;exact W.irr _
  rcases Nat.lt_or_ge x s with e1|e1
  ·rw [r1 x e1]
   rcases Nat.lt_or_ge y (mid+m - s) with e2|e2
   ·rw [r3 y q3 e2];exact le_of q1 (by omega) (by omega)
   ·rw [r4 y e2]
    have g:¬ zQ key (l.getD (mid+m - s) default) (l.getD (s - 1) default):=low (by split<;>omega)
    have g1:¬ zQ key (l.getD (s - 1) default) (l.getD x default):=le_of q1 (by omega) (by omega)
    have g2:¬ zQ key (l.getD y default) (l.getD (mid+m - s) default):=le_of2 (by omega) e2 q4
    exact W.ntr (W.ntr g1 g) g2
  ·rw [r2 x e1 q2]
   rcases Nat.lt_or_ge y (mid+m - s) with e2|e2
   ·rw [r3 y q3 e2]
    have g:zQ key (l.getD (mid+m - 1 - s) default) (l.getD s default):=high (by split<;>omega)
    have g1:¬ zQ key (l.getD (y - (mid - s)) default) (l.getD s default):=le_of (by omega) (by omega) (by omega)
    have g2:¬ zQ key (l.getD (mid+m - 1 - s) default) (l.getD (x+(m - s)) default):=le_of2 (by omega) (by omega) (by omega)
    exact W.ntr (W.ntr g2 (W.asym g)) g1
   ·rw [r4 y e2];exact le_of2 (by omega) (by omega) q4
theorem YE {key:Int→Int} {a mid b:Nat} {l2 l3 l4:List Int} (hc:∀ x y,a≤x→x<mid→mid≤y→y<b→¬ zQ key (l2.getD y default) (l2.getD x default)) (s3:Sw a mid l2 l3) (h3:Srt (zQ key) a mid l3) (s4:Sw mid b l3 l4) (h4:Srt (zQ key) mid b l4) (hm:mid≤b):Srt (zQ key) a b l4:=by
 intro i j q1 q2 q3
 rcases Nat.lt_or_ge j mid with e1|e1
 ·rw [s4.out (.inl e1),s4.out (k:=i) (.inl (by omega))];exact h3 i j q1 q2 e1
 ·rcases Nat.lt_or_ge i mid with e2|e2
  ·rw [s4.out (k:=i) (.inl e2)]
   obtain ⟨n,n1,n2,n3⟩:=s4.in_ e1 q3
   obtain ⟨k,k1,k2,k3⟩:=s3.in_ q1 e2
   rw [n3,k3,s3.out (.inr n1)]
   exact hc k n k1 k2 n1 n2
  ·exact h4 i j e2 q2 q3
theorem Mrg.qds {key:Int→Int} {a mid m b:Nat} {l2 l3:List Int} (h:Mrg key mid m b l2) (s:Sw a mid l2 l3) (hm:mid≤m):Mrg key mid m b l3:=by
 have e:∀ k,mid≤k→l3.getD k default=l2.getD k default:=fun k hk=>s.out (.inr hk)
 exact ⟨fun i j q1 q2 q3=>by rw [e i q1,e j (by omega)];exact h.sl i j q1 q2 q3,fun i j q1 q2 q3=>by rw [e i (by omega),e j (by omega)];exact h.sr i j q1 q2 q3,fun p q q1 q2 q3 q4=>by rw [e p q1,e q (by omega)];exact h.cr p q q1 q2 q3 q4⟩
set_option linter.unusedSimpArgs false
set_option maxRecDepth 100000
def qaC (h0:AH) (g:Nat) (cap:List Value) (key:Int→Int) (p:Int→Prop):Prop :=
 ∀ h x y,Ext h0 h→p x→p y→Fn Tryz.prog Xh g (.int .i64 x :: .int .i64 y :: cap) h (fun v h'=>∃ d,v = .int .i64 d∧(d<0↔key x<key y)∧Hs h h' [])
def Inc (a b:Nat) (l:List Int):Prop:=∀ i j,a≤i→i<j→j<b→l.getD i default<l.getD j default
abbrev QR (g:Nat) (cap:List Value):Value:=.func (.func g) #[] cap.toArray
theorem qP (j:Nat):((j:Int) - 1).toNat=j - 1:=by omega
theorem qX (j:Nat):((j:Int)+1).toNat=j+1:=by omega
theorem zg (i j:Nat):((i:Int)+(j:Int)).toNat=i+j:=by omega
theorem qbW {h0 h:AH} {rs:List Rs} {v:Value} {l:List Int} {g:Nat} {cap:List Value} {key:Int→Int} {p:Int→Prop} (a b:Nat) (S:Hs h0 h (.sl v 3 1 eI l :: rs)) (C:qaC h0 g cap key p) (hp:∀ k,a≤k→k<b→p (l.getD k default)) (hab:a≤b) (hb:b≤l.length) (hl:l.length≤1000000) (hi:Inc a b l) :
 Fn Tryz.prog Xh 178 [v,.int .i64 a,.int .i64 b,QR g cap] h (fun _ h'=>∃ l',Sw a b l l'∧Srt (zQ key) a b l'∧Hs h0 h' (.sl v 3 1 eI l' :: rs)):=by
 have W:=Zo key
 refine qF rfl Tryz.func178 rfl rfl ?_
 all_goals (repeat' (first|refine qi ?_|refine qm ?_|(refine qf 0 ?_;refine mv ?_;refine ad ?_;refine mv ?_;refine qg ?_)))
 refine qE (σ:=Nat×List Int) (fun (i,m) h'=>Hs h0 h' (.sl v 3 1 eI m :: rs)∧a<i∧Sw a (min i b) l m∧Srt (zQ key) a (min i b) m) (fun (i,m)=>b - i) (fun (i,m)=>[(0,v),(1,.int .i64 a),(2,.int .i64 b),(3,QR g cap),(8,.int .i64 i)]) (a+1,l) (by repeat (first|exact Ks.le_nil _|refine Ks.qh rfl ?_)) ?_ ?_
 ·exact ⟨S,by omega,.refl _,fun i j q1 q2 q3=>by omega⟩
 clear S
 rintro ⟨i,m⟩ h ⟨S,h1,h2,h3⟩
 have hml:=h2.len
 all_goals (repeat' (first|refine qi ?_|refine ql rfl ?_|refine qo ?_|refine qA ?_|refine qm ?_|(refine qf 1 ?_;refine mv ?_;refine mv ?_;(first|(refine cS ?_ ?_<;>intro hc))<;>(refine qg ?_))|(refine qf 3 ?_;refine mv ?_;refine mv ?_;refine qg ?_)))
 ·have hib:i<b:=by omega
  rw [Nat.min_eq_left (by omega)] at h2 h3
  refine qE (σ:=Nat×List Int) (fun (j,n) h'=>Hs h0 h' (.sl v 3 1 eI n :: rs)∧a≤j∧j≤i∧Sw a (i+1) l n∧InsI (zQ key) a i j n∧n.getD j default=l.getD i default∧∀ k,a≤k→k≤i→k≠j→n.getD k default<l.getD i default) (fun (j,n)=>j) (fun (j,n)=>[(0,v),(1,.int .i64 a),(2,.int .i64 b),(3,QR g cap),(8,.int .i64 i),(9,.int .i64 j)]) (i,m) (by repeat (first|exact Ks.le_nil _|refine Ks.qh rfl ?_)) ?_ ?_
  ·refine ⟨S,by omega,Nat.le_refl _,h2.mono (Nat.le_refl _) (by omega) (by omega),InsI.start h3,h2.out (.inr (Nat.le_refl _)),fun k q1 q2 q3=>?_⟩
   obtain ⟨r,r1,r2,r3⟩:=h2.in_ q1 (by omega)
   rw [r3];exact hi r i r1 r2 hib
  clear S h2 h3 hml
  rintro ⟨j,n⟩ h ⟨S,k1,k2,k3,k4,k5,k6⟩
  have hnl:=k3.len
  have hpn:=fun k (q1:a≤k) (q2:k<b)=>(k3.mono (Nat.le_refl _) (by omega) hb).all hp k q1 q2
  all_goals (repeat' (first|refine qi ?_|refine ql rfl ?_|refine qA ?_|(refine qf 2 ?_;refine mv ?_;refine ad ?_;refine mv ?_;refine qg ?_)|(refine qO 4 ?_;refine mv ?_;refine mv ?_;(first|(refine cS ?_ ?_<;>intro hc))<;>(refine mv ?_;(first|refine off ?_|refine mv ?_);(first|refine off ?_|refine mv ?_);(first|refine off ?_|refine mv ?_);(first|refine off ?_|(refine qH S rfl rfl ?_));(first|refine off ?_|(refine qI S rfl rfl ?_));(first|refine off ?_|refine mv ?_);(first|refine off ?_|refine mv ?_);(first|refine off ?_|(refine sb ?_));(first|refine off ?_|(refine qH S rfl rfl ?_));(first|refine off ?_|(refine qI S rfl rfl ?_));(first|(refine off ?_;(refine off ?_)<;>(refine vl ?_;refine qg ?_))|skip)))))
  ·simp only [qP,Int.toNat_natCast]
   (refine qN rfl rfl rfl rfl ((C _ _ _ S.ext (hpn j (by omega) (by omega)) (hpn (j - 1) (by omega) (by omega))).mono ?_);rintro _ h ⟨d,rfl,hd,x⟩)<;>(replace S:=S.qy x;clear x;have hd:=hd.trans (Vd (show n.getD (j - 1) default<n.getD j default by rw [k5];exact k6 _ (by omega) (by omega) (by omega))).symm;(first|(first|(refine cS ?_ ?_<;>intro hc)))<;>(refine vl ?_;refine qg ?_))
   all_goals (repeat' (first|refine qi ?_|refine ql rfl ?_|refine qo ?_|refine qA ?_|refine qm ?_|(refine qf 2 ?_;refine mv ?_;refine ad ?_;refine mv ?_;refine qg ?_)|(refine qf 5 ?_;refine mv ?_;refine sb ?_;refine mv ?_;refine qg ?_)|(refine qO 6 ?_;(iterate 4 refine mv ?_);refine sb ?_;refine mv ?_;refine mv ?_;refine sb ?_;refine qH S rfl rfl ?_;refine qI S rfl rfl ?_;refine mv ?_;refine mv ?_;refine qH S rfl rfl ?_;refine qI S rfl rfl ?_;refine qH S rfl rfl ?_;(first|(refine ZK S rfl rfl ?_;clear S;intro h S));refine qH S rfl rfl ?_;(first|(refine ZK S rfl rfl ?_;clear S;intro h S));refine qg ?_)))
   ·simp only [qP,Int.toNat_natCast] at S
    have hjs:=k4.next W (by omega) k2 (by omega) (hd.1 (by assumption))
    refine ⟨(j - 1,swp n j (j - 1)),?_,?_,(by repeat (first|exact Ks.le_nil _|refine Ks.qh rfl ?_|refine Ks.zf ?_))⟩
    ·show j - 1<j;omega
    ·refine ⟨S,by omega,by omega,k3.step j (j - 1) ⟨by omega,by omega⟩ ⟨by omega,by omega⟩ (by omega),hjs,?_,fun k q1 q2 q3=>?_⟩
     ·rw [swp_get (by omega) (by omega),if_pos rfl];exact k5
     ·rw [swp_get (by omega) (by omega),if_neg q3]
      split
      ·exact k6 _ (by omega) (by omega) (by omega)
      ·exact k6 _ q1 q2 (by assumption)
   ·refine ⟨(i+1,n),?_,?_,(by repeat (first|exact Ks.le_nil _|refine Ks.qh rfl ?_))⟩
    ·show b - (i+1)<b - i;omega
    ·simp only [Nat.min_eq_left (show i+1≤b by omega)]
     exact ⟨S,by omega,k3,k4.done W (.inr fun q=>absurd (hd.2 q) (by assumption))⟩
  ·refine ⟨(i+1,n),?_,?_,(by repeat (first|exact Ks.le_nil _|refine Ks.qh rfl ?_))⟩
   ·show b - (i+1)<b - i;omega
   ·simp only [Nat.min_eq_left (show i+1≤b by omega)]
    exact ⟨S,by omega,k3,k4.done W (.inl (by omega))⟩
 ·rw [Nat.min_eq_right (by omega)] at h2 h3
  refine ⟨_,rfl,?_⟩
  exact ⟨m,h2,h3,S⟩
theorem qaE {h0 h:AH} {rs:List Rs} {v:Value} {l:List Int} {cv:Value} (a b n:Nat) (S:Hs h0 h (.sl v 3 1 eI l :: rs)) (hab:a+n≤b) (hb:b+n≤l.length) (hl:l.length≤1000000) :
 Fn Tryz.prog Xh 233 [v,.int .i64 a,.int .i64 b,.int .i64 n,cv] h (fun _ h'=>∃ l',Sw a (b+n) l l'∧IsXch a b n l l'∧Hs h0 h' (.sl v 3 1 eI l' :: rs)):=by
 refine qF rfl Tryz.func233 rfl rfl ?_
 all_goals (repeat' (first|refine qi ?_|refine qm ?_|(refine qf 0 ?_;refine mv ?_;refine qg ?_)))
 refine qE (σ:=Nat×List Int) (fun (i,m) h'=>Hs h0 h' (.sl v 3 1 eI m :: rs)∧i≤n∧Sw a (b+n) l m∧IsXch a b i l m) (fun (i,m)=>n - i) (fun (i,m)=>[(0,v),(1,.int .i64 a),(2,.int .i64 b),(3,.int .i64 n),(10,.int .i64 i)]) (0,l) (by repeat (first|exact Ks.le_nil _|refine Ks.qh rfl ?_)) ?_ ?_
 ·exact ⟨S,Nat.zero_le _,.refl _,.zero⟩
 clear S
 rintro ⟨i,m⟩ h ⟨S,h1,h2,h3⟩
 have hml:=h2.len
 all_goals (repeat' (first|refine qi ?_|refine ql rfl ?_|refine qo ?_|refine qA ?_|refine qm ?_|(refine qf 1 ?_;refine mv ?_;refine mv ?_;(first|(refine cS ?_ ?_<;>intro hc))<;>(refine qg ?_))|(refine qf 2 ?_;refine mv ?_;refine ad ?_;refine mv ?_;refine qg ?_)|(refine qO 3 ?_;(iterate 3 refine mv ?_);refine ad ?_;(iterate 3 refine mv ?_);refine ad ?_;(iterate 3 refine mv ?_);refine ad ?_;refine qH S rfl rfl ?_;refine qI S rfl rfl ?_;(iterate 3 refine mv ?_);refine ad ?_;refine qH S rfl rfl ?_;refine qI S rfl rfl ?_;refine qH S rfl rfl ?_;(first|(refine ZK S rfl rfl ?_;clear S;intro h S));refine qH S rfl rfl ?_;(first|(refine ZK S rfl rfl ?_;clear S;intro h S));refine qg ?_)))
 ·simp only [zg] at S
  refine ⟨(i+1,swp m (a+i) (b+i)),?_,?_,(by repeat (first|exact Ks.le_nil _|refine Ks.qh rfl ?_))⟩
  ·show n - (i+1)<n - i;omega
  ·exact ⟨S,by omega,h2.step _ _ ⟨by omega,by omega⟩ ⟨by omega,by omega⟩ (by omega),h3.next (by omega) (by omega)⟩
 ·obtain rfl:i=n:=by omega
  refine ⟨_,rfl,?_⟩
  exact ⟨m,h2,h3,S⟩
theorem qf3 {h0 h:AH} {rs:List Rs} {v:Value} {l:List Int} {cv:Value} (a m b:Nat) (S:Hs h0 h (.sl v 3 1 eI l :: rs)) (hab:a<m∧m<b) (hb:b≤l.length) (hl:l.length≤1000000) :
 Fn Tryz.prog Xh 217 [v,.int .i64 a,.int .i64 m,.int .i64 b,cv] h (fun _ h'=>∃ l',Sw a b l l'∧IsRot a m b l l'∧Hs h0 h' (.sl v 3 1 eI l' :: rs)):=by
 refine qF rfl Tryz.func217 rfl rfl ?_
 all_goals (repeat' (first|refine qi ?_|refine qm ?_|(refine qf 0 ?_;refine mv ?_;refine mv ?_;refine sb ?_;refine mv ?_;refine qg ?_)|(refine qf 1 ?_;refine mv ?_;refine mv ?_;refine sb ?_;refine mv ?_;refine qg ?_)))
 refine qE (σ:=Nat×Nat×List Int) (fun (i,j,c) h'=>Hs h0 h' (.sl v 3 1 eI c :: rs)∧0<i∧0<j∧i≤m - a∧j≤b - m∧Sw a b l c∧RotI a m b i j l c) (fun (i,j,c)=>i+j) (fun (i,j,c)=>[(0,v),(1,.int .i64 a),(2,.int .i64 m),(3,.int .i64 b),(4,cv),(10,.int .i64 i),(11,.int .i64 j)]) (m - a,b - m,l) (by repeat (first|exact Ks.le_nil _|refine Ks.qh rfl ?_|refine Ks.zf ?_)) ?_ ?_
 ·exact ⟨S,by omega,by omega,by omega,by omega,.refl _,.start (by omega) (by omega)⟩
 clear S
 rintro ⟨i,j,c⟩ h ⟨S,h1,h2,h3,h4,h5,h6⟩
 have hcl:=h5.len
 have e1:(m:Int) - i=((m - i:Nat):Int):=by omega
 all_goals (repeat' (first|refine qi ?_|refine ql rfl ?_|refine qo ?_|refine qA ?_|refine qm ?_|(refine qf 2 ?_;refine mv ?_;refine mv ?_;(first|(refine cS ?_ ?_<;>intro hc))<;>(refine qg ?_))|(refine qf 3 ?_;refine mv ?_;refine mv ?_;(first|(refine cS ?_ ?_<;>intro hc))<;>(refine qg ?_))|(refine qf 4 ?_;(iterate 3 refine mv ?_);refine sb ?_;(iterate 3 refine mv ?_);skip)|(refine qf 6 ?_;(iterate 3 refine mv ?_);refine sb ?_;refine mv ?_;refine mv ?_;refine ad ?_;refine mv ?_;refine sb ?_;refine mv ?_;refine mv ?_)|(refine qf 8 ?_;(iterate 3 refine mv ?_);refine sb ?_;(iterate 3 refine mv ?_);skip)))
 ·rw [e1]
  (refine qw rfl rfl rfl rfl rfl ((qaE (m - i) m j S (by omega) (by omega) (by omega)).mono ?_);rintro _ h ⟨c2,g1,g2,S2⟩)<;>(replace S:=S2;clear S2;refine qg ?_)
  all_goals (repeat' (first|(refine qf 5 ?_;refine mv ?_;refine mv ?_;refine sb ?_;refine mv ?_;refine qg ?_)))
  refine ⟨(i - j,j,c2),?_,?_,(by repeat (first|exact Ks.le_nil _|refine Ks.qh rfl ?_|refine Ks.zf ?_))⟩
  ·show i - j+j<i+j;omega
  ·exact ⟨S,by omega,h2,by omega,h4,h5.trans (g1.mono (by omega) (by omega) (by omega)),h6.left (by omega) (by omega) g2⟩
 ·have e2:(m:Int)+j - i=((m+j - i:Nat):Int):=by omega
  rw [e1,e2]
  (refine qw rfl rfl rfl rfl rfl ((qaE (m - i) (m+j - i) i S (by omega) (by omega) (by omega)).mono ?_);rintro _ h ⟨c2,g1,g2,S2⟩)<;>(replace S:=S2;clear S2;refine qg ?_)
  all_goals (repeat' (first|(refine qf 7 ?_;refine mv ?_;refine mv ?_;refine sb ?_;refine mv ?_;refine qg ?_)))
  refine ⟨(i,j - i,c2),?_,?_,(by repeat (first|exact Ks.le_nil _|refine Ks.qh rfl ?_|refine Ks.zf ?_))⟩
  ·show i+(j - i)<i+j;omega
  ·exact ⟨S,h1,by omega,h3,by omega,h5.trans (g1.mono (by omega) (by omega) (by omega)),h6.right (by omega) (by omega) g2⟩
 ·obtain rfl:i=j:=by omega
  rw [e1]
  (refine qw rfl rfl rfl rfl rfl ((qaE (m - i) m i S (by omega) (by omega) (by omega)).mono ?_);rintro _ h ⟨c2,g1,g2,S2⟩)<;>(replace S:=S2;clear S2;refine qg ?_)
  all_goals (repeat' (fail))
  refine ⟨_,rfl,?_⟩
  exact ⟨c2,h5.trans (g1.mono (by omega) (by omega) (by omega)),h6.done (by omega) g2,S⟩
end Go.Proofs.Xx
