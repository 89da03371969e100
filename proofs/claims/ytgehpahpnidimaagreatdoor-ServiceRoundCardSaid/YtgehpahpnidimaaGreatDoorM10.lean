/-
  Problems of numbers.
-/
import Derived.Test.YtgehpahpnidimaaGreatDoorM9
import Derived.Test.YtgehpahpnidimaaGreatDoorM8
set_option linter.unusedSimpArgs false
set_option linter.unusedVariables false
set_option linter.unusedSectionVars false
set_option maxRecDepth 100000
set_option maxHeartbeats 4000000
namespace Go.Proofs.Xx
open Go Go.Proofs
def e32 (x:Nat):List Value:=[.int .u32 x]
def OpOk (l:List Tab) (h:AH) (fp:Fp):Prop:=∀ t∈l,(Rs.rd t.ov 1 eI t.opn).ok h fp
abbrev VT (l:List Tab):Rs:=.any (OpOk l)
theorem OpOk.rd {h:AH} {fp:Fp} {gs:List Tab} (k:OpOk gs h fp) {i:Nat} (hi:i<gs.length):zo h (tb gs i).ov 1 eI (tb gs i).opn:=by
 have q:=k _ (List.getElem_mem hi);show zo h (gs.getD i default).ov 1 eI (gs.getD i default).opn
 rw [show gs.getD i default=gs[i] by rw [zA2,zA4 hi];rfl];rcases q with ⟨q1,q2⟩|⟨b,o,cap,cc,e,s,r,q1,q2,q3,q4⟩
 ·exact .inl ⟨q1,by rw [q2];rfl,by rw [q2];rfl⟩
 ·exact .inr ⟨b,o,cap,cc,e,s,r,q1,q2,q4⟩
theorem Hs.opApp {h0 h:AH} {rs:List Rs} {gs:List Tab} {g:Tab} {e:TypeId} (S:Hs h0 h (.sl g.ov e 1 eI g.opn :: VT gs :: rs)):Hs h0 h (VT (gs ++ [g]) :: rs):=by
 obtain ⟨f1,k1,k2,f2,k3,k4,k5⟩:=S.sep;refine ⟨S.ext,fun b=>f1 b∨f2 b,fun h' q g' hg=>?_,fun b hb=>?_,k5.mono fun b hb=>⟨trivial,fun q=>?_⟩⟩
 ·rcases zB8.1 hg with hg|hg
  ·exact We (k3 h' (fun b hb=>q b (.inr hb)) g' hg) fun b hb=>.inr hb
  ·obtain rfl:=zB5.1 hg;exact We (qef (k1.local fun b hb=>q b (.inl hb))) fun b hb=>.inl hb
 ·rcases hb with hb|hb
  ·exact k2 b hb
  ·exact ⟨(k4 b hb).1,(k4 b hb).2.1,trivial⟩
 ·rcases q with q|q
  ·exact hb.1.2 q
  ·exact hb.2 q
structure NuV where
 vt:SlV
 vg:SlV
 vi:SlV
 vr:SlV
abbrev NuV.cs (v:NuV):List Value:=[v.vt.val,v.vg.val,v.vi.val,v.vr.val]
structure NuR (h:AH) (v:NuV) (a b c d:List Nat):Prop where
 ra:zo h v.vt.val 1 eU a
 rb:zo h v.vg.val 1 e16 b
 cap:zV v.vg.val
 rc:zo h v.vi.val 1 eU c
 rd:zo h v.vr.val 1 e32 d
 la:a.length≤9223372036854775807
 lb:b.length≤9223372036854775807
 lc:c.length≤9223372036854775807
 ld:d.length≤9223372036854775807
 ha:∀ i,i<a.length→a.getD i default<256
 hb:∀ i,i<b.length→b.getD i default<65536
 hc:∀ i,i<c.length→c.getD i default<256
 hd:∀ i,i<d.length→d.getD i default<4294967296
abbrev PbR (v:PbV) (p:Pb):List Rs:=[.sl v.vt.val 84 7 eT p.tabs,.sl v.vg.val 125 9 eG v.gs,.sl v.vi.val 174 3 jD p.ts,.sl v.vc.val 3 1 eI p.cl,.sl v.vr.val 155 6 JI p.ru,Jw v.gs,VT p.tabs]
def TabsM (l:List Tab):Prop:=∀ j,j<l.length→(∃ m,m<256∧qgs j m (tb l j))∧chk (tb l j)=0∧(tb l j).opn.length≤24
theorem TabsM.valid {l:List Tab} (h:TabsM l) (hl:l.length≤16):ValidL l:=⟨hl,fun j hj=>⟨(h j hj).2.1,fun ⟨i,hi,he⟩=>by
 obtain ⟨⟨m,-,h1⟩,-⟩:=h i (by omega);obtain ⟨⟨m',-,h2⟩,-⟩:=h j hj;rw [h1.name,h2.name] at he;have:=qar (by omega) (by omega) he;omega⟩⟩
theorem gy {l:List Tab} {t:Tab} (n:Nat):n≤l.length→sumT (l ++ [t]) n=sumT l n:=by
 induction n with
 | zero=>intro _;rfl
 | succ n ih =>
  intro h;have e:tb (l ++ [t]) n=tb l n:=by unfold tb;rw [wU (show n<l.length by omega)]
  simp only [sumT,ih (by omega),e]
theorem qcd {h0:AH} (w:WfH h0) (v:NuV) (a b c d:List Nat) (H:NuR h0 v a b c d):Fn Tryz.prog Xh 49 [.agg #[v.vt.val,v.vg.val,v.vi.val,v.vr.val]] h0 (fun u h'=>∃ pv p,u=pv.val∧PO p∧(∀ i,i<pv.gs.length→(pv.gs.getD i default).tg.length≤4)∧pv.gs.map (·.toGu)=p.us∧p.ru.length≤12∧TabsM p.tabs∧p.tabs.length≤3∧p.us.length≤12∧Hs h0 h' (PbR pv p)):=by
 have S:=Hs.start w;have hra:=H.ra;have hrb:=H.rb;have hrc:=H.rc;have hrd:=H.rd;have hla:=H.la;have hlb:=H.lb;have hlc:=H.lc;have hld:=H.ld;have hA:∀ i,a.getD i default<256:=fun i=>by
  rcases zA7 i a.length with q|q
  ·exact H.ha i q
  ·rw [zA2,zG5 q];decide
 refine qM (by first|rfl) Tryz.func49 rfl rfl ?_;all_goals (repeat' (first|refine qg ?_|(refine qc 0 ?_;(refine bx S ?_;clear S;intro b h S);(refine al S ?_;clear S;intro b h S);refine qf ?_)))
 rename_i bn h1
 obtain ⟨br,hnm⟩:∃ x,x=b:=⟨_,rfl⟩;subst hnm;all_goals (repeat' (first|refine qg ?_|(refine qc 1 ?_;(refine al S ?_;clear S;intro b h S);refine qf ?_)))
 obtain ⟨bp,hnm⟩:∃ x,x=b:=⟨_,rfl⟩;subst hnm;all_goals (repeat' (first|refine qg ?_|(refine qc 2 ?_;refine mv ?_;refine qf ?_)|(refine qc 3 ?_;refine mv ?_;refine qf ?_)))
 have S:=(S.nilS (e:=84) (z:=7) (enc:=eT)).anyS (p:=OpOk []) fun h' g hg=>by cases hg
 replace S:Hs h0 h [VT [],.sl (SlV.val ⟨none,0,0⟩) 84 7 eT [],.blk bp [SlV.val ⟨none,0,0⟩,.slice none 0 0,.slice none 0 0,.slice none 0 0,.slice none 0 0] 28,.blk br [.slice none 0 0,.slice none 0 0,.slice none 0 0,.slice none 0 0,.slice none 0 0] 28,.blk bn v.cs 39]:=S;(repeat (refine qg ?_));first|refine Qb (σ:=List Tab×SlV) (fun (l,vt) h'=>Hs h0 h' [VT l,.sl vt.val 84 7 eT l,.blk bp [vt.val,.slice none 0 0,.slice none 0 0,.slice none 0 0,.slice none 0 0] 28,.blk br [.slice none 0 0,.slice none 0 0,.slice none 0 0,.slice none 0 0,.slice none 0 0] 28,.blk bn v.cs 39]∧TabsM l∧l.length≤3) (fun (l,vt)=>[(1,.pointer (some ⟨bn,0,none⟩)),(2,.pointer (some ⟨br,0,none⟩)),(3,.pointer (some ⟨bp,0,none⟩)),(4,.int .i64 (sumT l l.length))]) ?_ ?_
 ·all_goals (repeat' (refine qp ?_))
  refine qL (σ:=List Tab×SlV) (fun (l,vt) h'=>Hs h0 h' [VT l,.sl vt.val 84 7 eT l,.blk bp [vt.val,.slice none 0 0,.slice none 0 0,.slice none 0 0,.slice none 0 0] 28,.blk br [.slice none 0 0,.slice none 0 0,.slice none 0 0,.slice none 0 0,.slice none 0 0] 28,.blk bn v.cs 39]∧TabsM l∧l.length≤3) (fun (l,vt)=>3 - l.length) (fun (l,vt)=>[(1,.pointer (some ⟨bn,0,none⟩)),(2,.pointer (some ⟨br,0,none⟩)),(3,.pointer (some ⟨bp,0,none⟩)),(4,.int .i64 (sumT l l.length)),(5,.int .i64 l.length)]) ([],⟨none,0,0⟩) qy ?_ ?_
  ·exact ⟨S,fun j hj=>absurd hj (zB7 _),zB0 _⟩
  clear S;rintro ⟨l,vt⟩ h ⟨S,g1,g2⟩;have g3:=jg l l.length;have hm2:=hA (l.length:Int).toNat;all_goals (repeat' (first|refine qg ?_|refine qi rfl ?_|refine qj ?_|refine qA ?_|refine qp ?_|(refine qc 4 ?_;refine mv ?_;refine vl ?_;refine lB S rfl rfl ?_;refine jZ S ?_;(first|(refine cS ?_ ?_<;>intro hc))<;>(refine mv ?_;(first|refine off ?_|refine mv ?_);(first|refine off ?_|(first|(refine cS ?_ ?_<;>intro hc)))<;>(refine vl ?_;refine qf ?_)))|(refine qc 6 ?_;refine mv ?_;refine vl ?_;refine lB S rfl rfl ?_;refine mv ?_;refine QE S ?_;refine Qk S ?_;refine cI ?_)))
  ·obtain ⟨m,hm⟩:∃ m,a.getD (l.length:Int).toNat default=m:=⟨_,rfl⟩
   rw [hm] at hm2 ⊢;(refine qx rfl rfl rfl rfl rfl ((qbs S.wf l.length m (by omega) hm2).mono ?_);rintro _ h ⟨t,rfl,k1,k2,k3,x⟩)<;>(replace S:=S.join1 x;clear x;(refine al S ?_;clear S;intro b h S);(first|(refine sB S rfl rfl ?_;clear S;intro h S));refine qf ?_)
   all_goals (repeat' (refine qg ?_))
   obtain ⟨b6,hnm⟩:∃ x,x=b:=⟨_,rfl⟩;subst hnm;replace S:Hs h0 h [.blk b6 (eT t) 84,.sl t.ov 3 1 eI t.opn,VT l,.sl vt.val 84 7 eT l,.blk bp [vt.val,.slice none 0 0,.slice none 0 0,.slice none 0 0,.slice none 0 0] 28,.blk br [.slice none 0 0,.slice none 0 0,.slice none 0 0,.slice none 0 0,.slice none 0 0] 28,.blk bn v.cs 39]:=S;all_goals (repeat' (first|refine qg ?_|(refine qc 7 ?_;refine vl ?_;refine lB S rfl rfl ?_;refine mv ?_;refine qf ?_)|(refine qc 8 ?_;refine mv ?_;refine lB S rfl rfl ?_;(refine one 7 S ?_;clear S;intro u h S))))
   refine app (y0:=t) S rfl rfl ?_;clear S;intro v h S;obtain ⟨vt',rfl⟩:=S.sV v;refine vl ?_;(first|(refine sB S rfl rfl ?_;clear S;intro h S));refine qf ?_;all_goals (repeat' (fail))
   obtain ⟨c1,c2,c3⟩:=Pv k2;have c4:=GX k2;have c5:=Qo t;all_goals (repeat' (first|(refine qc 9 ?_;refine mv ?_;refine lB S rfl rfl ?_)))
   (refine qx rfl rfl rfl rfl rfl ((YQ S.wf t c1 c2).mono ?_);rintro _ h ⟨rfl,y⟩)<;>(replace S:=S.join0 y;clear y;refine ad ?_;refine mv ?_;refine qf ?_)
   all_goals (repeat' (first|(refine qc 5 ?_;refine mv ?_;refine ad ?_;refine mv ?_;refine qf ?_)))
   have hsum:sumT (l ++ [t]) (l ++ [t]).length=sumT l l.length+GH t.shape t.A t.B:=by
    rw [zB2,zD5];show sumT (l ++ [t]) l.length+zn (tb (l ++ [t]) l.length)=_
    rw [gy _ (zA3 _),c4];unfold tb;rw [gA2 (zA3 _),zG6];rfl
   have hlen:((l ++ [t]).length:Int)=l.length+1:=by simp
   replace S:Hs h0 h [.sl vt'.val 84 7 eT (l ++ [t]),.blk b6 (eT t) 84,.sl t.ov 3 1 eI t.opn,VT l,.blk bp [vt'.val,.slice none 0 0,.slice none 0 0,.slice none 0 0,.slice none 0 0] 28,.blk br [.slice none 0 0,.slice none 0 0,.slice none 0 0,.slice none 0 0,.slice none 0 0] 28,.blk bn v.cs 39]:=S;have S:=(show Hs h0 _ [.sl t.ov 3 1 eI t.opn,VT l,.sl vt'.val 84 7 eT (l ++ [t]),.blk bp [vt'.val,.slice none 0 0,.slice none 0 0,.slice none 0 0,.slice none 0 0] 28,.blk br [.slice none 0 0,.slice none 0 0,.slice none 0 0,.slice none 0 0,.slice none 0 0] 28,.blk bn v.cs 39] from S.pick).opApp;have g1':TabsM (l ++ [t]):=fun j hj=>by
    rcases zA7 j l.length with q|q
    ·have e:tb (l ++ [t]) j=tb l j:=by unfold tb;rw [wU q]
     rw [e];exact g1 j q
    ·have e:tb (l ++ [t]) j=t:=by
      have:j=l.length:=by simp at hj;omega
      unfold tb;rw [this,gA2 (zA3 _),zG6];rfl
     have hj:j=l.length:=by simp at hj;omega
     rw [e,hj];exact ⟨⟨m,hm2,k1⟩,k2,k3⟩
   refine ⟨(l ++ [t],vt'),?_,?_,qy⟩
   ·show 3 - (l ++ [t]).length<3 - l.length;simp;omega
   ·exact ⟨S,g1',by simp;omega⟩
  ·exact ⟨(l,vt),⟨S,g1,g2⟩,(qy)⟩
  ·exact ⟨(l,vt),⟨S,g1,g2⟩,(qy)⟩
 clear S;rintro ⟨l,vt⟩ h ⟨S,g1,g2⟩;have g3:=jg l l.length;obtain ⟨n,hn,hn1,hn2⟩:∃ n:Nat,min (b.length:Int) (sumT l l.length)=n∧n≤b.length∧(n:Int)≤sumT l l.length:=⟨(min (b.length:Int) (sumT l l.length)).toNat,by omega,by omega,by omega⟩
 (repeat (refine qg ?_));refine xZ (id:=10) (j1:=11) (rd:=[(11,(0,1))]) (fun b1=>[some b1]) S (HintOk.direct) ?_;clear S;intro b1 h S;refine qh ?_;(first|(refine vl ?_<;>refine qf ⟨⟨by (first|exact True.intro),rfl⟩,?_⟩));refine qh ?_;(first|(refine lB S rfl rfl ?_<;>refine qf ⟨⟨by (first|exact True.intro),rfl⟩,?_⟩));refine qh ?_;(first|(refine vl ?_<;>refine qf ⟨⟨by (first|exact True.intro),rfl⟩,?_⟩));refine qh ?_;(first|(refine lB S rfl rfl ?_<;>refine qf ⟨⟨by (first|exact True.intro),rfl⟩,?_⟩));refine qh ?_;(first|(refine jZ S ?_<;>refine qf ⟨⟨by (first|exact True.intro),rfl⟩,?_⟩));refine qh ?_;(first|(refine mv ?_<;>refine qf ⟨⟨by (first|exact True.intro),rfl⟩,?_⟩));refine qh ?_;(first|(refine mn ?_<;>refine qf ⟨⟨by (first|exact True.intro),rfl⟩,?_⟩));rw [hn];refine qh ?_;refine su 0 n (hrb.ext w S.ext) H.cap ?_;intro vs hrs hcs;refine qf ⟨⟨by (first|exact True.intro),rfl⟩,?_⟩;(refine qh ?_;(first|(refine vl ?_<;>refine qf ⟨⟨by (first|exact True.intro),rfl⟩,?_⟩));refine qh ?_;(first|(refine lB S rfl rfl ?_<;>refine qf ⟨⟨by (first|exact True.intro),rfl⟩,?_⟩)));have hgl:((b.drop 0).take (n - 0)).length=n:=by simp;omega
 have hgv:∀ i,i<((b.drop 0).take (n - 0)).length→((b.drop 0).take (n - 0)).getD i default<65536:=fun i hi=>by
  rw [List.drop_zero,Nat.sub_zero,getD_take (by omega)];exact H.hb i (by omega)
 ((refine qh ?_;first|refine qx rfl rfl rfl rfl rfl ((qdy S.wf vs v.vi.val ((b.drop 0).take (n - 0)) c hrs (hrc.ext w S.ext) (by omega) hlc hgv H.hc).mono ?_));rintro _ h ⟨rv,r,rfl,k1,k2,k3,x⟩)<;>((refine qf ⟨⟨True.intro,?_⟩,?_⟩;(focus ((show keepsX _ _ _ _ _;simp only [keepsX];(repeat' (first|exact True.intro|refine And.intro ?_ ?_));all_goals (intro hw;first|exact x.ext.old _ S.bB)))));replace S:=S.join x;clear x;simp only [zC6,zC0] at S;refine fl S rfl rfl S.gB ?_;refine qh ?_;(first|((refine sB S rfl rfl ?_;have S0:=S;clear S;intro h S);refine qf ⟨⟨True.intro,?_⟩,?_⟩;(focus ((show keepsX _ _ _ _ _;simp only [keepsX];(repeat' (first|exact True.intro|refine And.intro ?_ ?_));all_goals (intro hw;first|exact absurd hw (by decide +kernel)))));clear S0));refine jw ?_)
 have kus:=k1.us;have ktg:∀ i,i<rv.gs.length→(rv.gs.getD i default).tg.length≤4:=fun i hi=>by
  have e:(r.us.getD i default).tg=(rv.gs.getD i default).tg:=by rw [← kus,zu hi]
  have hl:rv.gs.length=r.us.length:=k1.len;rw [← e];exact (qam (k2.chk _ (qJ (by omega)))).2.2.2.1
 clear k1;obtain ⟨b8,hnm⟩:∃ x,x=b1:=⟨_,rfl⟩;subst hnm;(repeat (refine qg ?_));refine jm (id:=11) [(3,(0,1))] [some (b8)] ?_;refine qh ?_;(first|(refine vl ?_<;>refine qf ⟨⟨by (first|exact True.intro),rfl⟩,?_⟩));refine qh ?_;(first|(refine lB S rfl rfl ?_<;>refine qf ⟨⟨by (first|exact True.intro),rfl⟩,?_⟩));refine qh ?_;(first|(refine vl ?_<;>refine qf ⟨⟨by (first|exact True.intro),rfl⟩,?_⟩));refine qh ?_;(first|(refine lB S rfl rfl ?_<;>refine qf ⟨⟨by (first|exact Or.inr rfl),rfl⟩,?_⟩));refine qh ?_;(first|(refine vl ?_<;>refine qf ⟨⟨by (first|exact True.intro),rfl⟩,?_⟩));refine qh ?_;(first|((refine sB S rfl rfl ?_;have S0:=S;clear S;intro h S);refine qf ⟨⟨True.intro,?_⟩,?_⟩;(focus ((show keepsX _ _ _ _ _;simp only [keepsX];(repeat' (first|exact True.intro|refine And.intro ?_ ?_));all_goals (intro hw;first|exact (S.gB).trans (S0.gB).symm))));clear S0));refine qh ?_;(first|(refine vl ?_<;>refine qf ⟨⟨by (first|exact True.intro),rfl⟩,?_⟩));refine qh ?_;(first|((refine sB S rfl rfl ?_;have S0:=S;clear S;intro h S);refine qf ⟨⟨True.intro,?_⟩,?_⟩;(focus ((show keepsX _ _ _ _ _;simp only [keepsX];(repeat' (first|exact True.intro|refine And.intro ?_ ?_));all_goals (intro hw;first|exact absurd hw (by decide +kernel)))));clear S0));refine jw ?_;replace S:Hs h0 h [.sl rv.vg.val 125 9 eG rv.gs,.sl rv.vt.val 174 3 jD r.ts,Jw rv.gs,.blk b8 [rv.vg.val,rv.vt.val] 151,VT l,.sl vt.val 84 7 eT l,.blk bp [vt.val,rv.vg.val,rv.vt.val,.slice none 0 0,.slice none 0 0] 28,.blk br [.slice none 0 0,.slice none 0 0,.slice none 0 0,.slice none 0 0,.slice none 0 0] 28,.blk bn v.cs 39]:=S;have hrl:r.us.length≤b.length:=by have:=k3.2.1;omega
 have hgs:rv.gs.length=r.us.length:=by rw [← kus];simp
 have hB:∀ i,b.getD i default<65536:=fun i=>by
  rcases zA7 i b.length with q|q
  ·exact H.hb i q
  ·rw [zA2,zG5 q];decide
 have hD:∀ i,d.getD i default<4294967296:=fun i=>by
  rcases zA7 i d.length with q|q
  ·exact H.hd i q
  ·rw [zA2,zG5 q];decide
 have hu12:=k3.1;have S:=S.nilS (e:=3) (z:=1) (enc:=eI);(repeat (refine qg ?_));first|refine Qg (σ:=List Int×SlV) (fun (cl,vc) h'=>Hs h0 h' [.sl vc.val 3 1 eI cl,.sl rv.vg.val 125 9 eG rv.gs,.sl rv.vt.val 174 3 jD r.ts,Jw rv.gs,VT l,.sl vt.val 84 7 eT l,.blk bp [vt.val,rv.vg.val,rv.vt.val,vc.val,.slice none 0 0] 28,.blk br [.slice none 0 0,.slice none 0 0,.slice none 0 0,.slice none 0 0,.slice none 0 0] 28,.blk bn v.cs 39]∧(cl.length=0∨cl.length=r.us.length)∧∀ j,j<cl.length→0≤cl.getD j default∧cl.getD j default<64) (fun (cl,vc)=>[(1,.pointer (some ⟨bn,0,none⟩)),(2,.pointer (some ⟨br,0,none⟩)),(3,.pointer (some ⟨bp,0,none⟩))]) ?_ ?_
 ·all_goals (repeat' (first|refine qg ?_|refine qi rfl ?_|refine qj ?_|(refine qc 12 ?_;refine vl ?_;refine lB S rfl rfl ?_;refine jZ S ?_;refine rm ?_;(first|(refine cS ?_ ?_<;>intro hc))<;>(refine qf ?_))|(refine qc 13 ?_;refine mv ?_;refine qf ?_)))
  ·all_goals (repeat' (refine qp ?_))
   refine qL (σ:=List Int×SlV) (fun (cl,vc) h'=>Hs h0 h' [.sl vc.val 3 1 eI cl,.sl rv.vg.val 125 9 eG rv.gs,.sl rv.vt.val 174 3 jD r.ts,Jw rv.gs,VT l,.sl vt.val 84 7 eT l,.blk bp [vt.val,rv.vg.val,rv.vt.val,vc.val,.slice none 0 0] 28,.blk br [.slice none 0 0,.slice none 0 0,.slice none 0 0,.slice none 0 0,.slice none 0 0] 28,.blk bn v.cs 39]∧cl.length≤r.us.length∧∀ j,j<cl.length→0≤cl.getD j default∧cl.getD j default<64) (fun (cl,vc)=>r.us.length - cl.length) (fun (cl,vc)=>[(1,.pointer (some ⟨bn,0,none⟩)),(2,.pointer (some ⟨br,0,none⟩)),(3,.pointer (some ⟨bp,0,none⟩)),(9,.int .i64 cl.length)]) ([],⟨none,0,0⟩) qy ?_ ?_
   ·exact ⟨S.pick,zB0 _,fun j hj=>absurd hj (zB7 _)⟩
   clear S;rintro ⟨cl,vc⟩ h ⟨S,q1,q2⟩;have lw:=hB (cl.length:Int).toNat;all_goals (repeat' (first|refine qg ?_|refine qi rfl ?_|refine qj ?_|refine qA ?_|refine qp ?_|(refine qc 14 ?_;refine mv ?_;refine vl ?_;refine lB S rfl rfl ?_;refine yc S rfl rfl ?_;(first|(refine cS ?_ ?_<;>intro hc))<;>(refine qf ?_))|(refine qc 16 ?_;refine vl ?_;refine lB S rfl rfl ?_;refine mv ?_;refine qf ?_)|(refine qc 17 ?_;refine mv ?_;refine vl ?_;refine lB S rfl rfl ?_;refine mv ?_;refine QE S ?_;refine Qk S ?_;refine cI ?_;refine qu ?_;refine rm ?_;(refine one 1 S ?_;clear S;intro u h S))))
   ·refine app  S rfl rfl ?_;clear S;intro v h S;obtain ⟨vc',rfl⟩:=S.sV v;refine vl ?_;(first|(refine sB S rfl rfl ?_;clear S;intro h S));refine qf ?_;replace S:Hs h0 h [.sl vc'.val 3 1 eI (cl ++ [((b.getD (cl.length:Int).toNat default:Nat):Int) / 3 % 4]),.sl rv.vg.val 125 9 eG rv.gs,.sl rv.vt.val 174 3 jD r.ts,Jw rv.gs,VT l,.sl vt.val 84 7 eT l,.blk bp [vt.val,rv.vg.val,rv.vt.val,vc'.val,.slice none 0 0] 28,.blk br [.slice none 0 0,.slice none 0 0,.slice none 0 0,.slice none 0 0,.slice none 0 0] 28,.blk bn v.cs 39]:=S;all_goals (repeat' (first|(refine qc 15 ?_;refine mv ?_;refine ad ?_;refine mv ?_;refine qf ?_)))
    refine ⟨(cl ++ [((b.getD (cl.length:Int).toNat default:Nat):Int) / 3 % 4],vc'),?_,?_,qy⟩
    ·show r.us.length - (cl ++ [_]).length<r.us.length - cl.length;simp;omega
    ·refine ⟨S,by simp;omega,fun j hj=>?_⟩;rcases zA7 j cl.length with q|q
     ·rw [wU q];exact q2 j q
     ·have:j=cl.length:=by simp at hj;omega
      rw [this,gA2 (zA3 _),zG6];show 0≤((b.getD (cl.length:Int).toNat default:Nat):Int) / 3 % 4∧((b.getD (cl.length:Int).toNat default:Nat):Int) / 3 % 4<64
      omega
   ·exact ⟨(cl,vc),⟨S,.inr (by omega),q2⟩,(qy)⟩
  ·exact ⟨([],⟨none,0,0⟩),⟨S.pick,.inl rfl,fun j hj=>absurd hj (zB7 _)⟩,(qy)⟩
 clear S;rintro ⟨cl,vc⟩ h ⟨S,q1,q2⟩;have S:=S.nilS (e:=155) (z:=6) (enc:=JI);have hvl:ValidL l:=g1.valid (by omega);have fin:∀ {i:Nat} {ru:List Ru},i≤12→ru.length≤i→(∀ x∈ru,∀ p:Pb,p.tabs=l→p.us=r.us→VQ p x=0)→PO ⟨l,r.us,r.ts,cl,ru⟩:=fun {i} {ru} m1 m2 m3=>⟨hvl,k2,⟨q1,fun x hx=>by
  obtain ⟨j,hj,rfl⟩:=qI.1 hx;exact q2 j hj⟩,by have:=k3.2.1;show (r.us.length:Int)≤sumT l l.length;omega,fun x hx=>m3 x hx _ rfl rfl,by show ru.length≤64;omega⟩
 all_goals (repeat' (first|refine qg ?_|refine qp ?_|(refine qc 18 ?_;refine mv ?_;refine qf ?_)))
 refine qL (σ:=Nat×List Ru×SlV) (fun (i,ru,vr) h'=>Hs h0 h' [.sl vr.val 155 6 JI ru,.sl vc.val 3 1 eI cl,.sl rv.vg.val 125 9 eG rv.gs,.sl rv.vt.val 174 3 jD r.ts,Jw rv.gs,VT l,.sl vt.val 84 7 eT l,.blk bp [vt.val,rv.vg.val,rv.vt.val,vc.val,vr.val] 28,.blk br [.slice none 0 0,.slice none 0 0,.slice none 0 0,.slice none 0 0,.slice none 0 0] 28,.blk bn v.cs 39]∧i≤12∧ru.length≤i∧∀ x∈ru,∀ p:Pb,p.tabs=l→p.us=r.us→VQ p x=0) (fun (i,ru,vr)=>12 - i) (fun (i,ru,vr)=>[(1,.pointer (some ⟨bn,0,none⟩)),(2,.pointer (some ⟨br,0,none⟩)),(3,.pointer (some ⟨bp,0,none⟩)),(11,.int .i64 i)]) (0,[],⟨none,0,0⟩) qy ?_ ?_
 ·exact ⟨S,zB0 _,zB0 _,fun x hx=>by cases hx⟩
 clear S;rintro ⟨i,ru,vr⟩ h ⟨S,m1,m2,m3⟩;have lw:=hD (i:Int).toNat;all_goals (repeat' (first|refine qg ?_|refine qi rfl ?_|refine qj ?_|refine qA ?_|refine qp ?_|(refine qc 19 ?_;refine mv ?_;refine vl ?_;refine lB S rfl rfl ?_;refine jZ S ?_;(first|(refine cS ?_ ?_<;>intro hc))<;>(refine mv ?_;(first|refine off ?_|refine mv ?_);(first|refine off ?_|(first|(refine cS ?_ ?_<;>intro hc)))<;>(refine vl ?_;refine qf ?_)))))
 ·(repeat (refine qg ?_));refine xZ (id:=21) (j1:=11) (rd:=[(11,(0,1))]) (fun b1=>[some b1]) S (HintOk.direct) ?_;clear S;intro b1 h S;refine qh ?_;(first|(refine lB S rfl rfl ?_<;>refine qf ⟨⟨by (first|exact True.intro),rfl⟩,?_⟩));refine qh ?_;(first|(refine vl ?_<;>refine qf ⟨⟨by (first|exact True.intro),rfl⟩,?_⟩));refine qh ?_;(first|(refine lB S rfl rfl ?_<;>refine qf ⟨⟨by (first|exact True.intro),rfl⟩,?_⟩));refine qh ?_;(first|(refine mv ?_<;>refine qf ⟨⟨by (first|exact True.intro),rfl⟩,?_⟩));refine qh ?_;(first|(refine QE S ?_<;>refine qf ⟨⟨by (first|exact True.intro),rfl⟩,?_⟩));refine qh ?_;(first|(refine Qk S ?_<;>refine qf ⟨⟨by (first|exact True.intro),rfl⟩,?_⟩));refine qh ?_;(first|(refine cI ?_<;>refine qf ⟨⟨by (first|exact True.intro),rfl⟩,?_⟩));obtain ⟨b12,hnm⟩:∃ x,x=b1:=⟨_,rfl⟩;subst hnm;obtain ⟨xn,hx⟩:∃ xn,d.getD (i:Int).toNat default=xn:=⟨_,rfl⟩
  rw [hx] at lw ⊢;have rtL:=Rd.of_sl S (.there (.there (.there (.there (.there (.there (.there .here)))))));have rgL:=Rd.of_sl S (.there (.there (.there .here)));((refine qh ?_;first|refine qx rfl rfl rfl rfl rfl ((qcN S.wf ⟨vt,rv.vg,rv.vt,vc,vr,rv.gs⟩ l r.us rtL hvl rgL kus k2.chk k2.nd (by omega) xn lw).mono ?_));rintro _ h ⟨rr,cc,rfl,m4,x⟩)<;>((refine qf ⟨⟨True.intro,?_⟩,?_⟩;(focus ((show keepsX _ _ _ _ _;simp only [keepsX];(repeat' (first|exact True.intro|refine And.intro ?_ ?_));all_goals (intro hw;first|exact x.ext.old _ S.bB)))));replace S:=S.join0 x;clear x;refine qh ?_;(first|(refine mv ?_<;>refine qf ⟨⟨by (first|exact True.intro),rfl⟩,?_⟩));refine qh ?_;(first|(refine vl ?_<;>refine qf ⟨⟨by (first|exact True.intro),rfl⟩,?_⟩));refine qh ?_;(first|(refine vl ?_<;>refine qf ⟨⟨by (first|exact True.intro),rfl⟩,?_⟩));refine fl S rfl rfl S.gB ?_;refine qh ?_;(first|((refine sB S rfl rfl ?_;have S0:=S;clear S;intro h S);refine qf ⟨⟨True.intro,?_⟩,?_⟩;(focus ((show keepsX _ _ _ _ _;simp only [keepsX];(repeat' (first|exact True.intro|refine And.intro ?_ ?_));all_goals (intro hw;first|exact absurd hw (by decide +kernel)))));clear S0));refine qh ?_;(first|(refine mv ?_<;>refine qf ⟨⟨by (first|exact True.intro),rfl⟩,?_⟩));refine jw ?_)
  replace S:Hs h0 h [.blk b12 (JI rr) 155,.sl vr.val 155 6 JI ru,.sl vc.val 3 1 eI cl,.sl rv.vg.val 125 9 eG rv.gs,.sl rv.vt.val 174 3 jD r.ts,Jw rv.gs,VT l,.sl vt.val 84 7 eT l,.blk bp [vt.val,rv.vg.val,rv.vt.val,vc.val,vr.val] 28,.blk br [.slice none 0 0,.slice none 0 0,.slice none 0 0,.slice none 0 0,.slice none 0 0] 28,.blk bn v.cs 39]:=S;clear rtL rgL;cases cc
  ·all_goals (repeat' (first|refine qg ?_|refine qi rfl ?_|refine qj ?_|(refine qc 20 ?_;refine mv ?_;refine ad ?_;refine mv ?_;refine qf ?_)|(refine qc 22 ?_;refine mv ?_;refine qf ?_)))
   refine ⟨(i+1,ru,vr),?_,?_,qy⟩
   ·show 12 - (i+1)<12 - i;omega
   ·exact ⟨S.tail,by omega,by omega,m3⟩
  ·all_goals (repeat' (first|refine qg ?_|refine qi rfl ?_|(refine qc 22 ?_;refine mv ?_;refine qf ?_)|(refine qc 23 ?_;refine vl ?_;refine lB S rfl rfl ?_;refine mv ?_;refine qf ?_)|(refine qc 24 ?_;refine mv ?_;refine lB S rfl rfl ?_;(refine one 6 S ?_;clear S;intro u h S))))
   refine app (y0:=rr) S rfl rfl ?_;clear S;intro v h S;obtain ⟨vr',rfl⟩:=S.sV v;refine vl ?_;(first|(refine sB S rfl rfl ?_;clear S;intro h S));refine qf ?_;replace S:Hs h0 h [.sl vr'.val 155 6 JI (ru ++ [rr]),.blk b12 (JI rr) 155,.sl vc.val 3 1 eI cl,.sl rv.vg.val 125 9 eG rv.gs,.sl rv.vt.val 174 3 jD r.ts,Jw rv.gs,VT l,.sl vt.val 84 7 eT l,.blk bp [vt.val,rv.vg.val,rv.vt.val,vc.val,vr'.val] 28,.blk br [.slice none 0 0,.slice none 0 0,.slice none 0 0,.slice none 0 0,.slice none 0 0] 28,.blk bn v.cs 39]:=S;all_goals (repeat' (first|(refine qc 20 ?_;refine mv ?_;refine ad ?_;refine mv ?_;refine qf ?_)))
   refine ⟨(i+1,ru ++ [rr],vr'),?_,?_,qy⟩
   ·show 12 - (i+1)<12 - i;omega
   ·refine ⟨S.pick,by omega,by simp;omega,fun y hy=>?_⟩;rcases zB8.1 hy with q|q
    ·exact m3 y q
    ·obtain rfl:=zB5.1 q;exact m4 rfl
 ·all_goals (repeat' (first|(refine qc 25 ?_;refine lB S rfl rfl ?_;(first|(refine sB S rfl rfl ?_;clear S;intro h S));refine qf ?_)))
  refine qw ⟨_,zk S rfl (by first|exact .there (.there (.there (.there (.there (.there (.there (.there .here)))))))) (by exact rfl) (by exact rfl),?_⟩;exact ⟨⟨vt,rv.vg,rv.vt,vc,vr,rv.gs⟩,⟨l,r.us,r.ts,cl,ru⟩,rfl,fin m1 m2 m3,ktg,kus,by show ru.length≤12;omega,g1,g2,hu12,S.pick⟩
 ·all_goals (repeat' (first|(refine qc 25 ?_;refine lB S rfl rfl ?_;(first|(refine sB S rfl rfl ?_;clear S;intro h S));refine qf ?_)))
  refine qw ⟨_,zk S rfl (by first|exact .there (.there (.there (.there (.there (.there (.there (.there .here)))))))) (by exact rfl) (by exact rfl),?_⟩;exact ⟨⟨vt,rv.vg,rv.vt,vc,vr,rv.gs⟩,⟨l,r.us,r.ts,cl,ru⟩,rfl,fin m1 m2 m3,ktg,kus,by show ru.length≤12;omega,g1,g2,hu12,S.pick⟩
theorem wrap_u16 {n:Int} (h:0≤n∧n≤65535):IntKind.u16.wrap n=n:=by
 show n % 65536=n
 omega
section
variable {P:Program} {X:Extern} {sz:Nat} {L L':Ks} {h h0:AH} {rs:List Rs} {ops:Array Oper} {os:List Oper} {o:Oper} {R:Ks→AH→Prop}
theorem qgD {x y:Operand} {ty ty2:TypeId} {a b:Int} (w:KO P X sz ops os L' h R) (ho:o.op = .binOp .rem ty x y ty2:=by exact rfl) (hg:qo ops L.tree o.guard=some true:=by exact rfl) (hx:kA L x=some (.int .u16 a):=by exact rfl) (hy:kA L y=some (.int .u16 b):=by exact rfl)
 (hb:0≤a∧0<b:=by omega) (hp:qE sz L o.dst (.int .u16 (a % b))=some L':=by exact rfl):KO P X sz ops (o :: os) L h R :=
 zN ho hg hx hy (by
  have h1:¬ b=0:=by omega
  have h2:a.tmod b=a % b:=Int.tmod_eq_emod_of_nonneg hb.1;simp only [Qe,decide_true,decide_eq_false h1,h2]) hp w
theorem qfK {x y:Operand} {ty ty2:TypeId} {a b:Int} (w:KO P X sz ops os L' h R) (ho:o.op = .binOp .quo ty x y ty2:=by exact rfl) (hg:qo ops L.tree o.guard=some true:=by exact rfl) (hx:kA L x=some (.int .u16 a):=by exact rfl) (hy:kA L y=some (.int .u16 b):=by exact rfl)
 (hb:0≤a∧a≤65535∧0<b:=by omega) (hp:qE sz L o.dst (.int .u16 (a / b))=some L':=by exact rfl):KO P X sz ops (o :: os) L h R :=
 zN ho hg hx hy (by
  have h1:¬ b=0:=by omega
  have h2:a.tdiv b=a / b:=Int.tdiv_eq_ediv_of_nonneg hb.1;have h3:0≤a / b:=Int.ediv_nonneg hb.1 (by omega);have h4:a / b≤a:=Int.ediv_le_self _ hb.1;simp only [Qe,decide_true,decide_eq_false h1,h2,wrap_u16 ⟨h3,(by omega:a / b≤65535)⟩]) hp w
end
def yl (k:Nat):List UInt8:=[114,UInt8.ofNat (97+k)]
theorem qaD {k:Nat} (hk:k<26):jC (yl k):=by
 refine ⟨by simp [yl],by simp [yl],fun i hi=>?_⟩;have hi:i<2:=by simpa [yl] using hi
 rcases (show i=0∨i=1 by omega) with rfl|rfl
 ·show QO 114
  unfold QO;decide
 ·show QO (UInt8.ofNat (97+k))
  unfold QO;rw [UInt8.toNat_ofNat',Nat.mod_eq_of_lt (by omega)];omega
theorem qbO {i j:Nat} (hi:i<26) (hj:j<26) (h:yl i=yl j):i=j:=by
 unfold yl at h;have h1:=congrArg UInt8.toNat (List.cons.inj (List.cons.inj h).2).1;rw [UInt8.toNat_ofNat',UInt8.toNat_ofNat',Nat.mod_eq_of_lt (by omega),Nat.mod_eq_of_lt (by omega)] at h1;omega
theorem qaC {i j:Nat}:yl i≠Ju j:=fun h=>by
 have h1:=congrArg UInt8.toNat (List.cons.inj h).1;revert h1;decide
def rowT (k x:Nat):Tab:=⟨yl k,4,1+(x:Int) % 3,0,⟨none,0,0⟩,[],(x:Int) / 3 % 50,(x:Int) / 150 % 50⟩
theorem qbN {k x:Nat} (hk:k<26):chk (rowT k x)=0:=by
 have hs:zn (rowT k x)=1+(x:Int) % 3:=by
  show Q3 (1+(x:Int) % 3) 0=_
  unfold Q3;rw [if_pos (by omega)]
 unfold chk;rw [if_neg (fun q=>q (qaD hk)),if_neg (by rw [hs];omega),if_neg (fun q=>q fun i hi=>absurd hi (zB7 _)),if_neg];exact fun q=>q ⟨by show 0≤(x:Int) / 3 % 50;omega,by show (x:Int) / 3 % 50≤1000;omega,by show 0≤(x:Int) / 150 % 50;omega,by show (x:Int) / 150 % 50≤1000;omega⟩
def NmI (l:List Tab) (i:Nat):Prop:=∀ j,j<l.length→((∃ k,(tb l j).name=Ju k)∨∃ k,k<i∧(tb l j).name=yl k)∧(tb l j).opn.length≤24
theorem PO.row {p:Pb} {i x:Nat} (h:PO p) (hn:NmI p.tabs i) (hi:i<6) (hl:p.tabs.length≤15):PO { p with tabs:=p.tabs ++ [rowT i x] }∧NmI (p.tabs ++ [rowT i x]) (i+1):=by
 have e1:∀ j,j<p.tabs.length→tb (p.tabs ++ [rowT i x]) j=tb p.tabs j:=fun j hj=>by unfold tb;rw [wU hj]
 have e2:tb (p.tabs ++ [rowT i x]) p.tabs.length=rowT i x:=by unfold tb;rw [gA2 (zA3 _),zG6];rfl
 have hlen:(p.tabs ++ [rowT i x]).length=p.tabs.length+1:=by simp
 have hsz:=Qo (rowT i x);refine ⟨⟨⟨by rw [hlen];omega,fun j hj=>?_⟩,h.rl,h.cl,?_,fun r hr=>qdq (p:=p) rfl rfl (h.ru r hr),h.lr⟩,fun j hj=>?_⟩
 ·rcases zA7 j p.tabs.length with q|q
  ·have g:=h.tabs.2 j q;refine ⟨by rw [e1 j q];exact g.1,fun ⟨m,hm,he⟩=>g.2 ⟨m,hm,by rw [e1 m (by omega),e1 j q] at he;exact he⟩⟩
  ·have hj:j=p.tabs.length:=by rw [hlen] at hj;omega
   subst hj;refine ⟨by rw [e2];exact qbN (by omega),fun ⟨m,hm,he⟩=>?_⟩;rw [e1 m hm,e2] at he;rcases (hn m hm).1 with ⟨k,hk⟩|⟨k,hk,hk2⟩
   ·exact qaC (he.symm.trans hk)
   ·have:=qbO (by omega) (by omega) (hk2.symm.trans he);omega
 ·have:=h.room;show (p.us.length:Int)≤sumT (p.tabs ++ [rowT i x]) (p.tabs ++ [rowT i x]).length
  rw [hlen];show _≤sumT (p.tabs ++ [rowT i x]) p.tabs.length+zn (tb (p.tabs ++ [rowT i x]) p.tabs.length)
  rw [gy _ (zA3 _),e2];omega
 ·rcases zA7 j p.tabs.length with q|q
  ·rw [e1 j q];exact ⟨(hn j q).1.imp id fun ⟨k,h1,h2⟩=>⟨k,by omega,h2⟩,(hn j q).2⟩
  ·have hj:j=p.tabs.length:=by rw [hlen] at hj;omega
   rw [hj,e2];exact ⟨.inr ⟨i,by omega,rfl⟩,zB0 _⟩
theorem NuR.ext {h h':AH} {v:NuV} {a b c d:List Nat} (H:NuR h v a b c d) (w:WfH h) (x:Ext h h'):NuR h' v a b c d:=⟨H.ra.ext w x,H.rb.ext w x,H.cap,H.rc.ext w x,H.rd.ext w x,H.la,H.lb,H.lc,H.ld,H.ha,H.hb,H.hc,H.hd⟩
structure SeI (N:Nat) (q:List Int) (tk:List Bool):Prop where
 tl:tk.length=N
 rng:∀ x∈q,-1≤x∧x<N
 nd:∀ i j,i<j→j<q.length→0≤q.getD i default→q.getD i default≠q.getD j default
 fr:∀ k,k<N→tk.getD k default=false→(k:Int) ∉ q
theorem SeI.none {N:Nat} {q:List Int} {tk:List Bool} (h:SeI N q tk):SeI N (q ++ [-1]) tk:=by
 refine ⟨h.tl,fun x hx=>?_,fun i j hij hj h0=>?_,fun k hk ht hx=>?_⟩
 ·rcases zB8.1 hx with q|q
  ·exact h.rng x q
  ·obtain rfl:=zB5.1 q;omega
 ·simp at hj;rw [wU (show i<q.length by omega)] at h0 ⊢;rcases zA7 j q.length with r|r
  ·rw [wU r];exact h.nd i j hij r h0
  ·rw [gA2 r,show j - q.length=0 by omega];show q.getD i default≠-1
   omega
 ·rcases zB8.1 hx with q|q
  ·exact h.fr k hk ht q
  ·have:=zB5.1 q;omega
theorem SeI.some {N:Nat} {q:List Int} {tk:List Bool} (h:SeI N q tk) {s:Nat} (hs:s<N) (hf:tk.getD s default=false):SeI N (q ++ [(s:Int)]) (tk.set s true):=by
 have hn:=h.fr s hs hf;refine ⟨by simp [h.tl],fun x hx=>?_,fun i j hij hj h0=>?_,fun k hk ht hx=>?_⟩
 ·rcases zB8.1 hx with q|q
  ·exact h.rng x q
  ·obtain rfl:=zB5.1 q;omega
 ·simp at hj;rw [wU (show i<q.length by omega)] at h0 ⊢;rcases zA7 j q.length with r|r
  ·rw [wU r];exact h.nd i j hij r h0
  ·rw [gA2 r,show j - q.length=0 by omega];show q.getD i default≠(s:Int)
   intro e;exact hn (e ▸ qJ (show i<q.length by omega))
 ·rw [zA2,List.getElem?_set] at ht;by_cases e:s=k
  ·rw [if_pos e,if_pos (by rw [h.tl];exact hs)] at ht;cases ht
  ·rw [if_neg e,← zA2] at ht;rcases zB8.1 hx with q|q
   ·exact h.fr k hk ht q
   ·have:=zB5.1 q;omega
theorem qaM {h0:AH} (w:WfH h0) (v:NuV) (a b c d:List Nat) (H:NuR h0 v a b c d) (va:Value) (mo:List Nat) (rmo:zo h0 va 1 e16 mo) (cm:zV va) (hm:mo.length≤9223372036854775807) (hm16:∀ i,i<mo.length→mo.getD i default<65536) (vs:Value) (ls:List Int) (rsl:zo h0 vs 1 eI ls) (hls:ls.length≤9223372036854775807) :
 Fn Tryz.prog Xh 11 [.agg #[v.vt.val,v.vg.val,v.vi.val,v.vr.val],va,vs] h0 (fun u h'=>∃ pv p q vq,u = .tuple #[pv.val,vq]∧PO p∧p.tabs.length≤9∧PbOk h' pv p∧PartOk p q∧zo h' vq 1 eI q∧Hs h0 h' []):=by
 have S:=Hs.start w;refine qM (by first|rfl) Tryz.func11 rfl rfl ?_;all_goals (repeat' (first|refine qg ?_|(refine qc 0 ?_;(refine bx S ?_;clear S;intro b h S);(refine al S ?_;clear S;intro b h S);refine mv ?_;refine qf ?_)))
 rename_i b3 h3
 obtain ⟨b6,hnm⟩:∃ x,x=b:=⟨_,rfl⟩;subst hnm;all_goals (repeat' (first|(refine qc 1 ?_;refine lB S rfl rfl ?_)))
 (refine qx rfl rfl rfl rfl rfl ((qcd S.wf v a b c d (H.ext w S.ext)).mono ?_);rintro _ h ⟨pv,p,rfl,k1,k2,k3,k4,k5,k6,k7,x⟩)<;>(replace S:=S.join x;clear x;simp only [zC6,zC0] at S;(refine al S ?_;clear S;intro b h S);(first|(refine sB S rfl rfl ?_;clear S;intro h S));refine qf ?_)
 obtain ⟨b8,hnm⟩:∃ x,x=b:=⟨_,rfl⟩;subst hnm;replace S:Hs h0 h [.blk b8 pv.cs 28,.sl pv.vt.val 84 7 eT p.tabs,.sl pv.vg.val 125 9 eG pv.gs,.sl pv.vi.val 174 3 jD p.ts,.sl pv.vc.val 3 1 eI p.cl,.sl pv.vr.val 155 6 JI p.ru,Jw pv.gs,VT p.tabs,.blk b6 [.slice none 0 0,.slice none 0 0,.slice none 0 0,.slice none 0 0,.slice none 0 0] 28,.blk b3 v.cs 39]:=S;replace S:Hs h0 h [.sl pv.vt.val 84 7 eT p.tabs,VT p.tabs,.sl pv.vg.val 125 9 eG pv.gs,.sl pv.vi.val 174 3 jD p.ts,.sl pv.vc.val 3 1 eI p.cl,.sl pv.vr.val 155 6 JI p.ru,Jw pv.gs,.blk b8 [pv.vt.val,pv.vg.val,pv.vi.val,pv.vc.val,pv.vr.val] 28,.blk b6 [.slice none 0 0,.slice none 0 0,.slice none 0 0,.slice none 0 0,.slice none 0 0] 28,.blk b3 v.cs 39]:=S.pick;obtain ⟨n,hn,hn1,hn2⟩:∃ n:Nat,min (mo.length:Int) 6=n∧n≤mo.length∧n≤6:=⟨min mo.length 6,by omega,by omega,by omega⟩
 all_goals (repeat' (first|refine qg ?_|(refine qc 2 ?_;refine mv ?_;refine mv ?_;refine jZ S ?_;refine mn ?_)))
 rw [hn];refine su0 0 n S w rmo cm ?_;intro vm hrm hcm;((refine jZ S ?_);refine mv ?_;refine qf ?_);have hml:((mo.drop 0).take (n - 0)).length=n:=by simp;omega
 have hmv:∀ i,((mo.drop 0).take (n - 0)).getD i default<65536:=fun i=>by
  rcases zA7 i n with q|q
  ·rw [List.drop_zero,Nat.sub_zero,getD_take (by omega)];exact hm16 i (by omega)
  ·rw [zA2,zG5 (by omega)];decide
 generalize (mo.drop 0).take (n - 0)=mre at hrm hml hmv ⊢
 all_goals (repeat' (refine qp ?_))
 have nm0:NmI p.tabs 0:=fun j hj=>⟨.inl ⟨j,(k5 j hj).1.choose_spec.2.name⟩,(k5 j hj).2.2⟩
 refine qL (σ:=Nat×List Tab×SlV) (fun (i,tabs,vt) h'=>Hs h0 h' [.sl vt.val 84 7 eT tabs,VT tabs,.sl pv.vg.val 125 9 eG pv.gs,.sl pv.vi.val 174 3 jD p.ts,.sl pv.vc.val 3 1 eI p.cl,.sl pv.vr.val 155 6 JI p.ru,Jw pv.gs,.blk b8 [vt.val,pv.vg.val,pv.vi.val,pv.vc.val,pv.vr.val] 28,.blk b6 [.slice none 0 0,.slice none 0 0,.slice none 0 0,.slice none 0 0,.slice none 0 0] 28,.blk b3 v.cs 39]∧i≤n∧PO { p with tabs:=tabs }∧NmI tabs i∧tabs.length≤3+i) (fun (i,tabs,vt)=>n - i) (fun (i,tabs,vt)=>[(2,vs),(6,.pointer (some ⟨b6,0,none⟩)),(8,.pointer (some ⟨b8,0,none⟩)),(25,vm),(26,.int .i64 n),(27,.int .i64 i)]) (0,p.tabs,pv.vt) qy ?_ ?_
 ·exact ⟨S,zB0 _,k1,nm0,by omega⟩
 clear S;rintro ⟨i,tabs,vt⟩ h ⟨S,g1,g2,g3,g4⟩;have lw:=hmv (i:Int).toNat;all_goals (repeat' (first|refine qg ?_|refine qi rfl ?_|refine qj ?_|refine qA ?_|refine qp ?_|(refine qc 3 ?_;(first|(refine cS ?_ ?_<;>intro hc))<;>(refine qf ?_))|(refine qc 4 ?_;refine mv ?_;refine QE S ?_;refine Qk S ?_;refine mv ?_;refine mv ?_;refine qf ?_)))
 ·obtain ⟨x,hx⟩:∃ x,mre.getD (i:Int).toNat default=x:=⟨_,rfl⟩
  rw [hx] at lw ⊢;all_goals (repeat' (first|(refine qc 5 ?_;refine vl ?_;refine lB S rfl rfl ?_;refine mv ?_;refine ad ?_;refine cU ?_;(refine one 1 S ?_;clear S;intro u h S))))
  replace S:=S.one eU (97+i) rfl;refine bS (Rd.of_sl S .here) ?_;(refine tc ?_;refine mv ?_;refine qgD ?_;refine cI ?_;refine ad ?_;refine mv ?_;refine qfK ?_;refine cI ?_;refine rm ?_;refine mv ?_;refine qfK ?_;refine cI ?_;refine rm ?_;refine vl ?_;(refine one 7 S ?_;clear S;intro u h S));refine app (y0:=(rowT i x)) S rfl rfl ?_;clear S;intro v h S;obtain ⟨vt',rfl⟩:=S.sV v;refine vl ?_;(first|(refine sB S rfl rfl ?_;clear S;intro h S));refine qf ?_;all_goals (repeat' (fail))
  obtain ⟨p1,p2⟩:=g2.row (i:=i) (x:=x) g3 (by omega) (by show tabs.length≤15;omega);have S:=S.nilS (e:=3) (z:=1) (enc:=eI);replace S:Hs h0 h [.sl (rowT i x).ov 3 1 eI (rowT i x).opn,.sl vt'.val 84 7 eT (tabs ++ [rowT i x]),.sl _ 5 1 eU [97+i],VT tabs,.sl pv.vg.val 125 9 eG pv.gs,.sl pv.vi.val 174 3 jD p.ts,.sl pv.vc.val 3 1 eI p.cl,.sl pv.vr.val 155 6 JI p.ru,Jw pv.gs,.blk b8 [vt'.val,pv.vg.val,pv.vi.val,pv.vc.val,pv.vr.val] 28,.blk b6 [.slice none 0 0,.slice none 0 0,.slice none 0 0,.slice none 0 0,.slice none 0 0] 28,.blk b3 v.cs 39]:=S;have S:=(show Hs h0 h [.sl (rowT i x).ov 3 1 eI (rowT i x).opn,VT tabs,.sl vt'.val 84 7 eT (tabs ++ [rowT i x]),.sl pv.vg.val 125 9 eG pv.gs,.sl pv.vi.val 174 3 jD p.ts,.sl pv.vc.val 3 1 eI p.cl,.sl pv.vr.val 155 6 JI p.ru,Jw pv.gs,.blk b8 [vt'.val,pv.vg.val,pv.vi.val,pv.vc.val,pv.vr.val] 28,.blk b6 [.slice none 0 0,.slice none 0 0,.slice none 0 0,.slice none 0 0,.slice none 0 0] 28,.blk b3 v.cs 39] from S.pick).opApp;all_goals (repeat' (first|(refine qc 6 ?_;refine ad ?_;refine mv ?_;refine qf ?_)))
  refine ⟨(i+1,tabs ++ [rowT i x],vt'),?_,?_,qy⟩
  ·show n - (i+1)<n - i;omega
  ·exact ⟨S.pick,by omega,p1,p2,by simp;omega⟩
 obtain ⟨P,hP⟩:∃ P:Pb,{ p with tabs:=tabs }=P:=⟨_,rfl⟩
 have hPt:P.tabs=tabs:=by rw [← hP]
 have hPu:P.us=p.us:=by rw [← hP]
 have htl:tabs.length≤9:=by omega
 have hv:ValidL tabs:=g2.tabs;all_goals (repeat' (first|refine qg ?_|refine qp ?_|(refine qc 7 ?_;refine mv ?_;refine qf ?_)|(refine qc 8 ?_;refine vl ?_;refine lB S rfl rfl ?_;refine yc S rfl rfl ?_;refine mv ?_;refine qf ?_)))
 refine qL (σ:=Nat) (fun k h'=>Hs h0 h' [.sl vt.val 84 7 eT tabs,VT tabs,.sl pv.vg.val 125 9 eG pv.gs,.sl pv.vi.val 174 3 jD p.ts,.sl pv.vc.val 3 1 eI p.cl,.sl pv.vr.val 155 6 JI p.ru,Jw pv.gs,.blk b8 [vt.val,pv.vg.val,pv.vi.val,pv.vc.val,pv.vr.val] 28,.blk b6 [.slice none 0 0,.slice none 0 0,.slice none 0 0,.slice none 0 0,.slice none 0 0] 28,.blk b3 v.cs 39]∧k≤tabs.length) (fun k=>tabs.length - k) (fun k=>[(2,vs),(6,.pointer (some ⟨b6,0,none⟩)),(8,.pointer (some ⟨b8,0,none⟩)),(11,.int .i64 (sumT tabs k)),(58,vt.val),(59,.int .i64 tabs.length),(60,.int .i64 k)]) 0 qy ?_ ?_
 ·exact ⟨S,zB0 _⟩
 clear S;rintro k h ⟨S,q1⟩;all_goals (repeat' (first|refine qg ?_|refine qi rfl ?_|refine qj ?_|refine qA ?_|refine qp ?_|(refine qc 9 ?_;(first|(refine cS ?_ ?_<;>intro hc))<;>(refine qf ?_))|(refine qc 10 ?_;refine jI S rfl rfl ?_;refine jT S rfl rfl ?_;(refine al S ?_;clear S;intro b h S);(first|(refine sB S rfl rfl ?_;clear S;intro h S));refine qf ?_)|(refine qc 11 ?_;refine vl ?_;refine lB S rfl rfl ?_;refine qf ?_)))
 ·obtain ⟨t,ht⟩:∃ t,tabs.getD (k:Int).toNat default=t:=⟨_,rfl⟩
  rw [ht] at S ⊢;replace S:Hs h0 h [.blk b (eT t) 84,.sl vt.val 84 7 eT tabs,VT tabs,.sl pv.vg.val 125 9 eG pv.gs,.sl pv.vi.val 174 3 jD p.ts,.sl pv.vc.val 3 1 eI p.cl,.sl pv.vr.val 155 6 JI p.ru,Jw pv.gs,.blk b8 [vt.val,pv.vg.val,pv.vi.val,pv.vc.val,pv.vr.val] 28,.blk b6 [.slice none 0 0,.slice none 0 0,.slice none 0 0,.slice none 0 0,.slice none 0 0] 28,.blk b3 v.cs 39]:=S;have hk:k<tabs.length:=by omega
  have hck:chk (tb tabs k)=0:=(hv.2 k hk).1;replace ht:tb tabs k=t:=by rw [← ht];rfl
  have key:sumT tabs (k+1)=sumT tabs k+GH t.shape t.A t.B:=by rw [← ht,GX hck];rfl
  rw [ht] at hck;obtain ⟨c1,c2,c3⟩:=Pv hck;have c4:=jg tabs k;unfold GH at key;all_goals (repeat' (first|refine qg ?_|refine qi rfl ?_|(refine qc 12 ?_;refine mv ?_;refine vl ?_;refine lB S rfl rfl ?_;refine ad ?_;refine mv ?_;refine qf ?_)|(refine qc 13 ?_;(first|(refine cS ?_ ?_<;>intro hc))<;>(refine mv ?_;refine qf ?_))|(refine qc 14 ?_;refine mv ?_;refine vl ?_;refine lB S rfl rfl ?_;refine ml ?_;refine vl ?_;refine lB S rfl rfl ?_;refine ad ?_;refine ad ?_;refine mv ?_;refine qf ?_)|(refine qc 15 ?_;(first|(refine cS ?_ ?_<;>intro hc))<;>(refine mv ?_;refine qf ?_))|(refine qc 16 ?_;refine mv ?_;refine vl ?_;refine lB S rfl rfl ?_;refine vl ?_;refine lB S rfl rfl ?_;refine ml ?_;refine ad ?_;refine ad ?_;refine mv ?_;refine qf ?_)))
  ·rw [if_pos (by assumption)] at key;all_goals (repeat' (first|(refine qc 17 ?_;refine ad ?_;refine mv ?_;refine qf ?_)))
   rw [← key];refine ⟨k+1,?_,?_,qy⟩
   ·show tabs.length - (k+1)<tabs.length - k;omega
   ·exact ⟨S.tail,by omega⟩
  ·rw [if_neg (by assumption),if_pos (by assumption)] at key;all_goals (repeat' (first|(refine qc 17 ?_;refine ad ?_;refine mv ?_;refine qf ?_)))
   rw [← key];refine ⟨k+1,?_,?_,qy⟩
   ·show tabs.length - (k+1)<tabs.length - k;omega
   ·exact ⟨S.tail,by omega⟩
  ·rw [if_neg (by assumption),if_neg (by assumption)] at key;all_goals (repeat' (first|(refine qc 17 ?_;refine ad ?_;refine mv ?_;refine qf ?_)))
   rw [← key];refine ⟨k+1,?_,?_,qy⟩
   ·show tabs.length - (k+1)<tabs.length - k;omega
   ·exact ⟨S.tail,by omega⟩
 obtain rfl:k=tabs.length:=by omega
 have hN:=jg tabs tabs.length;obtain ⟨N,hNe⟩:∃ N:Nat,sumT tabs tabs.length=N:=⟨(sumT tabs tabs.length).toNat,by omega⟩
 rw [hNe] at hN ⊢;all_goals (repeat' (first|(refine qc 18 ?_;refine mv ?_)))
 refine Y5 (z:=1) (by_:=1) (enc:=eB) (y0:=false) S rfl rfl rfl rfl rfl rfl rfl rfl rfl (by intro _;rfl) (by first|omega) rfl rfl ?_;clear S;intro v h S;obtain ⟨vk,rfl⟩:=S.sV v;refine mv ?_;refine qf ?_;simp only [zA0] at S;have hus:pv.gs.length=p.us.length:=by rw [← k3];simp
 have S:=S.nilS (e:=3) (z:=1) (enc:=eI);all_goals (repeat' (first|refine qg ?_|refine qp ?_|(refine qc 19 ?_;refine mv ?_;refine qf ?_)|(refine qc 20 ?_;refine vl ?_;refine lB S rfl rfl ?_;refine yc S rfl rfl ?_;refine mv ?_;refine qf ?_)))
 rw [hus];refine qL (σ:=Nat×List Int×Value×List Bool) (fun (g,q,vq,tk) h'=>Hs h0 h' [.sl vq 3 1 eI q,.sl vk.val 4 1 eB tk,.sl vt.val 84 7 eT tabs,VT tabs,.sl pv.vg.val 125 9 eG pv.gs,.sl pv.vi.val 174 3 jD p.ts,.sl pv.vc.val 3 1 eI p.cl,.sl pv.vr.val 155 6 JI p.ru,Jw pv.gs,.blk b8 [vt.val,pv.vg.val,pv.vi.val,pv.vc.val,pv.vr.val] 28,.blk b6 [.slice none 0 0,.slice none 0 0,.slice none 0 0,.slice none 0 0,.slice none 0 0] 28,.blk b3 v.cs 39]∧g≤p.us.length∧q.length=g∧SeI N q tk) (fun (g,q,vq,tk)=>p.us.length - g) (fun (g,q,vq,tk)=>[(2,vs),(6,.pointer (some ⟨b6,0,none⟩)),(8,.pointer (some ⟨b8,0,none⟩)),(11,.int .i64 N),(14,vk.val),(15,vq),(94,pv.vg.val),(95,.int .i64 p.us.length),(96,.int .i64 g)]) (0,[],.slice none 0 0,List.replicate N false) qy ?_ ?_
 ·refine ⟨S,zB0 _,rfl,by simp,fun x hx=>(by cases hx),fun i j hij hj=>absurd hj (zB7 _),fun k _ _ hx=>(by cases hx)⟩
 clear S;rintro ⟨g,q,vq,tk⟩ h ⟨S,q2,q3,q4⟩;have htk:=q4.tl;all_goals (repeat' (first|refine qg ?_|refine qi rfl ?_|refine qj ?_|refine qA ?_|refine qp ?_|(refine qc 21 ?_;(first|(refine cS ?_ ?_<;>intro hc))<;>(refine qf ?_))|(refine qc 22 ?_;refine mv ?_;refine mv ?_;refine qf ?_)|(refine qc 23 ?_;refine mv ?_;refine qf ?_)))
 ·skip
  (repeat (refine qg ?_));first|refine Qg (σ:=Int×List Bool) (fun (z,tk') h'=>Hs h0 h' [.sl vq 3 1 eI q,.sl vk.val 4 1 eB tk',.sl vt.val 84 7 eT tabs,VT tabs,.sl pv.vg.val 125 9 eG pv.gs,.sl pv.vi.val 174 3 jD p.ts,.sl pv.vc.val 3 1 eI p.cl,.sl pv.vr.val 155 6 JI p.ru,Jw pv.gs,.blk b8 [vt.val,pv.vg.val,pv.vi.val,pv.vc.val,pv.vr.val] 28,.blk b6 [.slice none 0 0,.slice none 0 0,.slice none 0 0,.slice none 0 0,.slice none 0 0] 28,.blk b3 v.cs 39]∧SeI N (q ++ [z]) tk') (fun (z,tk')=>[(2,vs),(6,.pointer (some ⟨b6,0,none⟩)),(8,.pointer (some ⟨b8,0,none⟩)),(11,.int .i64 N),(14,vk.val),(15,vq),(94,pv.vg.val),(95,.int .i64 p.us.length),(96,.int .i64 g),(17,.int .i64 z)]) ?_ ?_
  ·all_goals (repeat' (first|refine qg ?_|refine qi rfl ?_|refine qj ?_|(refine qc 24 ?_;refine mv ?_;refine mv ?_;refine jZ S ?_;(first|(refine cS ?_ ?_<;>intro hc))<;>(refine mv ?_;(first|refine off ?_|refine mv ?_);(first|refine off ?_|refine mv ?_);(first|refine off ?_|(refine QE S ?_));(first|refine off ?_|(refine Qk S ?_));(first|refine off ?_|(first|(refine cS ?_ ?_<;>intro hc)))<;>(refine vl ?_;refine qf ?_)))))
   ·have hz0:0≤ls.getD (g:Int).toNat default:=hc;have e1:=Int.emod_nonneg (ls.getD (g:Int).toNat default) (show (N:Int)+1≠0 by omega);have e2:=Int.emod_lt_of_pos (ls.getD (g:Int).toNat default) (show (0:Int)<(N:Int)+1 by omega);obtain ⟨sN,hs⟩:∃ sN:Nat,ls.getD (g:Int).toNat default % ((N:Int)+1)=sN:=⟨(ls.getD (g:Int).toNat default % ((N:Int)+1)).toNat,by omega⟩
    all_goals (repeat' (first|refine qg ?_|(refine qc 25 ?_;refine mv ?_;refine mv ?_;refine QE S ?_;refine Qk S ?_;refine mv ?_;refine ad ?_;refine rm ?_;refine mv ?_;refine qf ?_)))
    rw [hs] at e1 e2 ⊢;all_goals (repeat' (first|refine qi rfl ?_|refine qj ?_|(refine qc 26 ?_;refine mv ?_;refine mv ?_;(first|(refine cS ?_ ?_<;>intro hc))<;>(refine mv ?_;(first|refine off ?_|refine mv ?_);(first|refine off ?_|refine mv ?_);(first|refine off ?_|(refine jI S rfl rfl ?_));(first|refine off ?_|(refine jT S rfl rfl ?_));(first|refine off ?_|refine vl ?_);refine vl ?_;refine qf ?_))))
    ·have hsN:sN<N:=by omega
     cases hb:tk.getD (sN:Int).toNat default with
     | true =>
      all_goals (repeat' (refine qj ?_))
      exact ⟨(-1,tk),⟨S,q4.none⟩,(qy)⟩
     | false =>
      all_goals (repeat' (first|refine qg ?_|(refine qc 27 ?_;refine mv ?_;refine mv ?_;refine jI S rfl rfl ?_;(first|(refine sE2 S rfl rfl ?_;clear S;intro h S));refine qf ?_)|(refine qc 28 ?_;refine mv ?_;refine mv ?_;refine qf ?_)))
      exact ⟨((sN:Int),tk.set sN true),⟨S,q4.some hsN hb⟩,(qy)⟩
    ·exact ⟨(-1,tk),⟨S,q4.none⟩,(qy)⟩
   ·exact ⟨(-1,tk),⟨S,q4.none⟩,(qy)⟩
   ·exact ⟨(-1,tk),⟨S,q4.none⟩,(qy)⟩
  clear S;rintro ⟨z,tk'⟩ h ⟨S,q5⟩;all_goals (repeat' (first|(refine qc 29 ?_;refine mv ?_;refine mv ?_;(refine one 1 S ?_;clear S;intro u h S))))
  refine app  S rfl rfl ?_;clear S;intro v h S;refine mv ?_;refine qf ?_;all_goals (repeat' (first|(refine qc 30 ?_;refine ad ?_;refine mv ?_;refine qf ?_)))
  refine ⟨(g+1,q ++ [z],v,tk'),?_,?_,qy⟩
  ·show p.us.length - (g+1)<p.us.length - g;omega
  ·exact ⟨S,by omega,by simp;omega,q5⟩
 ·all_goals (repeat' (first|(refine qc 31 ?_;refine lB S rfl rfl ?_;refine mv ?_;(first|(refine sB S rfl rfl ?_;clear S;intro h S));refine mv ?_;refine qf ?_)))
  refine qw ⟨_,zk S rfl (by first|exact .there (.there (.there (.there (.there (.there (.there (.there (.there (.there .here)))))))))) (by exact rfl) (by exact rfl),?_⟩;obtain ⟨fo,ho⟩:=S.anyP (.there (.there (.there .here)));obtain ⟨ft,hg⟩:=S.anyP (.there (.there (.there (.there (.there (.there (.there (.there .here))))))));have r2:=Rd.of_sl S (.there (.there .here));have r4:=Rd.of_sl S (.there (.there (.there (.there .here))));have r5:=Rd.of_sl S (.there (.there (.there (.there (.there .here)))));have r6:=Rd.of_sl S (.there (.there (.there (.there (.there (.there .here))))));have r7:=Rd.of_sl S (.there (.there (.there (.there (.there (.there (.there .here)))))));have cv:=S.capS (.there (.there .here));have hts:=k1.rl.l256;have hcl:=k1.cl.1;refine ⟨⟨vt,pv.vg,pv.vi,pv.vc,pv.vr,pv.gs⟩,⟨tabs,p.us,p.ts,p.cl,p.ru⟩,q,vq,rfl,g2,htl,⟨⟨r2,fun i hi=>⟨OpOk.rd ho hi,?_,?_⟩,?_,cv⟩,⟨r4,r5,fun i hi=>⟨TgsOk.rd hg hi,?_⟩,k3,?_,?_⟩,r6,r7,?_,?_⟩,⟨?_,fun x hx=>?_,q4.nd⟩,Rd.of_sl S .here,S.drop⟩
  ·have h4:=(hv.2 i hi).1;have h5:jC (tb tabs i).name:=by
    unfold chk at h4;split at h4
    ·cases h4
    ·rename_i q;exact zF3.1 q
   exact zD0 h5.2.1 (by decide)
  ·exact zD0 (g3 i hi).2 (by decide)
  ·show tabs.length≤1000;omega
  ·exact zD0 (k2 i hi) (by decide)
  ·show p.us.length≤_;omega
  ·exact zD0 hts (by decide)
  ·show p.cl.length≤_;omega
  ·show p.ru.length≤_;omega
  ·show q.length=p.us.length;omega
  ·show -1≤x∧x<sumT tabs tabs.length
   rw [hNe];exact q4.rng x hx
theorem qc7 {h0:AH} (w:WfH h0) (g:JL) (nm:List UInt8) (b:Nat) (hb:h0.get b=some (.cells [str nm] 9 none false)):Fn Tryz.prog Xh 233 [gV g,.pointer (some ⟨b,0,none⟩)] h0 (fun v h'=>zy v (g.name=nm)∧Hs h0 h' []):=by
 have S:=Hs.start w;refine qM (by first|rfl) Tryz.func233 rfl rfl ?_;all_goals (repeat' (first|refine qg ?_|(refine qc 0 ?_;(refine bx S ?_;clear S;intro b h S);refine mv ?_;refine qf ?_)|(refine qc 1 ?_;refine vl ?_;refine lB S rfl rfl ?_;refine lH S ?_;(refine tS ?_ ?_<;>intro hc)<;>(refine mv ?_;refine qf ?_))))
 all_goals (refine qw ⟨_,rfl,?_⟩)
 all_goals (refine ⟨?_,S.drop⟩;unfold zy)
 ·exact .inl ⟨rfl,hc⟩
 ·exact .inr ⟨rfl,hc⟩
theorem qdJ {h0:AH} (w:WfH h0) (v:Value) (l:List JL) (g:Nat) (cap:List Value) (p:Nat→Prop) (hr:zo h0 v 9 eG l) (hl:l.length≤9223372036854775807)
 (hf:∀ i h,i<l.length→Hs h0 h []→Fn Tryz.prog Xh g (gV (l.getD i default) :: cap) h (fun v h'=>zy v (p i)∧Hs h h' [])) :
 Fn Tryz.prog Xh 232 [v,.func (.func g) #[] cap.toArray] h0 (fun r h'=>qap r p l.length∧Hs h0 h' []):=by
 have S:=Hs.start w;refine qM (by first|rfl) Tryz.func232 rfl rfl ?_;all_goals (repeat' (first|refine qg ?_|refine qp ?_|(refine qc 0 ?_;refine mv ?_;refine qf ?_)|(refine qc 1 ?_;refine mv ?_;refine jZ S ?_;refine mv ?_;refine qf ?_)))
 refine qL (σ:=Nat) (fun i h'=>Hs h0 h' []∧i≤l.length∧∀ j,j<i→¬ p j) (fun i=>l.length - i) (fun i=>[(0,v),(1,.func (.func g) #[] cap.toArray),(7,.int .i64 l.length),(8,.int .i64 i)]) 0 qy ?_ ?_
 ·exact ⟨S,zB0 _,fun j hj=>absurd hj (zB7 _)⟩
 clear S;rintro i h ⟨S,h1,h2⟩;all_goals (repeat' (first|refine qg ?_|refine qi rfl ?_|refine qj ?_|refine qA ?_|refine qp ?_|(refine qc 2 ?_;(first|(refine cS ?_ ?_<;>intro hc))<;>(refine qf ?_))|(refine qc 3 ?_;refine mv ?_;refine mv ?_;refine qf ?_)|(refine qc 4 ?_;(iterate 3 refine mv ?_);refine QE S ?_;refine Qk S ?_)|(refine qc 7 ?_;refine mv ?_;refine qf ?_)))
 ·(refine QM rfl rfl rfl rfl ((hf i _ (by omega) S).mono ?_);rintro _ h ⟨⟨rfl,hq⟩|⟨rfl,hq⟩,x⟩)<;>(replace S:=S.join0 x;clear x;refine qf ?_)
  all_goals (repeat' (first|refine qg ?_|refine qi rfl ?_|refine qj ?_|(refine qc 5 ?_;refine mv ?_;refine mv ?_;refine qf ?_)|(refine qc 6 ?_;refine ad ?_;refine mv ?_;refine qf ?_)))
  ·refine qw ⟨_,rfl,?_⟩;exact ⟨.inl ⟨i,by omega,rfl,hq,h2⟩,S⟩
  ·refine ⟨i+1,?_,?_,qy⟩
   ·show l.length - (i+1)<l.length - i;omega
   ·exact ⟨S,by omega,Zf h2 hq⟩
 ·refine qw ⟨_,rfl,?_⟩;exact ⟨.inr ⟨rfl,fun j hj=>h2 j (by omega)⟩,S⟩
theorem qdK {gs:List JL} {us:List Gu} (hu:gs.map (·.toGu)=us) (nm:List UInt8) {v:Value} (h:qap v (fun i=>(gs.getD i default).name=nm) gs.length):v = .int .i64 (gI us nm):=by
 have e:∀ i,i<gs.length→(us.getD i default).name=(gs.getD i default).name:=fun i hi=>by
  rw [← hu,zu hi]
 have hl:gs.length=us.length:=by rw [← hu];simp
 unfold gI;rcases h with ⟨i,hi,rfl,h1,h2⟩|⟨rfl,h2⟩
 ·cases hq:gat us nm with
  | none=>exact absurd ((e i hi).trans h1) (Yt.1 hq _ (qJ (by omega)))
  | some j =>
   obtain ⟨q1,q2,q3⟩:=xk hq;rcases zE7 i j with q|q|q
   ·exact absurd ((e i hi).trans h1) (q3 i q)
   ·rw [q]
   ·exact absurd ((e j (by omega)).symm.trans q2) (h2 j q)
 ·cases hq:gat us nm with
  | none=>rfl
  | some j =>
   obtain ⟨q1,q2,q3⟩:=xk hq;exact absurd ((e j (by omega)).symm.trans q2) (h2 j (by omega))
theorem YN {h0:AH} (w:WfH h0) (v:PbV) (p:Pb) (H:PbOk h0 v p) (nm:List UInt8):Fn Tryz.prog Xh 174 [v.val,str nm] h0 (fun r h'=>r = .int .i64 (gI p.us nm)∧Hs h0 h' []):=by
 have S:=Hs.start w;have hr:=H.rol.rg;have hl:=H.rol.len;have hlg:v.gs.length≤9223372036854775807:=by rw [hl];exact H.rol.lg
 unfold PbV.val;refine qM (by first|rfl) Tryz.func174 rfl rfl ?_;all_goals (repeat' (first|refine qg ?_|(refine qc 0 ?_;(refine bx S ?_;clear S;intro b h S);(refine bx S ?_;clear S;intro b h S);refine mv ?_;refine qf ?_)|(refine qc 1 ?_;refine vl ?_;refine lB S rfl rfl ?_;refine vl ?_)))
 have gb:=S.gB (b:=b);have hf:∀ i h',i<v.gs.length→Hs h h' []→Fn Tryz.prog Xh 233 (gV (v.gs.getD i default) :: [.pointer (some ⟨b,0,none⟩)]) h' (fun v' h''=>zy v' ((v.gs.getD i default).name=nm)∧Hs h' h'' []):=fun i h' hi x=>qc7 x.wf (v.gs.getD i default) nm b (x.ext.get S.wf gb);(refine qx rfl rfl rfl rfl rfl ((qdJ S.wf v.vg.val v.gs 233 [.pointer (some ⟨b,0,none⟩)] (fun i=>(v.gs.getD i default).name=nm) (hr.ext w S.ext) hlg hf).mono ?_);rintro _ h ⟨hq,x⟩)<;>(replace S:=S.join0 x;clear x;refine mv ?_;refine qf ?_)
 obtain rfl:=qdK H.rol.us nm hq;all_goals (repeat' (fail))
 refine qw ⟨_,rfl,?_⟩;exact ⟨rfl,S.drop⟩
theorem qbP {h:AH} (s:List UInt8):Fn Tryz.prog Xh 175 [str s] h (fun v h'=>zy v (jC s)∧h'=h):=by
 refine qM (by first|rfl) Tryz.func175 rfl rfl ?_;all_goals (repeat' (first|refine qg ?_|refine qi rfl ?_|refine qj ?_|(refine qc 0 ?_;refine mv ?_;refine qf ?_)|(refine qc 1 ?_;refine mv ?_;refine tl ?_;(first|(refine cS ?_ ?_<;>intro hc))<;>(refine mv ?_;(first|refine off ?_|refine mv ?_);(first|refine off ?_|refine tl ?_);(first|refine off ?_|(first|(refine cS ?_ ?_<;>intro hc)))<;>(refine vl ?_;refine qf ?_)))|(refine qc 2 ?_;refine mv ?_;refine qf ?_)))
 ·refine qw ⟨_,rfl,?_⟩;exact ⟨.inr ⟨rfl,fun q=>by have:=q.1;omega⟩,rfl⟩
 ·refine qw ⟨_,rfl,?_⟩;exact ⟨.inr ⟨rfl,fun q=>by have:=q.2.1;omega⟩,rfl⟩
 all_goals (repeat' (first|refine qp ?_|(refine qc 3 ?_;refine mv ?_;refine tl ?_;refine mv ?_;refine qf ?_)))
 refine qL (σ:=Nat) (fun i h'=>h'=h∧i≤s.length∧∀ j,j<i→QO (s.getD j default)) (fun i=>s.length - i) (fun i=>[(0,str s),(13,.int .i64 s.length),(14,.int .i64 i)]) 0 qy ?_ ?_
 ·exact ⟨rfl,zB0 _,fun j hj=>absurd hj (zB7 _)⟩
 rintro i h ⟨rfl,h1,h2⟩;all_goals (repeat' (first|refine qg ?_|refine qi rfl ?_|refine qj ?_|refine qA ?_|refine qp ?_|(refine qc 4 ?_;(first|(refine cS ?_ ?_<;>intro hc))<;>(refine qf ?_))|(refine qc 5 ?_;refine mv ?_;refine mv ?_;refine qf ?_)|(refine qc 6 ?_;refine mv ?_;refine mv ?_;refine ti ?_;(first|(refine cS ?_ ?_<;>intro hc))<;>(refine mv ?_;(first|refine off ?_|refine mv ?_);(first|refine off ?_|refine mv ?_);(first|refine off ?_|(refine ti ?_));(first|refine off ?_|(first|(refine cS ?_ ?_<;>intro hc)))<;>(refine vl ?_;refine qf ?_)))|(refine qc 7 ?_;refine mv ?_;refine qf ?_)|(refine qc 8 ?_;refine ad ?_;refine mv ?_;refine qf ?_)|(refine qc 9 ?_;refine mv ?_;refine qf ?_)))
 all_goals (try simp only [zA0] at *)
 ·refine qw ⟨_,rfl,?_⟩;exact ⟨.inr ⟨rfl,fun q=>by have:=q.2.2 i (by omega);unfold QO at this;simp only [JO] at this;omega⟩,rfl⟩
 ·refine qw ⟨_,rfl,?_⟩;exact ⟨.inr ⟨rfl,fun q=>by have:=q.2.2 i (by omega);unfold QO at this;simp only [JO] at this;omega⟩,rfl⟩
 ·refine ⟨i+1,?_,?_,qy⟩
  ·show s.length - (i+1)<s.length - i;omega
  ·refine ⟨rfl,by omega,Zf h2 ?_⟩;unfold QO;simp only [JO];omega
 ·refine qw ⟨_,rfl,?_⟩;exact ⟨.inl ⟨rfl,by omega,by omega,fun j hj=>h2 j (by omega)⟩,rfl⟩
def eKd (wd:List UInt8) (k:Kd) (f:Value):List Value:=[str wd,.int .u8 k.a,.bool k.b,.int .u8 k.t,.bool k.n,.int .i64 k.lo,.bool k.seat,f]
abbrev kdV (wd:List UInt8) (k:Kd) (f:Value):Value:=.agg (eKd wd k f).toArray
theorem qbU {h0:AH} (w:WfH h0) (wd:List UInt8) (k:Kd) (f:Value) (r:Ru):Fn Tryz.prog Xh 173 [kdV wd k f,ruV r] h0 (fun v h'=>zy v (k.plain r)∧Hs h0 h' []):=by
 have S:=Hs.start w;obtain ⟨ka,kb,kt,kn,lo,st⟩:=k;unfold kdV eKd ruV JI;cases kb<;>cases kn
 all_goals (refine qM (by first|rfl) Tryz.func173 rfl rfl ?_)
 all_goals (all_goals (repeat' (first|refine qg ?_|(refine qc 0 ?_;(refine bx S ?_;clear S;intro b h S);(refine bx S ?_;clear S;intro b h S);refine mv ?_;refine qf ?_)|(refine qc 1 ?_;refine vl ?_;refine lB S rfl rfl ?_;(first|(refine cS ?_ ?_<;>intro hc))<;>(refine mv ?_;(first|refine off ?_|(refine vl ?_));(first|refine off ?_|(refine lB S rfl rfl ?_));(first|refine off ?_|(refine tS ?_ ?_<;>intro hc))<;>(refine vl ?_;refine mv ?_;(first|refine off ?_|(refine vl ?_));(first|refine off ?_|(refine lB S rfl rfl ?_));(first|refine off ?_|refine mv ?_);(first|refine off ?_|(refine vl ?_));(first|refine off ?_|(refine lB S rfl rfl ?_));(first|refine off ?_|(refine tS ?_ ?_<;>intro hc))<;>((first|refine off ?_|refine vl ?_);refine vl ?_;refine mv ?_;(first|refine off ?_|(refine vl ?_));(first|refine off ?_|(refine lB S rfl rfl ?_));(first|refine off ?_|(first|(refine cS ?_ ?_<;>intro hc)))<;>((first|refine off ?_|refine mv ?_);(first|refine off ?_|(refine vl ?_));(first|refine off ?_|(refine lB S rfl rfl ?_));(first|refine off ?_|(refine tS ?_ ?_<;>intro hc))<;>((first|refine off ?_|refine vl ?_);refine vl ?_;refine mv ?_;(first|refine off ?_|(refine vl ?_));(first|refine off ?_|(refine lB S rfl rfl ?_));(first|refine off ?_|refine mv ?_);(first|refine off ?_|(refine vl ?_));(first|refine off ?_|(refine lB S rfl rfl ?_));(first|refine off ?_|(first|(refine cS ?_ ?_<;>intro hc)))<;>((first|refine off ?_|refine vl ?_);refine vl ?_;refine mv ?_;refine qf ?_))))))))))
 all_goals (refine qw ⟨_,rfl,?_⟩)
 all_goals refine ⟨?_,S.drop⟩
 all_goals unfold zy
 all_goals first|exact .inl ⟨rfl,by simp_all [Kd.plain]⟩|exact .inr ⟨rfl,by simp_all [Kd.plain]⟩
theorem countOne {h0:AH} (w:WfH h0) {v:Value} {t:Tab} (hr:zo h0 v 7 eT [t]) (hc:zV v) (ht:TabR h0 t) (hk:chk t=0):Fn Tryz.prog Xh 154 [v] h0 (fun r h'=>r = .int .i64 (zn t)∧Hs h0 h' []):=by
 refine (xG w v [t] ⟨hr,fun i hi=>?_,by simp,hc⟩).mono ?_
 ·have:i=0:=by simp at hi;omega
  subst this;exact ht
 ·rintro r h ⟨rfl,x⟩;refine ⟨?_,x⟩;have:ValidL [t]:=⟨by simp,fun j hj=>by
   have:j=0:=by simp at hj;omega
   subst this;exact ⟨hk,fun ⟨i,hi,_⟩=>absurd hi (zB7 _)⟩⟩
  unfold Xe;rw [if_pos this];simp [sumT,tb]
theorem y8 {us:List Gu} {n:List UInt8}:¬ gI us n<0↔gat us n≠none:=by rw [Jm]
theorem Kd.err41 {k:Kd} {p:Pb} {r:Ru} (h:r.w<0∨1000<r.w):k.err p r=41:=by unfold Kd.err;rw [if_pos h]
theorem Kd.err43 {k:Kd} {p:Pb} {r:Ru} (h:¬ (r.w<0∨1000<r.w)) (h2:¬ k.plain r):k.err p r=43:=by unfold Kd.err;rw [if_neg h,if_pos h2]
theorem Kd.err6 {k:Kd} {p:Pb} {r:Ru} (h:¬ (r.w<0∨1000<r.w)) (h2:k.plain r) (h3:k.unk p.us r):k.err p r=6:=by unfold Kd.err;rw [if_neg h,if_neg (fun q=>q h2),if_pos h3]
theorem Kd.err4 {k:Kd} {p:Pb} {r:Ru} (h:¬ (r.w<0∨1000<r.w)) (h2:k.plain r) (h3:¬ k.unk p.us r) (h4:k.a=100∧¬ jC r.a):k.err p r=4:=by unfold Kd.err;rw [if_neg h,if_neg (fun q=>q h2),if_neg h3,if_pos h4]
structure Kd.one (k:Kd) (p:Pb) (r:Ru):Prop where
 w:¬ (r.w<0∨1000<r.w)
 pl:k.plain r
 un:¬ k.unk p.us r
 nm:¬ (k.a=100∧¬ jC r.a)
theorem Kd.err5 {k:Kd} {p:Pb} {r:Ru} (h:k.one p r) (h5:k.b=true∧r.a=r.b):k.err p r=5:=by unfold Kd.err;rw [if_neg h.w,if_neg (fun q=>q h.pl),if_neg h.un,if_neg h.nm,if_pos h5]
open Classical in
theorem Kd.errR {k:Kd} {p:Pb} {r:Ru} (h:k.one p r) (h5:¬ (k.b=true∧r.a=r.b)):k.err p r=if k.ut p.tabs r then 6 else if k.n=true∧(r.n<k.lo∨k.most p.tabs r<r.n) then 42 else 0:=by
 unfold Kd.err;rw [if_neg h.w,if_neg (fun q=>q h.pl),if_neg h.un,if_neg h.nm,if_neg h5]
theorem qaU {h0:AH} (w:WfH h0) (wd:List UInt8) (k:Kd) (f:Value) (v:PbV) (p:Pb) (H:PbOk h0 v p) (hv:ValidL p.tabs) (r:Ru) (hw:wd≠[]) (hs:k.seat=true→k.t=116) :
 Fn Tryz.prog Xh 116 [kdV wd k f,v.val,ruV r] h0 (fun u h'=>u = .int .i64 (k.err p r)∧Hs h0 h' []):=by
 have S:=Hs.start w;have hr:=H.tab.rd;have hl:=H.tab.len;obtain ⟨ka,kb,kt,kn,lo,st⟩:=k;unfold kdV eKd ruV JI PbV.val;refine qM (by first|rfl) Tryz.func116 rfl rfl ?_;all_goals (repeat' (first|refine qg ?_|(refine qc 0 ?_;(refine bx S ?_;clear S;intro b h S);(refine bx S ?_;clear S;intro b h S);(refine bx S ?_;clear S;intro b h S);refine mv ?_;refine qf ?_)))
 rename_i b3 h3 b4 h4
 (repeat (refine qg ?_));first|refine Qb (σ:=Unit) (fun _ h'=>Hs h0 h' [.blk b (JI r) 155,.blk b4 v.cs 28,.blk b3 (eKd wd (Kd.mk ka kb kt kn lo st) f) 164]∧(Kd.mk ka kb kt kn lo st).one p r∧¬ (kb=true∧r.a=r.b)) (fun _=>[(3,.pointer (some ⟨b3,0,none⟩)),(4,.pointer (some ⟨b4,0,none⟩)),(5,.pointer (some ⟨b,0,none⟩)),(6,.int .i64 0)]) ?_ ?_
 ·all_goals (repeat' (first|refine qg ?_|refine qi rfl ?_|refine qp ?_|(refine qc 1 ?_;refine vl ?_;refine lB S rfl rfl ?_;(refine tS ?_ ?_<;>intro hc)<;>(refine mv ?_;refine qf ?_))|(refine qc 2 ?_;refine mv ?_;refine qf ?_)|(refine qc 3 ?_;refine vl ?_;refine lB S rfl rfl ?_;(first|(refine cS ?_ ?_<;>intro hc))<;>(refine mv ?_;(first|refine off ?_|(refine vl ?_));(first|refine off ?_|(refine lB S rfl rfl ?_));(first|refine off ?_|(first|(refine cS ?_ ?_<;>intro hc)))<;>(refine vl ?_;refine mv ?_;refine qf ?_)))|(refine qc 4 ?_;refine mv ?_;refine qf ?_)|(refine qc 5 ?_;refine lB S rfl rfl ?_;refine lB S rfl rfl ?_)))
  ·exact absurd hc hw
  ·refine qw ⟨_,rfl,?_⟩;exact ⟨by rw [Kd.err41 (.inl hc)];rfl,S.drop⟩
  ·refine qw ⟨_,rfl,?_⟩;exact ⟨by rw [Kd.err41 (.inr (by omega))];rfl,S.drop⟩
  rename_i hw1
  have hww:¬ (r.w<0∨1000<r.w):=by omega
  (refine qx rfl rfl rfl rfl rfl ((qbU S.wf wd (Kd.mk ka kb kt kn lo st) f r).mono ?_);rintro _ h ⟨⟨rfl,hp⟩|⟨rfl,hp⟩,x⟩)<;>(replace S:=S.join0 x;clear x;refine vl ?_;refine mv ?_;refine qf ?_)
  all_goals (repeat' (first|refine qg ?_|refine qi rfl ?_|(refine qc 6 ?_;refine mv ?_;refine qf ?_)))
  rotate_left
  ·refine qw ⟨_,rfl,?_⟩;exact ⟨by rw [Kd.err43 hww hp];rfl,S.drop⟩
  (repeat (refine qg ?_));first|refine Qg (σ:=Bool) (fun c h'=>Hs h0 h' [.blk b (JI r) 155,.blk b4 v.cs 28,.blk b3 (eKd wd (Kd.mk ka kb kt kn lo st) f) 164]∧(c=true↔(Kd.mk ka kb kt kn lo st).unk p.us r)) (fun c=>[(3,.pointer (some ⟨b3,0,none⟩)),(4,.pointer (some ⟨b4,0,none⟩)),(5,.pointer (some ⟨b,0,none⟩)),(6,.int .i64 0),(28,.bool c)]) ?_ ?_
  ·all_goals (repeat' (first|refine qg ?_|refine qi rfl ?_|(refine qc 7 ?_;refine vl ?_;refine lB S rfl rfl ?_;(first|(refine cS ?_ ?_<;>intro hc))<;>(refine mv ?_;(first|refine off ?_|(refine lB S rfl rfl ?_));(first|refine off ?_|(refine vl ?_));(first|refine off ?_|(refine lB S rfl rfl ?_));(first|(refine off ?_;(refine off ?_)<;>(refine vl ?_;refine mv ?_;refine qf ?_))|skip)))))
   ·have h103:ka=103:=hc;(refine qx rfl rfl rfl rfl rfl ((YN S.wf v p (H.ext w S.ext) r.a).mono ?_);rintro _ h ⟨rfl,x⟩)<;>(replace S:=S.join0 x;clear x;(first|(first|(refine cS ?_ ?_<;>intro hc)))<;>(refine vl ?_;refine mv ?_;refine qf ?_))
    all_goals (repeat' (first|refine qg ?_|refine qi rfl ?_|refine qj ?_|(refine qc 8 ?_;refine vl ?_;refine lB S rfl rfl ?_;(refine cF ?_)<;>(refine mv ?_;refine off ?_;refine off ?_;(refine off ?_)<;>(refine vl ?_;refine mv ?_;refine off ?_;refine off ?_;refine off ?_;(first|(refine off ?_;(refine off ?_)<;>(refine vl ?_;refine mv ?_;refine qf ?_))))))))
    ·exact ⟨true,⟨S,fun _=>.inl ⟨h103,Jm.1 hc⟩,fun _=>rfl⟩,(qy)⟩
    have ha1:¬ (ka=103∧gat p.us r.a=none):=fun q=>y8.1 hc q.2;have ha2:¬ (ka=101∧r.a≠[]∧gat p.us r.a=none):=fun q=>by have:=q.1;omega
    cases kb
    ·all_goals (repeat' (first|(refine qc 9 ?_;refine vl ?_;refine lB S rfl rfl ?_;refine mv ?_;refine off ?_;refine off ?_;refine off ?_;(first|(refine off ?_;(refine off ?_)<;>(refine vl ?_;refine mv ?_;refine qf ?_))))))
     exact ⟨false,⟨S,fun q=>(by cases q),fun q=>q.elim (fun q=>absurd q ha1) fun q=>q.elim (fun q=>absurd q ha2) fun q=>(by cases q.1)⟩,(qy)⟩
    ·all_goals (repeat' (first|(refine qc 9 ?_;refine vl ?_;refine lB S rfl rfl ?_;refine mv ?_;(first|(refine lB S rfl rfl ?_));(first|(refine vl ?_));(first|(refine lB S rfl rfl ?_));(skip))))
     (refine qx rfl rfl rfl rfl rfl ((YN S.wf v p (H.ext w S.ext) r.b).mono ?_);rintro _ h ⟨rfl,x⟩)<;>(replace S:=S.join0 x;clear x;(first|(first|(refine cS ?_ ?_<;>intro hc)))<;>(refine vl ?_;refine mv ?_;refine qf ?_))
     all_goals (repeat' (fail))
     ·exact ⟨true,⟨S,fun _=>.inr (.inr ⟨rfl,Jm.1 hc⟩),fun _=>rfl⟩,(qy)⟩
     ·exact ⟨false,⟨S,fun q=>(by cases q),fun q=>q.elim (fun q=>absurd q ha1) fun q=>q.elim (fun q=>absurd q ha2) fun q=>absurd q.2 (y8.1 hc)⟩,(qy)⟩
   ·have h103:ka≠103:=hc;have ha1:¬ (ka=103∧gat p.us r.a=none):=fun q=>h103 q.1;all_goals (repeat' (first|refine qi rfl ?_|(refine qc 8 ?_;refine vl ?_;refine lB S rfl rfl ?_;(first|(refine cS ?_ ?_<;>intro hc))<;>(refine mv ?_;(first|refine off ?_|(refine vl ?_));(first|refine off ?_|(refine lB S rfl rfl ?_));(first|refine off ?_|(refine tS ?_ ?_<;>intro hc))<;>(refine vl ?_;refine mv ?_;(first|refine off ?_|(refine lB S rfl rfl ?_));(first|refine off ?_|(refine vl ?_));(first|refine off ?_|(refine lB S rfl rfl ?_));(first|(refine off ?_;(refine off ?_)<;>(refine vl ?_;refine mv ?_;refine qf ?_))|skip))))))
    ·have ha2:¬ (ka=101∧r.a≠[]∧gat p.us r.a=none):=fun q=>q.2.1 hc;cases kb
     ·all_goals (repeat' (first|(refine qc 9 ?_;refine vl ?_;refine lB S rfl rfl ?_;refine mv ?_;refine off ?_;refine off ?_;refine off ?_;(first|(refine off ?_;(refine off ?_)<;>(refine vl ?_;refine mv ?_;refine qf ?_))))))
      exact ⟨false,⟨S,fun q=>(by cases q),fun q=>q.elim (fun q=>absurd q ha1) fun q=>q.elim (fun q=>absurd q ha2) fun q=>(by cases q.1)⟩,(qy)⟩
     ·all_goals (repeat' (first|(refine qc 9 ?_;refine vl ?_;refine lB S rfl rfl ?_;refine mv ?_;(first|(refine lB S rfl rfl ?_));(first|(refine vl ?_));(first|(refine lB S rfl rfl ?_));(skip))))
      (refine qx rfl rfl rfl rfl rfl ((YN S.wf v p (H.ext w S.ext) r.b).mono ?_);rintro _ h ⟨rfl,x⟩)<;>(replace S:=S.join0 x;clear x;(first|(first|(refine cS ?_ ?_<;>intro hc)))<;>(refine vl ?_;refine mv ?_;refine qf ?_))
      all_goals (repeat' (fail))
      ·exact ⟨true,⟨S,fun _=>.inr (.inr ⟨rfl,Jm.1 hc⟩),fun _=>rfl⟩,(qy)⟩
      ·exact ⟨false,⟨S,fun q=>(by cases q),fun q=>q.elim (fun q=>absurd q ha1) fun q=>q.elim (fun q=>absurd q ha2) fun q=>absurd q.2 (y8.1 hc)⟩,(qy)⟩
    ·have h101:ka=101:=by assumption
     have hne:r.a≠[]:=hc;(refine qx rfl rfl rfl rfl rfl ((YN S.wf v p (H.ext w S.ext) r.a).mono ?_);rintro _ h ⟨rfl,x⟩)<;>(replace S:=S.join0 x;clear x;(first|(first|(refine cS ?_ ?_<;>intro hc)))<;>(refine vl ?_;refine mv ?_;refine qf ?_))
     all_goals (repeat' (first|refine qi rfl ?_|refine qj ?_))
     ·exact ⟨true,⟨S,fun _=>.inr (.inl ⟨h101,hne,Jm.1 hc⟩),fun _=>rfl⟩,(qy)⟩
     have ha2:¬ (ka=101∧r.a≠[]∧gat p.us r.a=none):=fun q=>y8.1 hc q.2.2;cases kb
     ·all_goals (repeat' (first|(refine qc 9 ?_;refine vl ?_;refine lB S rfl rfl ?_;refine mv ?_;refine off ?_;refine off ?_;refine off ?_;(first|(refine off ?_;(refine off ?_)<;>(refine vl ?_;refine mv ?_;refine qf ?_))))))
      exact ⟨false,⟨S,fun q=>(by cases q),fun q=>q.elim (fun q=>absurd q ha1) fun q=>q.elim (fun q=>absurd q ha2) fun q=>(by cases q.1)⟩,(qy)⟩
     ·all_goals (repeat' (first|(refine qc 9 ?_;refine vl ?_;refine lB S rfl rfl ?_;refine mv ?_;(first|(refine lB S rfl rfl ?_));(first|(refine vl ?_));(first|(refine lB S rfl rfl ?_));(skip))))
      (refine qx rfl rfl rfl rfl rfl ((YN S.wf v p (H.ext w S.ext) r.b).mono ?_);rintro _ h ⟨rfl,x⟩)<;>(replace S:=S.join0 x;clear x;(first|(first|(refine cS ?_ ?_<;>intro hc)))<;>(refine vl ?_;refine mv ?_;refine qf ?_))
      all_goals (repeat' (fail))
      ·exact ⟨true,⟨S,fun _=>.inr (.inr ⟨rfl,Jm.1 hc⟩),fun _=>rfl⟩,(qy)⟩
      ·exact ⟨false,⟨S,fun q=>(by cases q),fun q=>q.elim (fun q=>absurd q ha1) fun q=>q.elim (fun q=>absurd q ha2) fun q=>absurd q.2 (y8.1 hc)⟩,(qy)⟩
    ·have ha2:¬ (ka=101∧r.a≠[]∧gat p.us r.a=none):=fun q=>hc q.1;cases kb
     ·all_goals (repeat' (first|(refine qc 9 ?_;refine vl ?_;refine lB S rfl rfl ?_;refine mv ?_;refine off ?_;refine off ?_;refine off ?_;(first|(refine off ?_;(refine off ?_)<;>(refine vl ?_;refine mv ?_;refine qf ?_))))))
      exact ⟨false,⟨S,fun q=>(by cases q),fun q=>q.elim (fun q=>absurd q ha1) fun q=>q.elim (fun q=>absurd q ha2) fun q=>(by cases q.1)⟩,(qy)⟩
     ·all_goals (repeat' (first|(refine qc 9 ?_;refine vl ?_;refine lB S rfl rfl ?_;refine mv ?_;(first|(refine lB S rfl rfl ?_));(first|(refine vl ?_));(first|(refine lB S rfl rfl ?_));(skip))))
      (refine qx rfl rfl rfl rfl rfl ((YN S.wf v p (H.ext w S.ext) r.b).mono ?_);rintro _ h ⟨rfl,x⟩)<;>(replace S:=S.join0 x;clear x;(first|(first|(refine cS ?_ ?_<;>intro hc)))<;>(refine vl ?_;refine mv ?_;refine qf ?_))
      all_goals (repeat' (fail))
      ·exact ⟨true,⟨S,fun _=>.inr (.inr ⟨rfl,Jm.1 hc⟩),fun _=>rfl⟩,(qy)⟩
      ·exact ⟨false,⟨S,fun q=>(by cases q),fun q=>q.elim (fun q=>absurd q ha1) fun q=>q.elim (fun q=>absurd q ha2) fun q=>absurd q.2 (y8.1 hc)⟩,(qy)⟩
  clear S;rintro c h ⟨S,hu⟩;cases c
  ·have hun:¬ (Kd.mk ka kb kt kn lo st).unk p.us r:=fun q=>by have:=hu.2 q;cases this
   all_goals (repeat' (first|refine qg ?_|refine qi rfl ?_|(refine qc 11 ?_;refine vl ?_;refine lB S rfl rfl ?_;(first|(refine cS ?_ ?_<;>intro hc))<;>(refine mv ?_;(first|refine off ?_|(refine vl ?_));(first|refine off ?_|(refine lB S rfl rfl ?_));(first|(refine off ?_;refine off ?_;refine vl ?_;refine mv ?_;refine qf ?_)|skip)))))
   ·have h100:ka=100:=hc;(refine qx rfl rfl rfl rfl rfl ((qbP r.a).mono ?_);rintro _ _ ⟨⟨rfl,hn⟩|⟨rfl,hn⟩,rfl⟩)<;>((refine vl ?_);refine vl ?_;refine mv ?_;refine qf ?_)
    ·have hnm:¬ (ka=100∧¬ jC r.a):=fun q=>q.2 hn;all_goals (repeat' (first|refine qg ?_|refine qi rfl ?_))
     cases kb
     ·all_goals (repeat' (first|refine qi rfl ?_|refine qj ?_|(refine qc 13 ?_;refine vl ?_;refine lB S rfl rfl ?_;refine mv ?_;refine off ?_;refine off ?_;refine off ?_;refine off ?_;(refine off ?_)<;>(refine vl ?_;refine mv ?_;refine qf ?_))))
      exact ⟨(),⟨S,⟨hww,hp,hun,hnm⟩,fun q=>(by cases q.1)⟩,(qy)⟩
     ·all_goals (repeat' (first|refine qg ?_|refine qi rfl ?_|refine qj ?_|(refine qc 13 ?_;refine vl ?_;refine lB S rfl rfl ?_;refine mv ?_;(first|(refine vl ?_));(first|(refine lB S rfl rfl ?_));(first|(refine vl ?_));(first|(refine lB S rfl rfl ?_));(first|(refine tS ?_ ?_<;>intro hc))<;>(refine vl ?_;refine mv ?_;refine qf ?_))|(refine qc 14 ?_;refine mv ?_;refine qf ?_)))
      ·refine qw ⟨_,rfl,?_⟩;exact ⟨by rw [Kd.err5 ⟨hww,hp,hun,hnm⟩ ⟨rfl,hc⟩];rfl,S.drop⟩
      ·exact ⟨(),⟨S,⟨hww,hp,hun,hnm⟩,fun q=>hc q.2⟩,(qy)⟩
    ·all_goals (repeat' (first|refine qg ?_|refine qi rfl ?_|(refine qc 12 ?_;refine mv ?_;refine qf ?_)))
     refine qw ⟨_,rfl,?_⟩;exact ⟨by rw [Kd.err4 hww hp hun ⟨h100,hn⟩];rfl,S.drop⟩
   ·have hnm:¬ (ka=100∧¬ jC r.a):=fun q=>hc q.1;cases kb
    ·all_goals (repeat' (first|refine qi rfl ?_|refine qj ?_|(refine qc 13 ?_;refine vl ?_;refine lB S rfl rfl ?_;refine mv ?_;refine off ?_;refine off ?_;refine off ?_;refine off ?_;(refine off ?_)<;>(refine vl ?_;refine mv ?_;refine qf ?_))))
     exact ⟨(),⟨S,⟨hww,hp,hun,hnm⟩,fun q=>(by cases q.1)⟩,(qy)⟩
    ·all_goals (repeat' (first|refine qg ?_|refine qi rfl ?_|refine qj ?_|(refine qc 13 ?_;refine vl ?_;refine lB S rfl rfl ?_;refine mv ?_;(first|(refine vl ?_));(first|(refine lB S rfl rfl ?_));(first|(refine vl ?_));(first|(refine lB S rfl rfl ?_));(first|(refine tS ?_ ?_<;>intro hc))<;>(refine vl ?_;refine mv ?_;refine qf ?_))|(refine qc 14 ?_;refine mv ?_;refine qf ?_)))
     ·refine qw ⟨_,rfl,?_⟩;exact ⟨by rw [Kd.err5 ⟨hww,hp,hun,hnm⟩ ⟨rfl,hc⟩];rfl,S.drop⟩
     ·exact ⟨(),⟨S,⟨hww,hp,hun,hnm⟩,fun q=>hc q.2⟩,(qy)⟩
  ·have hun:(Kd.mk ka kb kt kn lo st).unk p.us r:=hu.1 rfl;all_goals (repeat' (first|refine qg ?_|refine qi rfl ?_|(refine qc 10 ?_;refine mv ?_;refine qf ?_)))
   refine qw ⟨_,rfl,?_⟩;exact ⟨by rw [Kd.err6 hww hp hun];rfl,S.drop⟩
 clear S;rintro _ h ⟨S,ho,h5⟩;(repeat (refine qg ?_));first|refine Qb (σ:=Int×Bool) (fun (i,c) h'=>Hs h0 h' [.blk b (JI r) 155,.blk b4 v.cs 28,.blk b3 (eKd wd (Kd.mk ka kb kt kn lo st) f) 164]∧((c=true∧Zp p.tabs r.t∧i=tix p.tabs r.t∧tix p.tabs r.t<p.tabs.length)∨(c=false∧¬ Zp p.tabs r.t))) (fun (i,c)=>[(3,.pointer (some ⟨b3,0,none⟩)),(4,.pointer (some ⟨b4,0,none⟩)),(5,.pointer (some ⟨b,0,none⟩)),(6,.int .i64 0),(7,.int .i64 i),(8,.bool c)]) ?_ ?_
 ·all_goals (repeat' (first|(refine qc 15 ?_;refine vl ?_;refine lB S rfl rfl ?_;refine vl ?_;refine lB S rfl rfl ?_)))
  (refine qx rfl rfl rfl rfl rfl ((KR S.wf v.vt.val p.tabs (H.tab.ext w S.ext) r.t).mono ?_);rintro _ h ⟨⟨k,rfl,-,hk,hn,hmin⟩|⟨rfl,hnot⟩,x⟩)<;>(replace S:=S.join0 x;clear x;refine mv ?_;refine vl ?_;refine vl ?_;refine mv ?_;refine mv ?_;refine qf ?_)
  ·all_goals (repeat' (fail))
   exact ⟨((k:Int),true),⟨S,.inl ⟨rfl,⟨k,hk,hn⟩,by rw [YS hk hn hmin],by rw [YS hk hn hmin];exact hk⟩⟩,(qy)⟩
  ·all_goals (repeat' (fail))
   exact ⟨(0,false),⟨S,.inr ⟨rfl,fun ⟨j,hj,hn⟩=>hnot.elim (fun q=>q hv) fun q=>q j hj hn⟩⟩,(qy)⟩
 clear S;rintro ⟨i,c⟩ h ⟨S,hf⟩;(repeat (refine qg ?_));first|refine Qg (σ:=Unit) (fun _ h'=>Hs h0 h' [.blk b (JI r) 155,.blk b4 v.cs 28,.blk b3 (eKd wd (Kd.mk ka kb kt kn lo st) f) 164]∧¬ (Kd.mk ka kb kt kn lo st).ut p.tabs r) (fun _=>[(3,.pointer (some ⟨b3,0,none⟩)),(4,.pointer (some ⟨b4,0,none⟩)),(5,.pointer (some ⟨b,0,none⟩)),(6,.int .i64 0),(7,.int .i64 i),(8,.bool c)]) ?_ ?_
 ·rcases hf with ⟨rfl,hT,-,-⟩|⟨rfl,hT⟩
  ·all_goals (repeat' (first|refine qi rfl ?_|refine qj ?_|(refine qc 16 ?_;refine vl ?_;refine lB S rfl rfl ?_;(first|(refine cS ?_ ?_<;>intro hc))<;>(refine mv ?_;(first|refine off ?_|refine mv ?_);(first|refine off ?_|refine vl ?_);refine vl ?_;refine mv ?_;(first|(refine vl ?_));(first|(refine lB S rfl rfl ?_));(first|(first|refine cF ?_|(refine cS ?_ ?_<;>intro hc)))<;>((refine mv ?_);(first|refine off ?_|(refine vl ?_));(first|refine off ?_|(refine lB S rfl rfl ?_));(first|refine off ?_|(refine tS ?_ ?_<;>intro hc))<;>((refine vl ?_);refine mv ?_;(first|refine off ?_|refine mv ?_);(first|refine off ?_|refine vl ?_);refine vl ?_;refine vl ?_;refine qf ?_))))))
   all_goals exact ⟨(),⟨S,fun q=>q.elim (fun q=>q.2 hT) fun q=>q.2.2 hT⟩,(qy)⟩
  ·all_goals (repeat' (first|refine qg ?_|refine qi rfl ?_|refine qj ?_|(refine qc 16 ?_;refine vl ?_;refine lB S rfl rfl ?_;(first|(refine cS ?_ ?_<;>intro hc))<;>(refine mv ?_;(first|refine off ?_|refine mv ?_);(first|refine off ?_|refine vl ?_);refine vl ?_;refine mv ?_;(first|refine off ?_|(refine vl ?_));(first|refine off ?_|(refine lB S rfl rfl ?_));(first|refine off ?_|(first|(refine cS ?_ ?_<;>intro hc)))<;>((first|refine off ?_|refine mv ?_);(first|refine off ?_|(refine vl ?_));(first|refine off ?_|(refine lB S rfl rfl ?_));(first|refine off ?_|(refine tS ?_ ?_<;>intro hc))<;>((first|refine off ?_|refine vl ?_);(first|refine off ?_|refine mv ?_);(first|refine off ?_|refine mv ?_);(first|refine off ?_|refine vl ?_);(first|refine off ?_|refine vl ?_);refine vl ?_;refine qf ?_))))|(refine qc 17 ?_;refine mv ?_;refine qf ?_)))
   all_goals first|((refine qw ⟨_,rfl,?_⟩);have hut:(Kd.mk ka kb kt kn lo st).ut p.tabs r:=(by first|exact .inl ⟨by assumption,hT⟩|exact .inr ⟨by assumption,by assumption,hT⟩);exact ⟨by rw [Kd.errR ho h5,if_pos hut];rfl,S.drop⟩)|exact ⟨(),⟨S,fun q=>by rcases q with ⟨q1,-⟩|⟨q1,q2,-⟩<;>first|contradiction⟩,(qy)⟩
 clear S;rintro _ h ⟨S,hut⟩;all_goals (repeat' (first|refine qg ?_|(refine qc 18 ?_;refine mv ?_;refine qf ?_)))
 (repeat (refine qg ?_));first|refine Qg (σ:=Unit) (fun _ h'=>Hs h0 h' [.blk b (JI r) 155,.blk b4 v.cs 28,.blk b3 (eKd wd (Kd.mk ka kb kt kn lo st) f) 164]) (fun _=>[(3,.pointer (some ⟨b3,0,none⟩)),(4,.pointer (some ⟨b4,0,none⟩)),(5,.pointer (some ⟨b,0,none⟩)),(6,.int .i64 0),(7,.int .i64 i),(8,.bool c),(9,.int .i64 ((Kd.mk ka kb kt kn lo st).most p.tabs r))]) ?_ ?_
 ·cases st
  ·all_goals (repeat' (first|refine qi rfl ?_|refine qj ?_|(refine qc 19 ?_;refine vl ?_;refine lB S rfl rfl ?_;refine qf ?_)))
   exact ⟨(),S,(qy)⟩
  ·have h116:kt=116:=hs rfl;rcases hf with ⟨rfl,hT,rfl,hti⟩|⟨rfl,hT⟩
   ·have hg:=(hv.2 _ hti).1;have ht:=H.tab.tab _ hti;have hone:(p.tabs.drop (tix p.tabs r.t)).take (tix p.tabs r.t+1 - tix p.tabs r.t)=[tb p.tabs (tix p.tabs r.t)]:=by
     rw [Nat.add_sub_cancel_left];unfold tb;rw [zA2,zA4 hti,zG7 hti];rfl
    have b1:=Qo (tb p.tabs (tix p.tabs r.t));all_goals (repeat' (first|refine qi rfl ?_|(refine qc 19 ?_;refine vl ?_;refine lB S rfl rfl ?_;refine qf ?_)|(refine qc 20 ?_;refine vl ?_;refine lB S rfl rfl ?_;refine mv ?_;refine mv ?_;refine ad ?_)))
    refine su (tix p.tabs r.t) (tix p.tabs r.t+1) (hr.ext w S.ext) H.tab.cap ?_;intro vs hrs hcs;(skip);rw [hone] at hrs;(refine qx rfl rfl rfl rfl rfl ((countOne S.wf hrs hcs (ht.ext w S.ext) hg).mono ?_);rintro _ h ⟨rfl,x⟩)<;>(replace S:=S.join0 x;clear x;refine sb ?_;refine mv ?_;refine qf ?_)
    all_goals (repeat' (fail))
    exact ⟨(),S,(qy)⟩
   ·exact absurd (.inl ⟨h116,hT⟩) hut
 clear S;rintro _ h S;cases kn
 ·all_goals (repeat' (first|refine qg ?_|refine qi rfl ?_|refine qj ?_|(refine qc 21 ?_;refine vl ?_;refine lB S rfl rfl ?_;refine mv ?_;refine off ?_;refine off ?_;refine off ?_;refine off ?_;(refine off ?_)<;>((refine off ?_);refine off ?_;refine off ?_;refine off ?_;(refine off ?_)<;>((refine off ?_);refine vl ?_;refine qf ?_)))|(refine qc 23 ?_;refine mv ?_;refine qf ?_)))
  refine qw ⟨_,rfl,?_⟩;exact ⟨by rw [Kd.errR ho h5,if_neg hut,if_neg (fun q=>by cases q.1)];rfl,S.drop⟩
 ·all_goals (repeat' (first|refine qg ?_|refine qi rfl ?_|refine qj ?_|(refine qc 21 ?_;refine vl ?_;refine lB S rfl rfl ?_;refine mv ?_;(first|(refine vl ?_));(first|(refine lB S rfl rfl ?_));(first|(refine vl ?_));(first|(refine lB S rfl rfl ?_));(first|(first|(refine cS ?_ ?_<;>intro hc)))<;>((refine mv ?_);(first|refine off ?_|(refine vl ?_));(first|refine off ?_|(refine lB S rfl rfl ?_));(first|refine off ?_|refine mv ?_);(first|refine off ?_|(first|(refine cS ?_ ?_<;>intro hc)))<;>((refine vl ?_);refine vl ?_;refine qf ?_)))|(refine qc 22 ?_;refine mv ?_;refine qf ?_)|(refine qc 23 ?_;refine mv ?_;refine qf ?_)))
  ·refine qw ⟨_,rfl,?_⟩;exact ⟨by rw [Kd.errR ho h5,if_neg hut,if_pos ⟨rfl,.inl hc⟩];rfl,S.drop⟩
  ·refine qw ⟨_,rfl,?_⟩;exact ⟨by rw [Kd.errR ho h5,if_neg hut,if_pos ⟨rfl,.inr hc⟩];rfl,S.drop⟩
  ·refine qw ⟨_,rfl,?_⟩;exact ⟨by rw [Kd.errR ho h5,if_neg hut,if_neg (fun q=>q.2.elim (fun q=>by contradiction) fun q=>by contradiction)];rfl,S.drop⟩
def mkP (b:Nat) (es:List (Value×Value×Nat)) (c:Nat) (h:AH) (fp:Fp):Prop:=h.get b=some (.map es c)∧fp b
abbrev mkR (b:Nat) (es:List (Value×Value×Nat)) (c:Nat):Rs:=.any (mkP b es c)
def mvO (r:Option (Nat×Value)) (z:Value):Value:=match r with|some q=>q.2|none=>z
section
variable {P:Program} {X:Extern} {sz:Nat} {L:Ks} {h h0:AH} {rs:List Rs} {ops:Array Oper} {os:List Oper} {o:Oper} {R:Ks→AH→Prop}
theorem qgP {ty:TypeId} {d:Tmp} (S:Hs h0 h rs) (w:∀ b h',Hs h0 h' (mkR b [] 0 :: rs)→KO P X sz ops os (L.put d (.map (some b))) h' R) (ho:o.op = .makeMap ty none:=by exact rfl) (hg:qo ops L.tree o.guard=some true:=by exact rfl) (hdst:o.dst=some d:=by exact rfl) (hds:Nat.blt d sz=true:=by exact rfl):KO P X sz ops (o :: os) L h R :=
 qW hg (v:=.map (some h.next)) (h':=h.add (.map [] 0)) (by rw [ho];rfl) (show qE sz L o.dst _=some (L.put d _) by simp only [qE,hdst,hds]) (w _ _ (S.grow (fp:=fun b=>b=h.next) ((Ext.refl S.wf).add _) (fun h' q=>⟨by rw [q _ rfl,AH.get_add,if_pos rfl],rfl⟩) fun b hb=>by subst hb;exact ⟨zA3 _,zG0 _⟩))
theorem ins {b c:Nat} {es es2:List (Value×Value×Nat)} {m k x:Operand} {ty et:TypeId} {kv xv:Value} {kd:TypeDesc} {L':Ks} (S:Hs h0 h (mkR b es c :: rs)) (w:∀ h',Hs h0 h' (mkR b es2 (c+1) :: rs)→KO P X sz ops os L' h' R)
 (ho:o.op = .insert ty m k x:=by exact rfl) (hg:qo ops L.tree o.guard=some true:=by exact rfl) (hm:kA L m=some (.map (some b)):=by exact rfl) (hk:kA L k=some kv:=by exact rfl) (hx:kA L x=some xv:=by exact rfl)
 (hT:VU P ty kv=some (kd,et):=by exact rfl) (hf:QX kd kv es 0=some none:=by exact rfl) (he:es ++ [(kv,xv,c)]=es2:=by exact rfl) (hp:qE sz L o.dst (.tuple #[])=some L':=by exact rfl):KO P X sz ops (o :: os) L h R:=by
 obtain ⟨fp,k1,k2⟩:=At.here.ok S.sep;obtain ⟨g1,g2⟩:=k1 h fun _ _=>rfl;have g3:=fun j (hj:fp j)=>k2 j hj;have e:jL P ty (.map (some b)) kv xv h=some (h.put b (.map es2 (c+1))):=by
  unfold jL;simp only [hT,g1,hf,he]
 refine kS hg (h':=h.put b (.map es2 (c+1))) ?_ hp (w _ ?_)
 ·rw [ho];simp only [zD,qB hm,qB hk,qB hx,e]
 ·refine S.turn .here (zA3 _) (S.wf.put (g3 b g2).2.1 _) fun fq q1 q2=>?_;obtain ⟨g4,g5⟩:=q1 h fun _ _=>rfl;exact ⟨fun j _ hj=>by rw [AH.get_put,if_neg];intro q;subst q;exact hj g5,fq,fun h' q=>⟨by rw [q b g5,AH.get_put,if_pos rfl],g5⟩,fun j hj=>⟨(q2 j hj).2,.inl hj⟩⟩
theorem qfT {b c:Nat} {es:List (Value×Value×Nat)} {ty et:TypeId} {kv z:Value} {kd:TypeDesc} {r:Option (Nat×Value)} (S:Hs h0 h rs) (a:At rs (mkR b es c)) (hT:VU P ty kv=some (kd,et)) (hf:QX kd kv es 0=some r) (hz:zeroV P et=some z) :
 Qa P ty (.map (some b)) kv false h=some (mvO r z):=by
 obtain ⟨fp,⟨g1,g2⟩⟩:=S.anyP a;unfold Qa Xi;simp only [hT,g1,hf,hz];cases r<;>rfl
theorem lkK {b c:Nat} {es:List (Value×Value×Nat)} {m k:Operand} {ty et:TypeId} {kv z v:Value} {kd:TypeDesc} {r:Option (Nat×Value)} {L':Ks} (S:Hs h0 h rs) (a:At rs (mkR b es c)) (hf:QX kd kv es 0=some r) (hv:mvO r z=v) (w:KO P X sz ops os L' h R)
 (ho:o.op = .lookup ty m k false:=by exact rfl) (hg:qo ops L.tree o.guard=some true:=by exact rfl) (hm:kA L m=some (.map (some b)):=by exact rfl) (hk:kA L k=some kv:=by exact rfl) (hT:VU P ty kv=some (kd,et):=by exact rfl) (hz:zeroV P et=some z:=by exact rfl) (hp:qE sz L o.dst v=some L':=by exact rfl):KO P X sz ops (o :: os) L h R:=by
 have e:=qfT S a hT hf hz;rw [hv] at e;refine qW hg (v:=v) (h':=h) ?_ hp w;rw [ho];simp only [zD,qB hm,qB hk,e,qH]
end
def kwL:List (List UInt8):=[[97,112,97,114,116],[98,101,115,105,100,101],[97,99,114,111,115,115],[110,101,97,114],[116,111,103,101,116,104,101,114],[97,116],[115,101,97,116],[97,108,116,101,114,110,97,116,101],[104,111,115,116],[114,101,97,99,104],[115,112,101,97,107],[112,101,97,99,101],[99,111,109,112,97,110,121],[104,111,110,111,117,114],[102,105,108,108],[108,105,109,105,116],[107,105,116,99,104,101,110],[109,105,120]]
def kfL:List Value:=[JB 155,JB 156,JB 157,JB 158,JB 159,JB 160,JB 161,JB 162,JB 163,JB 164,JB 165,JB 166,JB 167,JB 168,JB 169,JB 170,JB 171,JB 172]
def kEs:List (Value×Value×Nat):=(List.range 18).map fun i=>(.int .u8 ((i+1:Nat):Int),kdV (kwL.getD i []) (kdL.getD i default) (kfL.getD i .nilFunc),i)
theorem qck {h0:AH} (w:WfH h0):Fn Tryz.prog Xh 115 [] h0 (fun u h'=>∃ b,u = .map (some b)∧Hs h0 h' [mkR b kEs 18]):=by
 have S:=Hs.start w;refine qM (by first|rfl) Tryz.func115 rfl rfl ?_;all_goals (repeat' (first|refine qg ?_|(refine qc 0 ?_;refine mv ?_;refine qf ?_)))
 (repeat (refine qg ?_));refine qc 1 ?_;refine qgP S ?_;clear S;intro b h S;refine vl ?_;refine ins (es2:=kEs.take 1) S ?_;clear S;intro h S;refine vl ?_;refine ins (es2:=kEs.take 2) S ?_;clear S;intro h S;refine vl ?_;refine ins (es2:=kEs.take 3) S ?_;clear S;intro h S;refine vl ?_;refine ins (es2:=kEs.take 4) S ?_;clear S;intro h S;refine vl ?_;refine ins (es2:=kEs.take 5) S ?_;clear S;intro h S;refine vl ?_;refine ins (es2:=kEs.take 6) S ?_;clear S;intro h S;refine vl ?_;refine ins (es2:=kEs.take 7) S ?_;clear S;intro h S;refine vl ?_;refine ins (es2:=kEs.take 8) S ?_;clear S;intro h S;refine vl ?_;refine ins (es2:=kEs.take 9) S ?_;clear S;intro h S;refine vl ?_;refine ins (es2:=kEs.take 10) S ?_;clear S;intro h S;refine vl ?_;refine ins (es2:=kEs.take 11) S ?_;clear S;intro h S;refine vl ?_;refine ins (es2:=kEs.take 12) S ?_;clear S;intro h S;refine vl ?_;refine ins (es2:=kEs.take 13) S ?_;clear S;intro h S;refine vl ?_;refine ins (es2:=kEs.take 14) S ?_;clear S;intro h S;refine vl ?_;refine ins (es2:=kEs.take 15) S ?_;clear S;intro h S;refine vl ?_;refine ins (es2:=kEs.take 16) S ?_;clear S;intro h S;refine vl ?_;refine ins (es2:=kEs.take 17) S ?_;clear S;intro h S;refine vl ?_;refine ins (es2:=kEs.take 18) S ?_;clear S;intro h S;refine mv ?_;refine mv ?_;refine qf ?_;all_goals (repeat' (fail))
 refine qw ⟨_,rfl,?_⟩;exact ⟨b,rfl,S⟩
def WY (k:Int):Value:=if 1≤k∧k≤18 then kdV (kwL.getD (k.toNat - 1) []) (yz k) (kfL.getD (k.toNat - 1) .nilFunc) else kdV [] ⟨0,false,0,false,0,false⟩ .nilFunc
variable [Flag]
theorem qaX {h0:AH} (w:WfH h0) (v:RlV) (r:Rl) (H:RlOk h0 v r):Fn Tryz.prog Xh 153 [v.val] h0 (fun u h'=>((u = .tuple #[.int .i64 0,.int .i64 0]∧VRl r)∨∃ i e,u = .tuple #[.int .i64 i,.int .i64 e]∧Bad r i e)∧Hs h0 h' []):=by
 have S:=Hs.start w;unfold RlV.val;refine qM (by first|rfl|exact KX.no _ _ _ (by decide) rfl) Tryz.func153 rfl rfl ?_;all_goals (repeat' (first|refine qg ?_|refine qi rfl ?_|refine qj ?_|refine qA ?_|refine qp ?_|refine qP ?_|refine qQ ?_|(refine qc 0 ?_;(refine bx S ?_;clear S;intro b h S);refine mv ?_;refine mv ?_;refine qf ?_)|(refine qc 1 ?_;(first|refine lB S rfl rfl ?_|refine jT S rfl rfl ?_|refine Qk S ?_|refine lH S ?_))))
 (refine qx rfl rfl rfl rfl rfl ((qdA S.wf v r (H.ext w S.ext)).mono ?_);rintro _ h (⟨p,rfl,hv,x⟩|⟨i,e,rfl,hb,x⟩))<;>(refine mv ?_;refine vl ?_;refine vl ?_;refine vl ?_;(iterate 3 refine mv ?_);refine qf ?_)
 ·replace S:=S.join x;all_goals (repeat' (first|refine qg ?_|refine qi rfl ?_|refine qj ?_|refine qA ?_|refine qp ?_|refine qP ?_|refine qQ ?_|(refine qc 2 ?_;(iterate 4 refine mv ?_);refine qf ?_)))
  refine qw ⟨_,rfl,?_⟩;exact ⟨.inl ⟨rfl,hv⟩,S.drop⟩
 ·replace S:=S.join x;all_goals (repeat' (first|refine qg ?_|refine qi rfl ?_|refine qj ?_|refine qA ?_|refine qp ?_|refine qP ?_|refine qQ ?_|(refine qc 2 ?_;(iterate 4 refine mv ?_);refine qf ?_)))
  refine qw ⟨_,rfl,?_⟩;exact ⟨.inr ⟨_,_,rfl,hb⟩,S.drop⟩
end Go.Proofs.Xx
