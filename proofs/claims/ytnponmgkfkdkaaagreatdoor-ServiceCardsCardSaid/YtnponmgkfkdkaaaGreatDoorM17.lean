/-
  The reference's card.
-/
import Derived.Test.YtnponmgkfkdkaaaGreatDoorM16
set_option linter.unusedSimpArgs false
set_option linter.unusedVariables false
set_option linter.unusedSectionVars false
set_option maxRecDepth 100000
set_option maxHeartbeats 4000000
namespace Go.Proofs.Xx
open Go Go.Proofs
variable [Flag]
theorem pR {h0:AH} (w:WfH h0) (pv:PbV) (p:Pb) (H:PbOk h0 pv p) (hP:PO p) (vq:Value) (q:List Int) (rq:zl h0 vq 1 eI q) (hQ:PartOk p q) (g:Nat) (hg:g<q.length) :
 Fn Tryz.prog Xh 51 [pv.val,vq,.int .i64 g] h0 (fun u h'=>u=str (if q.getD g default<0 then [] else jl p q g)∧Hs h0 h' []):=by
 have S:=Hs.start w;have hql:=hQ.len;have h64:p.us.length≤64:=hP.rl.l64;have hgl:pv.gs.length=p.us.length:=H.rol.len;have rg:zl h0 pv.vg.val 9 eG pv.gs:=H.rol.rg;have hr:=H.tab.rd;have hl:=H.tab.len;have hx0:q.getD (g:Int).toNat default=q.getD g default:=rfl;have hx1:pv.gs.getD (g:Int).toNat default=pv.gs.getD g default:=rfl;unfold PbV.val;refine qA (by first|rfl) Tryz.func51 rfl rfl ?_;all_goals (repeat' (first|refine qg ?_|(refine qc 0 ?_;(refine bx S ?_;clear S;intro b h S);refine mv ?_;refine qf ?_)))
 obtain ⟨b3,hnm⟩:∃ x,x=b:=⟨_,rfl⟩;subst hnm;all_goals (repeat' (first|refine qg ?_|refine qh rfl ?_|refine qi ?_|(refine qc 1 ?_;refine mv ?_;refine mv ?_;refine zT S ?_;refine zQ S ?_;(first|(refine cS ?_ ?_<;>intro hc))<;>(refine qf ?_))|(refine qc 2 ?_;refine mv ?_;refine qf ?_)))
 ·refine qj ⟨_,rfl,?_⟩;rw [hx0] at *;exact ⟨by rw [if_pos (by assumption)];rfl,S.drop⟩
 rw [hx0] at *;have hs:0≤q.getD g default:=by omega
 have hrg:=hQ.rng _ (qK hg);obtain ⟨i,k,hw⟩:=V6 hP.tabs hs p.tabs.length (zA3 _) hrg.2;have hsum:=zD p.tabs p.tabs.length;have ht16:=hP.tabs.1;have hsm:q.getD g default≤1000000:=by omega
 obtain ⟨e1,e2,e3,e4⟩:=hP.gst H (show g<p.us.length by omega);have e2l:=e2.2.1;obtain ⟨s1,s2⟩:=XJ hw;have hkb:=hw.szb;have hdg:=Zj 8 k (by omega);have hnt:=(hw.1.nm hw.2.1).2.1;have hbl:=yO (q:=q) hw;have hA:Y6 p q g=(wGuest ++ [32] ++ (p.us.getD g default).name ++ [10]) ++ (if (p.us.getD g default).rank=[] then [] else wRank ++ [32] ++ (p.us.getD g default).rank ++ [10]) ++ (wTable ++ [32] ++ zW p.tabs i k ++ [10]) ++ (if (p.us.getD g default).diet=[] then [] else wDiet ++ [32] ++ (p.us.getD g default).diet ++ [10]):=by
  unfold Y6;rw [s1,s2]
 rw [if_neg (by omega)];all_goals (repeat' (first|refine qg ?_|(refine qc 3 ?_;refine vl ?_;refine lB S rfl rfl ?_;refine mv ?_;refine zT S ?_;refine zQ S ?_;(refine al S ?_;clear S;intro b h S);(first|(refine sB S rfl rfl ?_;clear S;intro h S));refine qf ?_)))
 obtain ⟨b7,hnm⟩:∃ x,x=b:=⟨_,rfl⟩;subst hnm;rw [hx1] at S;generalize hxx:pv.gs.getD g default=x0 at *
 generalize hyy:p.us.getD g default=y0 at *
 subst e1;have hj2:∀ (a b:List UInt8),(Zz [a,b]).length=a.length+b.length+1:=fun a b=>by simp [Zz];omega
 have hjg:=hj2 wGuest x0.name;have hjr:=hj2 wRank x0.rank;have hjd:=hj2 wDiet x0.diet;have hg5:wGuest.length=5∧wRank.length=4∧wDiet.length=4∧wTable.length=5:=⟨rfl,rfl,rfl,rfl⟩
 have two:∀ {a b:List UInt8},a.length≤30→b.length≤30→∀ u∈[a,b],u.length≤100:=fun {a b} ha hb u hu=>by
  simp at hu;rcases hu with rfl|rfl<;>omega
 (repeat (refine qg ?_));refine qc 4 ?_;(refine vl ?_);refine lB S rfl rfl ?_;refine bsn (α:=List UInt8) (z:=1) eS [wGuest,x0.name] S ?_;clear S;intro u h S;(skip);(refine qm rfl rfl rfl rfl rfl ((Za S.wf u _ (Rd.jZ S .here) (by simp) (two (by decide) (by omega))).mono ?_);rintro _ h ⟨rfl,x⟩)<;>(replace S:=S.qx x;clear x;refine mv ?_;refine qf ?_)
 all_goals (repeat' (refine qg ?_))
 replace S:Hs h0 h [.blk b7 (eG x0) 45,.blk b3 pv.cs 28]:=S.tail;(repeat (refine qg ?_));first|refine zL (σ:=List UInt8) (fun s h'=>Hs h0 h' [.blk b7 (eG x0) 45,.blk b3 pv.cs 28]∧s=(wGuest ++ [32] ++ x0.name ++ [10]) ++ (if x0.rank=[] then [] else wRank ++ [32] ++ x0.rank ++ [10])) (fun s=>[(1,vq),(2,.int .i64 g),(3,.pointer (some ⟨b3,0,none⟩)),(7,.pointer (some ⟨b7,0,none⟩)),(8,str s)]) ?_ ?_
 ·all_goals (repeat' (first|refine qh rfl ?_|refine qi ?_|(refine qc 5 ?_;refine vl ?_;refine lB S rfl rfl ?_;(refine tS ?_ ?_<;>intro hc)<;>(refine qf ?_))))
  ·exact ⟨Zz [wGuest,x0.name] ++ [10],⟨S,by rw [if_pos (by assumption)];simp [Zz]⟩,(qw)⟩
  ·(repeat (refine qg ?_));refine qc 6 ?_;refine mv ?_;refine vl ?_;refine lB S rfl rfl ?_;refine bsn (α:=List UInt8) (z:=1) eS [wRank,x0.rank] S ?_;clear S;intro u h S;(skip);(refine qm rfl rfl rfl rfl rfl ((Za S.wf u _ (Rd.jZ S .here) (by simp) (two (by decide) (by omega))).mono ?_);rintro _ h ⟨rfl,x⟩)<;>(replace S:=S.qx x;clear x;refine tc ?_;refine mv ?_;refine qf ?_)
   all_goals (repeat' (fail))
   exact ⟨_,⟨S.tail,by rw [if_neg (by assumption)];(try simp [Zz])⟩,(qw)⟩
 clear S;rintro s h ⟨S,es⟩;have hsl:s.length≤100:=by
  rw [es];unfold wGuest wRank;split<;>simp only [zB2,zC4,List.length_nil]<;>omega
 have htabs:=H.tab.rd;(repeat (refine qg ?_));refine qae (id:=7) (j1:=1) (rd:=[(1,(0,1))]) (fun b1=>[some b1]) S (HintOk.direct) ?_;clear S;intro b1 h S;refine qp ?_;(first|(refine mv ?_<;>refine qf ⟨⟨by (first|exact True.intro),rfl⟩,?_⟩));refine fl S rfl rfl S.gB ?_;refine qp ?_;(first|(refine lB S rfl rfl ?_<;>refine qf ⟨⟨by (first|exact True.intro),rfl⟩,?_⟩));refine qp ?_;(first|(refine mv ?_<;>refine qf ⟨⟨by (first|exact True.intro),rfl⟩,?_⟩));refine qp ?_;(first|(refine mv ?_<;>refine qf ⟨⟨by (first|exact True.intro),rfl⟩,?_⟩));refine qp ?_;(first|(refine zT S ?_<;>refine qf ⟨⟨by (first|exact True.intro),rfl⟩,?_⟩));refine qp ?_;(first|(refine zQ S ?_<;>refine qf ⟨⟨by (first|exact True.intro),rfl⟩,?_⟩));obtain ⟨b8,hnm⟩:∃ x,x=b1:=⟨_,rfl⟩;subst hnm;((refine qp ?_;first|refine qm rfl rfl rfl rfl rfl ((pJ S.wf pv p (H.ext w S.ext) hP.tabs (q.getD g default) ⟨hs,hsm⟩ i k hw).mono ?_));rintro u7 h x)<;>((refine qf ⟨⟨True.intro,?_⟩,?_⟩;(focus ((show keepsX _ _ _ _ _;simp only [keepsX];(repeat' (first|exact True.intro|refine And.intro ?_ ?_));all_goals (intro hw;first|exact x.ext.old _ S.bB)))));replace S:=S.QD x;clear x)
 replace S:Hs h0 h [.sl u7 9 1 eS [(tb p.tabs i).name,Zo k],.blk b8 [str wTable] 9,.blk b7 (eG x0) 45,.blk b3 pv.cs 28]:=S;have S:=(show Hs h0 h [.blk b8 [str wTable] 9,.sl u7 9 1 eS [(tb p.tabs i).name,Zo k],.blk b7 (eG x0) 45,.blk b3 pv.cs 28] from S.pick)
 have S:=Hs.qhh (z:=1) eS [wTable] S;replace S:Hs h0 h [.sl (Qk (some 1) b8) 9 1 eS [wTable],.sl u7 9 1 eS [(tb p.tabs i).name,Zo k],.blk b7 (eG x0) 45,.blk b3 pv.cs 28]:=S;refine qp ?_;refine apd S rfl rfl (Rd.jZ S (.there .here)) ?_ (hsz:=by simp only [zC4,List.length_nil];omega);have S0:=S;clear S;intro v9 h S;refine qf ⟨⟨True.intro,?_⟩,?_⟩;(focus ((show keepsX _ _ _ _ _;simp only [keepsX];(repeat' (first|exact True.intro|refine And.intro ?_ ?_));all_goals (intro hw;first|exact absurd hw (by decide +kernel)))));clear S0;have hjt:(Zz [wTable,(tb p.tabs i).name,Zo k]).length≤40:=by
  have:=hg5.2.2.2;simp only [Zz,zB2,zC4,List.length_nil];omega
 have hw3:∀ u∈[wTable,(tb p.tabs i).name,Zo k],u.length≤100:=fun u hu=>by
  simp at hu;rcases hu with rfl|rfl|rfl
  ·exact (by decide:wTable.length≤100)
  ·exact zD0 hnt (by omega)
  ·omega
 have hjt2:Zz [wTable,(tb p.tabs i).name,Zo k] ++ [10]=wTable ++ [32] ++ zW p.tabs i k ++ [10]:=by unfold zW;simp [Zz]
 ((refine qp ?_;first|refine qm rfl rfl rfl rfl rfl ((Za S.wf v9 [wTable,(tb p.tabs i).name,Zo k] (Rd.jZ S .here) (by simp) hw3).mono ?_));rintro _ h ⟨rfl,x⟩)<;>((refine qf ⟨⟨True.intro,?_⟩,?_⟩;(focus ((show keepsX _ _ _ _ _;simp only [keepsX];(repeat' (first|exact True.intro|refine And.intro ?_ ?_));all_goals (intro hw;first|exact absurd hw (by decide +kernel))))));replace S:=S.qx x;clear x;refine qp ?_;(first|(refine tc ?_<;>refine qf ⟨⟨by (first|exact True.intro),rfl⟩,?_⟩));refine qp ?_;(first|(refine mv ?_<;>refine qf ⟨⟨by (first|exact True.intro),rfl⟩,?_⟩));refine Zm ?_)
 rw [hjt2];have hjt3:(wTable ++ [32] ++ zW p.tabs i k ++ [10]).length≤41:=by rw [← hjt2,zB2];simp only [zC4,List.length_nil];omega
 all_goals (repeat' (refine qg ?_))
 replace S:Hs h0 h [.blk b7 (eG x0) 45,.blk b3 pv.cs 28]:=S.pick;(repeat (refine qg ?_));first|refine zL (σ:=List UInt8) (fun s' h'=>Hs h0 h' [.blk b7 (eG x0) 45,.blk b3 pv.cs 28]∧s'=s ++ (wTable ++ [32] ++ zW p.tabs i k ++ [10]) ++ (if x0.diet=[] then [] else wDiet ++ [32] ++ x0.diet ++ [10])) (fun s=>[(1,vq),(2,.int .i64 g),(3,.pointer (some ⟨b3,0,none⟩)),(8,str s)]) ?_ ?_
 ·all_goals (repeat' (first|refine qh rfl ?_|refine qi ?_|(refine qc 8 ?_;refine vl ?_;refine lB S rfl rfl ?_;(refine tS ?_ ?_<;>intro hc)<;>(refine qf ?_))))
  ·exact ⟨s ++ (wTable ++ [32] ++ zW p.tabs i k ++ [10]),⟨S,by rw [if_pos (by assumption),zD7]⟩,(qw)⟩
  ·(repeat (refine qg ?_));refine qc 9 ?_;refine mv ?_;refine vl ?_;refine lB S rfl rfl ?_;refine bsn (α:=List UInt8) (z:=1) eS [wDiet,x0.diet] S ?_;clear S;intro u h S;(skip);(refine qm rfl rfl rfl rfl rfl ((Za S.wf u _ (Rd.jZ S .here) (by simp) (two (by decide) (by omega))).mono ?_);rintro _ h ⟨rfl,x⟩)<;>(replace S:=S.qx x;clear x;refine tc ?_;refine mv ?_;refine qf ?_)
   all_goals (repeat' (fail))
   exact ⟨_,⟨S.tail,by rw [if_neg (by assumption)];(try simp [Zz])⟩,(qw)⟩
 clear S;rintro s' h ⟨S,es'⟩;have hsl':s'.length≤200:=by
  rw [es'];split<;>simp only [zB2,zC4,List.length_nil] at hjt3 ⊢<;>omega
 have hcA:s'=Y6 p q g:=by
  rw [hA,es',es]
 clear es es';(repeat (refine qg ?_));refine qc 10 ?_;refine bsn (α:=List UInt8) (z:=1) eS [wBeside] S ?_;clear S;intro u h S;(refine mv ?_;refine qf ?_);all_goals (repeat' (first|refine qg ?_|refine ql ?_|(refine qc 11 ?_;refine mv ?_;refine qf ?_)))
 replace S:Hs h0 h [.sl u 9 1 eS [wBeside],.blk b7 (eG x0) 45,.blk b3 pv.cs 28]:=S;have hN0:0≤sumT p.tabs p.tabs.length:=(zD _ _).1;obtain ⟨N,hN⟩:=zH3 hN0;have hN384:N≤384:=by omega
 have hNt:(sumT p.tabs p.tabs.length).toNat=N:=by omega
 refine qB (σ:=Nat×Value) (fun (y,vo) h'=>Hs h0 h' [.sl vo 9 1 eS ([wBeside] ++ (Vh (Yw p.tabs q (q.getD g default)) (Ju y)).map (nmS p.us q)),.blk b7 (eG x0) 45,.blk b3 pv.cs 28]∧y≤N) (fun (y,vo)=>N - y) (fun (y,vo)=>[(1,vq),(2,.int .i64 g),(3,.pointer (some ⟨b3,0,none⟩)),(8,str s'),(9,vo),(10,.int .i64 y)]) (0,u) qw ?_ ?_
 ·exact ⟨S,zB0 _⟩
 clear S;rintro ⟨y,vo⟩ h ⟨S,g1⟩;all_goals (repeat' (first|refine qg ?_|(refine qc 12 ?_;refine mv ?_;refine vl ?_;refine lB S rfl rfl ?_)))
 (refine qm rfl rfl rfl rfl rfl ((XN S.wf pv.vt.val p.tabs (hr.ext w S.ext) hl).mono ?_);rintro _ h ⟨rfl,x⟩)<;>(replace S:=S.qx x;clear x;(first|(refine cS ?_ ?_<;>intro hc))<;>(refine qf ?_))
 rw [hN];all_goals (repeat' (first|refine qg ?_|refine qh rfl ?_|refine qi ?_|refine qy ?_|refine ql ?_))
 ·have hy:y<N:=by omega
  have hfl:([wBeside] ++ (Vh (Yw p.tabs q (q.getD g default)) (Ju y)).map (nmS p.us q)).length≤400:=by
   have h1:=KW (P:=Yw p.tabs q (q.getD g default)) (l:=Ju y);rw [XF] at h1;rw [zB2,zC5,zD5];omega
  have hus:=qdd y;all_goals (repeat' (first|(refine qc 14 ?_;refine mv ?_;refine mv ?_)))
  (refine qm rfl rfl rfl rfl rfl ((Kt S.wf vq q (rq.ext w S.ext) (by omega) y).mono ?_);rintro _ h ⟨⟨hh,h1,rfl,h2,h3⟩|⟨rfl,h2⟩,x⟩)<;>(replace S:=S.qx x;clear x;refine mv ?_;refine qf ?_)
  ·have hya:jF q y:=⟨hh,h1,h2⟩
   have hyw:J5 q y=hh:=YD h1 h2 h3;obtain ⟨i2,k2,hw2⟩:=V6 hP.tabs (show 0≤(y:Int) by omega) p.tabs.length (zA3 _) (show (y:Int)<sumT p.tabs p.tabs.length by omega);have hx2:pv.gs.getD (hh:Int).toNat default=pv.gs.getD hh default:=rfl;have hnm:(pv.gs.getD hh default).name=nmS p.us q y:=by
    unfold nmS;rw [hyw,← (hP.gst H (show hh<p.us.length by omega)).1]
   all_goals (repeat' (first|refine qg ?_|(refine qF 15 ?_;refine mv ?_;(refine cT ?_)<;>(refine mv ?_;(first|(refine vl ?_));(first|(refine lB S rfl rfl ?_));refine mv ?_;refine mv ?_;(first|(refine zT S ?_));(first|(refine zQ S ?_));refine mv ?_;(skip)))))
   (refine qm rfl rfl rfl rfl rfl ((pU S.wf pv.vt.val p.tabs (hr.ext w S.ext) hl (q.getD g default) y ⟨hs,hsm⟩ (by omega) i k i2 k2 hw hw2).mono ?_);rintro _ h ⟨⟨rfl,z⟩|⟨rfl,z⟩,x⟩)<;>(replace S:=S.qx x;clear x;refine vl ?_;refine qf ?_)
   all_goals (all_goals (repeat' (first|refine qh rfl ?_|refine qi ?_|(refine qc 16 ?_;refine mv ?_;refine vl ?_;refine lB S rfl rfl ?_;refine mv ?_;refine zT S ?_;refine fB S ?_;refine zQ S ?_;(refine one 1 S ?_;clear S;intro u h S)))))
   ·rw [hx2,hnm] at S;refine app (y0:=(nmS p.us q y)) S rfl rfl ?_;clear S;intro v h S;rw [zF2,← List.map_singleton,← zC9,← WZ (show Yw p.tabs q (q.getD g default) y from ⟨hya,z⟩),← hus] at S;refine mv ?_;refine qf ?_;all_goals (repeat' (first|(refine qc 13 ?_;refine mv ?_;refine ad ?_;refine mv ?_;refine qf ?_)))
    refine ⟨(y+1,v),?_,?_,qw⟩
    ·show N - (y+1)<N - y;omega
    ·exact ⟨S,by (try dsimp only);omega⟩
   ·rw [← XQ (P:=Yw p.tabs q (q.getD g default)) (l:=Ju y) (y:=y) (fun c=>z c.2),← hus] at S;all_goals (repeat' (first|(refine qc 13 ?_;refine mv ?_;refine ad ?_;refine mv ?_;refine qf ?_)))
    refine ⟨(y+1,vo),?_,?_,qw⟩
    ·show N - (y+1)<N - y;omega
    ·exact ⟨S,by (try dsimp only);omega⟩
  ·rw [← XQ (P:=Yw p.tabs q (q.getD g default)) (l:=Ju y) (y:=y) (fun c=>by obtain ⟨⟨a,b,c⟩,-⟩:=c;exact h2 a b c),← hus] at S;all_goals (repeat' (first|refine qg ?_|refine qh rfl ?_|refine qi ?_|(refine qF 15 ?_;refine mv ?_;(refine cF ?_)<;>(refine mv ?_;refine off ?_;refine off ?_;refine off ?_;refine off ?_;refine off ?_;refine off ?_;refine off ?_;(first|(refine off ?_;refine vl ?_;refine qf ?_))))))
   all_goals (repeat' (first|(refine qc 13 ?_;refine mv ?_;refine ad ?_;refine mv ?_;refine qf ?_)))
   refine ⟨(y+1,vo),?_,?_,qw⟩
   ·show N - (y+1)<N - y;omega
   ·exact ⟨S,by (try dsimp only);omega⟩
 ·obtain rfl:y=N:=by omega
  have ebs:Vh (Yw p.tabs q (q.getD g default)) (Ju y)=P9 p.tabs q (q.getD g default):=by unfold P9;rw [hNt]
  rw [ebs] at S;replace S:Hs h0 h [.sl vo 9 1 eS ([wBeside] ++ ZJ p q (q.getD g default)),.blk b7 (eG x0) 45,.blk b3 pv.cs 28]:=S;have hbn:(ZJ p q (q.getD g default)).length≤24:=by unfold ZJ;rw [zC5];exact hbl
  have hw12:∀ u∈ZJ p q (q.getD g default),u.length≤12:=fun u hu=>by
   obtain ⟨y,hy,rfl⟩:=zF1.1 hu;exact qaT hP H hql (XR hy).2.1
  have hcT:jl p q g=s' ++ (if ZJ p q (q.getD g default)=[] then [] else (Zz ([wBeside] ++ ZJ p q (q.getD g default)) ++ [10])):=by
   unfold jl;rw [hcA];split
   ·rfl
   ·rename_i hne
    match hb:ZJ p q (q.getD g default),hne with
    | a :: r,_=>simp [Zz]
  generalize ZJ p q (q.getD g default)=bn at *
  have hw13:∀ u∈[wBeside] ++ bn,u.length≤100:=fun u hu=>by
   rcases zB8.1 hu with hu|hu
   ·rw [zB5.1 hu];decide
   ·have:=hw12 u hu;omega
  have hjn:=PG hw13;have hlen1:([wBeside] ++ bn).length=bn.length+1:=by rw [zB2,zD5];omega
  all_goals (repeat' (first|refine qg ?_|refine qh rfl ?_|refine qi ?_|(refine qc 17 ?_;refine mv ?_;refine Py S rfl rfl ?_;(first|(refine cS ?_ ?_<;>intro hc))<;>(refine qf ?_))))
  ·have hlc:([wBeside] ++ bn).length≤100:=by omega
   all_goals (repeat' (first|(refine qc 18 ?_;refine mv ?_;refine mv ?_)))
   (refine qm rfl rfl rfl rfl rfl ((Za S.wf vo ([wBeside] ++ bn) (Rd.jZ S .here) hlc hw13).mono ?_);rintro _ h ⟨rfl,x⟩)<;>(replace S:=S.qx x;clear x;refine tc ?_;refine mv ?_;refine qf ?_)
   all_goals (repeat' (refine qg ?_))
   all_goals (repeat' (first|(refine qc 19 ?_;refine mv ?_;refine mv ?_;refine qf ?_)))
   refine qj ⟨_,rfl,?_⟩;refine ⟨?_,S.drop⟩;rw [hcT,if_neg (fun z=>absurd (show bn.length=0 by rw [z];rfl) (by omega))];rfl
  ·all_goals (repeat' (first|(refine qc 19 ?_;refine mv ?_;refine mv ?_;refine qf ?_)))
   refine qj ⟨_,rfl,?_⟩;refine ⟨?_,S.drop⟩;rw [hcT,if_pos (List.eq_nil_of_length_eq_zero (by omega)),zD7];rfl
end Go.Proofs.Xx
namespace Go.Proofs.Xx
open Go Go.Proofs
theorem yu {lt:Int→Int→Prop} (asym:∀ x y,lt x y→¬ lt y x):∀ {a b:List Int},a.Pairwise lt→b.Pairwise lt→(∀ x,x∈a↔x∈b)→a=b
 | [],[],_,_,_=>rfl
 | [],y :: b,_,_,h=>by have:=(h y).2 (by simp);cases this
 | x :: a,[],_,_,h=>by have:=(h x).1 (by simp);cases this
 | x :: a,y :: b,h1,h2,h=>by
  rw [zH5] at h1 h2;have e:x=y:=by
   rcases zE8.1 ((h x).1 (by simp)) with q|q
   ·exact q
   ·rcases zE8.1 ((h y).2 (by simp)) with r|r
    ·exact r.symm
    ·exact absurd (h1.1 y r) (asym _ _ (h2.1 x q))
  subst e;have irr:∀ z,lt z z→False:=fun z q=>asym z z q q;rw [yu asym h1.2 h2.2 fun z=>⟨fun hz=>by
   rcases zE8.1 ((h z).1 (List.mem_cons_of_mem _ hz)) with r|r
   ·subst r;exact (irr _ (h1.1 z hz)).elim
   ·exact r,fun hz=>by
   rcases zE8.1 ((h z).2 (List.mem_cons_of_mem _ hz)) with r|r
   ·subst r;exact (irr _ (h2.1 z hz)).elim
   ·exact r⟩]
theorem qaz {l:List Int} {n:Nat} {key:Int→Int} (h1:Sw 0 n (Ju n) l) (h2:Srt (jG n key) 0 n l):l.Pairwise (fun x y=>key x≤key y∧x≠y)∧(∀ x,x∈l↔0≤x∧x<n)∧l.length=n:=by
 have hm:∀ x,x∈l↔0≤x∧x<n:=fun x=>by
  rw [h1.perm.mem_iff];refine ⟨Yh,fun ⟨a,b⟩=>zF1.2 ⟨x.toNat,zE3.2 (by omega),?_⟩⟩;show ((x.toNat:Nat):Int)=x;omega
 have hln:l.length=n:=by rw [h1.len,XF]
 have hnd:l.Nodup:=h1.perm.nodup_iff.2 (by
  unfold Ju;rw [List.nodup_iff_pairwise_ne,List.pairwise_map];refine (List.nodup_iff_pairwise_ne.1 List.nodup_range).imp fun {a b} z e=>z ?_;exact Int.ofNat.inj e)
 refine ⟨?_,hm,hln⟩;rw [zD2];intro i j hi hj hij;have e1:l.getD i default=l[i]:=by rw [zA2,zA4 hi];rfl
 have e2:l.getD j default=l[j]:=by rw [zA2,zA4 hj];rfl
 have m1:=(hm _).1 (List.getElem_mem hi);have m2:=(hm _).1 (List.getElem_mem hj);have:=h2 i j (zB0 _) hij (by omega);unfold jG at this;rw [e1,e2,qa4 m1,qa4 m2] at this;refine ⟨by omega,fun q=>?_⟩;have:=(List.nodup_iff_pairwise_ne.1 hnd)
 rw [zD2] at this;exact this i j hi hj hij q
noncomputable def crd (p:Pb) (q:List Int) (L:List Int):List UInt8:=by classical exact L.flatMap fun x=>if 0≤q.getD x.toNat default then jl p q x.toNat ++ [45,10] else []
noncomputable def jV (p:Pb) (q:List Int):List UInt8:=(Vh (jF q) (Ju (sumT p.tabs p.tabs.length).toNat)).flatMap fun y=>jl p q (J5 q y) ++ [45,10]
theorem YC {q:List Int} {y:Int} (h:jF q y):J5 q y<q.length∧q.getD (J5 q y) default=y:=by
 obtain ⟨i,hi,e⟩:=h;have hw:J5 q y<q.length:=by
  unfold J5;rw [List.findIdx_lt_length];exact ⟨y,by rw [← e];exact qK hi,by simp⟩
 refine ⟨hw,?_⟩;have:=List.findIdx_getElem (xs:=q) (p:=fun x=>decide (x=y)) (w:=hw);rw [zA2,zA4 hw];exact of_decide_eq_true this
theorem qg5 {p:Pb} {q l:List Int} (hQ:PartOk p q) (h1:Sw 0 p.us.length (Ju p.us.length) l) (h2:Srt (jG p.us.length (fun x=>q.getD x.toNat default)) 0 p.us.length l):crd p q l=jV p q:=by
 obtain ⟨k1,k2,k3⟩:=qaz h1 h2;have hql:=hQ.len;have e1:crd p q l=(l.filter fun x=>decide (0≤q.getD x.toNat default)).flatMap fun x=>jl p q x.toNat ++ [45,10]:=by
  unfold crd;clear k1 k2 k3 h1 h2;induction l with
  | nil=>rfl
  | cons x l ih =>
   rw [zG2,zD8,ih];by_cases z:0≤q.getD x.toNat default
   ·rw [if_pos z,if_pos (by simpa using z),zG2]
   ·rw [if_neg z,if_neg (by simpa using z),zC0]
 have e2:jV p q=((Vh (jF q) (Ju (sumT p.tabs p.tabs.length).toNat)).map fun y=>((J5 q y:Nat):Int)).flatMap fun x=>jl p q x.toNat ++ [45,10]:=by
  unfold jV;rw [List.flatMap_map];rfl
 rw [e1,e2];congr 1
 refine yu (lt:=fun x y=>q.getD x.toNat default<q.getD y.toNat default) (fun x y a b=>by omega) ?_ ?_ fun x=>?_
 ·refine (k1.filter _).imp_of_mem fun {a b} ha hb z=>?_;obtain ⟨ha1,ha2⟩:=zE0.1 ha;obtain ⟨hb1,hb2⟩:=zE0.1 hb;have ha2:=of_decide_eq_true ha2;have hb2:=of_decide_eq_true hb2;have a1:=(k2 a).1 ha1;have b1:=(k2 b).1 hb1;have hne:q.getD a.toNat default≠q.getD b.toNat default:=fun e=>by
   rcases zE7 a.toNat b.toNat with r|r|r
   ·exact hQ.nd _ _ r (by omega) ha2 e
   ·exact z.2 (by omega)
   ·exact hQ.nd _ _ r (by omega) hb2 e.symm
  have:=z.1;omega
 ·rw [List.pairwise_map];have hu:(Ju (sumT p.tabs p.tabs.length).toNat).Pairwise (· < ·):=by
   unfold Ju;rw [List.pairwise_map];exact List.pairwise_lt_range.imp fun {a b} z=>by show (a:Int)<b;omega
  refine (show (Vh (jF q) (Ju (sumT p.tabs p.tabs.length).toNat)).Pairwise (· < ·) from hu.filter _).imp_of_mem fun {a b} ha hb z=>?_;have e3:=(YC (XR ha).2).2;have e4:=(YC (XR hb).2).2;rw [zA0,zA0,e3,e4];exact z
 ·constructor
  ·intro hx;obtain ⟨hx1,hx2⟩:=zE0.1 hx;have hx2:=of_decide_eq_true hx2;have x1:=(k2 x).1 hx1;have hr:=hQ.rng _ (qK (show x.toNat<q.length by omega));have hsa:jF q (q.getD x.toNat default):=⟨x.toNat,by omega,rfl⟩
   refine zF1.2 ⟨q.getD x.toNat default,?_,?_⟩
   ·unfold Vh;refine zE0.2 ⟨zF1.2 ⟨(q.getD x.toNat default).toNat,zE3.2 (by omega),?_⟩,by simpa using hsa⟩;show (((q.getD x.toNat default).toNat:Nat):Int)=_;omega
   ·have hw:=YD (q:=q) (y:=q.getD x.toNat default) (show x.toNat<q.length by omega) rfl fun j hj e=>hQ.nd j _ hj (by omega) (by rw [e];exact hx2) e;rw [hw];omega
  ·intro hx;obtain ⟨y,hy,rfl⟩:=zF1.1 hx;have hm:=XR hy;obtain ⟨w1,w2⟩:=YC hm.2;refine zE0.2 ⟨(k2 _).2 ⟨by omega,by omega⟩,?_⟩;rw [zA0,w2];simpa using (Yh hm.1).1
theorem XV {p:Pb} (hP:PO p) {q:List Int} (hQ:PartOk p q) {pv:PbV} {h:AH} (H:PbOk h pv p) {g:Nat} (hg:g<q.length) (hs:0≤q.getD g default):(jl p q g).length≤600∧0<(jl p q g).length:=by
 have hql:=hQ.len;have hrg:=hQ.rng _ (qK hg);obtain ⟨i,k,hw⟩:=V6 hP.tabs hs p.tabs.length (zA3 _) hrg.2;obtain ⟨-,e2,e3,e4⟩:=hP.gst H (show g<p.us.length by omega);have e2l:=e2.2.1;obtain ⟨s1,s2⟩:=XJ hw;have hkb:=hw.szb;have hdg:=Zj 8 k (by omega);have hnt:(tb p.tabs i).name.length≤12:=(hw.1.nm hw.2.1).2.1;have hbl:=yO (q:=q) hw;have hg5:wGuest.length=5∧wRank.length=4∧wDiet.length=4∧wTable.length=5∧wBeside.length=6:=⟨rfl,rfl,rfl,rfl,rfl⟩
 obtain ⟨w1,w2,w3,w4,w5⟩:=hg5;have hw12:∀ u∈ZJ p q (q.getD g default),u.length≤12:=fun u hu=>by
  obtain ⟨y,hy,rfl⟩:=zF1.1 hu;exact qaT hP H hql (XR hy).2.1
 have hjn:=PG hw12;have hbn:(ZJ p q (q.getD g default)).length≤24:=by unfold ZJ;rw [zC5];exact hbl
 unfold jl Y6;rw [s1,s2];have hpl:(zW p.tabs i k).length≤30:=by unfold zW;simp only [zB2,zC4,List.length_nil];omega
 simp only [zB2,zC4,List.length_nil];constructor
 ·have a1:(if (p.us.getD g default).rank=[] then [] else wRank ++ [32] ++ (p.us.getD g default).rank ++ [10]).length≤30:=by split<;>simp only [zB2,zC4,List.length_nil]<;>omega
  have a2:(if (p.us.getD g default).diet=[] then [] else wDiet ++ [32] ++ (p.us.getD g default).diet ++ [10]).length≤30:=by split<;>simp only [zB2,zC4,List.length_nil]<;>omega
  have a3:(if ZJ p q (q.getD g default)=[] then [] else wBeside ++ [32] ++ Zz (ZJ p q (q.getD g default)) ++ [10]).length≤400:=by split<;>simp only [zB2,zC4,List.length_nil]<;>omega
  omega
 ·omega
theorem qbL {p:Pb} (hP:PO p) {q:List Int} (hQ:PartOk p q) {pv:PbV} {h:AH} (H:PbOk h pv p):∀ (L:List Int),(∀ x∈L,0≤x∧x<q.length)→(crd p q L).length≤602*L.length
 | [],_=>zB0 _
 | x :: L,hL=>by
  have ih:=qbL hP hQ H L fun y hy=>hL y (List.mem_cons_of_mem _ hy);have hx:=hL x (by simp);have e:crd p q (x :: L)=(if 0≤q.getD x.toNat default then jl p q x.toNat ++ [45,10] else []) ++ crd p q L:=rfl;rw [e,zB2,zC4];split
  ·rename_i z
   have:=(XV hP hQ H (show x.toNat<q.length by omega) z).1;rw [zB2];simp only [zC4,List.length_nil];omega
  ·simp only [List.length_nil];omega
theorem qem {p:Pb} {q L:List Int} {x:Int}:crd p q (L ++ [x])=crd p q L ++ (if 0≤q.getD x.toNat default then jl p q x.toNat ++ [45,10] else []):=by unfold crd;rw [List.flatMap_append];simp
variable [Flag]
theorem qcg {h0:AH} (w:WfH h0) (hf:Flag.b=true) (pv:PbV) (p:Pb) (H:PbOk h0 pv p) (vq:Value) (q:List Int) (rq:zl h0 vq 1 eI q) (hq:q.length≤1000000) (g:Int) :
 Fn Tryz.prog Xh 13 [pv.val,vq,.int .i64 g] h0 (fun u h'=>∃ t,u=str t∧(PO p→PartOk p q→0≤g→g<q.length→0≤q.getD g.toNat default→t=jl p q g.toNat)∧(¬ (PO p∧PartOk p q∧0≤g∧g<q.length∧0≤q.getD g.toNat default)→t=[])∧Hs h0 h' []):=by
 have S:=Hs.start w;unfold PbV.val;refine qA (by first|rfl) Tryz.func13 rfl rfl ?_;all_goals (repeat' (first|refine qg ?_|(refine qc 0 ?_;(refine bx S ?_;clear S;intro b h S);refine mv ?_;refine qf ?_)))
 obtain ⟨b3,hnm⟩:∃ x,x=b:=⟨_,rfl⟩;subst hnm;all_goals (repeat' (first|refine qg ?_|refine qh rfl ?_|(refine qc 1 ?_;refine mv ?_;(first|(refine cS ?_ ?_<;>intro hc))<;>(refine mv ?_;(first|refine off ?_|refine mv ?_);(first|refine off ?_|refine mv ?_);(first|refine off ?_|(refine jc S ?_));(first|refine off ?_|(first|(refine cS ?_ ?_<;>intro hc)))<;>(refine vl ?_;refine mv ?_;(first|refine off ?_|(refine lB S rfl rfl ?_));(first|refine off ?_|refine mv ?_);(first|(refine off ?_;refine off ?_;refine vl ?_;refine mv ?_;refine off ?_;refine off ?_;refine off ?_;refine off ?_;(refine off ?_)<;>(refine vl ?_;refine qf ?_))|skip))))))
 all_goals (try ((refine qm rfl rfl rfl rfl rfl ((XH S.wf pv p (H.ext w S.ext) vq q (rq.ext w S.ext) (by omega)).mono ?_);rintro _ h ⟨⟨rfl,z⟩|⟨rfl,z⟩,x⟩)<;>(replace S:=S.qx x;clear x;refine vl ?_;refine vl ?_;refine mv ?_;(first|refine off ?_|refine mv ?_);(first|refine off ?_|refine mv ?_);(first|refine off ?_|(refine zT S ?_));(first|refine off ?_|(refine zQ S ?_));(first|refine off ?_|(first|(refine cS ?_ ?_<;>intro hc)))<;>(refine vl ?_;refine qf ?_))))
 all_goals (all_goals (repeat' (first|refine qg ?_|refine qh rfl ?_|refine qi ?_|(refine qc 2 ?_;refine mv ?_;refine qf ?_))))
 all_goals first
  | (refine qj ⟨_,rfl,?_⟩;exact ⟨[],rfl,fun _ _ _ _ _=>by omega,fun _=>rfl,S.drop⟩)
  | (refine qj ⟨_,rfl,?_⟩;exact ⟨[],rfl,fun a b _ _ _=>absurd ⟨a,b⟩ z,fun _=>rfl,S.drop⟩)
  | skip
 obtain ⟨n,rfl⟩:=zH3 (show 0≤g by omega);simp only [zA0] at *;all_goals (repeat' (first|(refine qc 3 ?_;refine lB S rfl rfl ?_;refine mv ?_;refine mv ?_)))
 (refine qm rfl rfl rfl rfl rfl ((pg S.wf hf pv p (H.ext w S.ext) z.1 vq q (rq.ext w S.ext) z.2 n (by omega) (by omega)).mono ?_);rintro _ h ⟨rfl,x⟩)<;>(replace S:=S.qx x;clear x;refine mv ?_;refine qf ?_)
 all_goals (repeat' (fail))
 refine qj ⟨_,rfl,?_⟩;exact ⟨_,rfl,fun _ _ _ _ _=>rfl,fun c=>absurd ⟨z.1,z.2,by omega,by omega,by omega⟩ c,S.drop⟩
end Go.Proofs.Xx
namespace Go.Proofs.Xx
open Go Go.Proofs
variable [Flag]
theorem qcf {h0:AH} (w:WfH h0) (hf:Flag.b=true) (pv:PbV) (p:Pb) (H:PbOk h0 pv p) (sq:SlV) (q:List Int) (rq:zl h0 sq.val 1 eI q) (hq:q.length≤1000000) :
 Fn Tryz.prog Xh 21 [pv.val,sq.val] h0 (fun u h'=>∃ t,u=str t∧(PO p→PartOk p q→t=jV p q)∧(¬ (PO p∧PartOk p q)→t=[])∧Hs h0 h' []):=by
 have S:=Hs.start w;unfold PbV.val;refine qA (by first|rfl) Tryz.func21 rfl rfl ?_;all_goals (repeat' (first|refine qg ?_|(refine qc 0 ?_;(refine bx S ?_;clear S;intro b h S);(refine bx S ?_;clear S;intro b h S);refine mv ?_;refine qf ?_)))
 obtain ⟨b2,hnm⟩:∃ x,x=b:=⟨_,rfl⟩;subst hnm;obtain ⟨b3,hnm⟩:∃ x,x=b:=⟨_,rfl⟩;subst hnm;all_goals (repeat' (first|(refine qc 1 ?_;refine lB S rfl rfl ?_;refine lB S rfl rfl ?_)))
 (refine qm rfl rfl rfl rfl rfl ((XH S.wf pv p (H.ext w S.ext) sq.val q (rq.ext w S.ext) (by omega)).mono ?_);rintro _ h ⟨⟨rfl,z⟩|⟨rfl,z⟩,x⟩)<;>(replace S:=S.qx x;clear x;refine vl ?_;refine qf ?_)
 all_goals (all_goals (repeat' (first|refine qg ?_|refine qh rfl ?_|refine qi ?_|(refine qc 2 ?_;refine mv ?_;refine qf ?_))))
 rotate_left
 ·refine qj ⟨_,rfl,?_⟩;exact ⟨[],rfl,fun a b=>absurd ⟨a,b⟩ z,fun _=>rfl,S.drop⟩
 obtain ⟨hP,hQ⟩:=z;have hql:=hQ.len;have h64:p.us.length≤64:=hP.rl.l64;all_goals (repeat' (first|refine qg ?_|(refine qc 3 ?_;(refine al S ?_;clear S;intro b h S);refine qf ?_)))
 obtain ⟨b5,hnm⟩:∃ x,x=b:=⟨_,rfl⟩;subst hnm;replace S:Hs h0 h [bst b5 (.pointer none) (.slice none 0 0),.blk b2 [sq.val] 25,.blk b3 pv.cs 28]:=S;have S:Hs h0 h [wo (.slice none 0 0) [],bst b5 (.pointer none) (.slice none 0 0),.blk b2 [sq.val] 25,.blk b3 pv.cs 28]:=S.ZF;have S:=(show Hs h0 h [bst b5 (.pointer none) (.slice none 0 0),wo (.slice none 0 0) [],.blk b2 [sq.val] 25,.blk b3 pv.cs 28] from S.pick)
 have hsort:Fn Tryz.prog Xh 67 [pv.val,Zk 72 [.pointer (some ⟨b2,0,none⟩)]] h (fun u h'=>∃ l:List Int,Sw 0 p.us.length (Ju p.us.length) l∧Srt (jG p.us.length (fun x=>q.getD x.toNat default)) 0 p.us.length l∧Hs h h' [.sl u 3 1 eI l]):=by
  have gb:h.get b2=some (.cells [sq.val] 25 none false):=Hs.gB (b:=b2) S;rcases zF4 p.us.length with hn|hn
  ·refine (xA S.wf pv p (H.ext w S.ext) hn).mono fun u h' x=>⟨[],?_,?_,x⟩
   ·rw [hn];exact .refl _
   ·intro i j _ _ hj;omega
  ·have C:=qa7 gb (rq.ext w S.ext) S.wf hql hn (fun i hi=>by
    have:=hQ.rng _ (qK hi);have h1:=zD p.tabs p.tabs.length;have:=hP.tabs.1;omega) (by omega)
   exact wJ S.wf pv p (H.ext w S.ext) h64 (C:=C)
 all_goals (repeat' (first|(refine qc 4 ?_;refine lB S rfl rfl ?_;refine vl ?_)))
 (refine qm rfl rfl rfl rfl rfl ((hsort).mono ?_);rintro vl_ h ⟨l,k1,k2,x⟩)<;>(replace S:=S.QD x;clear x;refine Py S rfl rfl ?_;refine mv ?_;refine qf ?_)
 obtain ⟨m1,m2,m3⟩:=qaz k1 k2;have hcl:∀ i,(crd p q (l.take i)).length≤602*64:=fun i=>by
  have:=qbL hP hQ (H) (l.take i) fun x hx=>by
   have:=(m2 x).1 (List.mem_of_mem_take hx);omega
  have h2:(l.take i).length≤64:=by rw [zA9];omega
  omega
 replace S:Hs h0 h [.sl vl_ 3 1 eI l,bst b5 (.pointer none) (.slice none 0 0),wo (.slice none 0 0) [],.blk b2 [sq.val] 25,.blk b3 pv.cs 28]:=S;have S:=(show Hs h0 h [bst b5 (.pointer none) (.slice none 0 0),wo (.slice none 0 0) [],.sl vl_ 3 1 eI l,.blk b2 [sq.val] 25,.blk b3 pv.cs 28] from S.pick)
 all_goals (repeat' (refine ql ?_))
 refine qB (σ:=Nat×Value×Value) (fun (i,qv,v) h'=>Hs h0 h' [bst b5 qv v,wo v (crd p q (l.take i)),.sl vl_ 3 1 eI l,.blk b2 [sq.val] 25,.blk b3 pv.cs 28]∧QP b5 qv∧i≤l.length∧(crd p q (l.take i)=[]→v = .slice none 0 0)) (fun (i,qv,v)=>l.length - i) (fun (i,qv,v)=>[(2,.pointer (some ⟨b3,0,none⟩)),(3,.pointer (some ⟨b2,0,none⟩)),(5,.pointer (some ⟨b5,0,none⟩)),(14,vl_),(15,.int .i64 l.length),(16,.int .i64 i)]) (0,.pointer none,.slice none 0 0) qw ?_ ?_
 ·exact ⟨S,.inl rfl,zB0 _,fun _=>rfl⟩
 clear S;rintro ⟨i,qv,v⟩ h ⟨S,g1,g2,g3⟩;have hL:=hcl i;all_goals (repeat' (first|refine qg ?_|refine qh rfl ?_|refine qi ?_|refine qy ?_|refine ql ?_|(refine qc 5 ?_;(first|(refine cS ?_ ?_<;>intro hc))<;>(refine qf ?_))))
 ·have hi:i<l.length:=by omega
  have hx0:l.getD (i:Int).toNat default=l.getD i default:=rfl;have htk:=qY hi;have hmx:=(m2 _).1 (qK hi);all_goals (repeat' (first|refine qg ?_|(refine qc 6 ?_;refine qR S rfl rfl ?_;refine zu S rfl rfl ?_;refine mv ?_;refine qf ?_)))
  rw [hx0];generalize hxx:l.getD i default=y at *
  obtain ⟨g,rfl⟩:=zH3 hmx.1;have hsn:=qem (p:=p) (q:=q) (L:=l.take i) (x:=(g:Int));have hxq:q.getD (g:Int).toNat default=q.getD g default:=rfl;rw [← htk,hxq] at hsn;all_goals (repeat' (first|refine qh rfl ?_|refine qi ?_|(refine qc 7 ?_;refine lB S rfl rfl ?_;refine mv ?_;refine zT S ?_;refine zQ S ?_;(first|(refine cS ?_ ?_<;>intro hc))<;>(refine qf ?_))))
  ·rw [hxq] at *;have hz:0≤q.getD g default:=by assumption
   have hcL:=XV hP hQ H (show g<q.length by omega) hz;rw [if_pos hz] at hsn;all_goals (repeat' (first|(refine qc 8 ?_;refine lB S rfl rfl ?_;refine lB S rfl rfl ?_;refine mv ?_)))
   (refine qm rfl rfl rfl rfl rfl ((pg S.wf hf pv p (H.ext w S.ext) hP sq.val q (rq.ext w S.ext) hQ g (by omega) hz).mono ?_);rintro _ h ⟨rfl,x⟩)<;>(replace S:=S.qx x;clear x;refine tc ?_)
   have hbw:(crd p q (l.take i)).length+(jl p q g ++ [45,10]).length≤1000000:=by
    simp only [zB2,zC4,List.length_nil];omega
   all_goals (repeat' (fail))
   (refine qm rfl rfl rfl rfl rfl ((jH (jl p q g ++ [45,10]) S g1 hbw).mono ?_);rintro _ h ⟨v2,S2⟩)<;>(replace S:=S2;clear S2;refine qf ?_)
   rw [show jl p q g ++ [45,10]=jl p q (g:Int).toNat ++ [45,10] from rfl,← hsn] at S;all_goals (repeat' (first|(refine qc 9 ?_;refine ad ?_;refine mv ?_;refine qf ?_)))
   refine ⟨(i+1,.pointer (some ⟨b5,0,none⟩),v2),?_,?_,qw⟩
   ·show l.length - (i+1)<l.length - i;omega
   ·exact ⟨S,.inr rfl,by (try dsimp only);omega,fun c=>by have:=congrArg List.length (hsn.symm.trans c);simp only [zB2,zC4,List.length_nil] at this;omega⟩
  ·rw [hxq] at *;rw [if_neg (by assumption),zD7] at hsn;rw [← hsn] at S;all_goals (repeat' (first|(refine qc 9 ?_;refine ad ?_;refine mv ?_;refine qf ?_)))
   refine ⟨(i+1,qv,v),?_,?_,qw⟩
   ·show l.length - (i+1)<l.length - i;omega
   ·exact ⟨S,g1,by (try dsimp only);omega,fun c=>g3 (hsn.symm.trans c)⟩
 ·obtain rfl:i=l.length:=by omega
  rw [zD4] at S hL g3;rw [qg5 hQ k1 k2] at S hL g3;all_goals (repeat' (first|(refine qc 10 ?_;skip)))
  rcases zF4 (jV p q).length with hz|hz
  ·have hz:=List.eq_nil_of_length_eq_zero hz;have:=g3 hz;subst this;have S:=(show Hs h0 h [bst b5 qv (.slice none 0 0),.sl vl_ 3 1 eI l,.blk b2 [sq.val] 25,.blk b3 pv.cs 28] from S.pick)
   (refine qm rfl rfl rfl rfl rfl ((P5 S).mono ?_);rintro _ h ⟨rfl,S2⟩)<;>(replace S:=S2;clear S2;refine mv ?_;refine qf ?_)
   all_goals (repeat' (fail))
   refine qj ⟨_,rfl,?_⟩;exact ⟨[],rfl,fun _ _=>hz.symm,fun q=>absurd ⟨hP,hQ⟩ q,S.drop⟩
  ·(refine qm rfl rfl rfl rfl rfl ((xe S ⟨hz,by omega⟩).mono ?_);rintro _ h ⟨rfl,S2⟩)<;>(replace S:=S2;clear S2;refine mv ?_;refine qf ?_)
   all_goals (repeat' (fail))
   refine qj ⟨_,rfl,?_⟩;exact ⟨_,rfl,fun _ _=>rfl,fun q=>absurd ⟨hP,hQ⟩ q,S.drop⟩
theorem qcq {h0:AH} (w:WfH h0) (pv:PbV) (p:Pb) (H:PbOk h0 pv p) (hP:PO p) (vq:Value) (q:List Int) (rq:zl h0 vq 1 eI q) (hQ:PartOk p q) :
 Fn Tryz.prog Xh 49 [pv.val,vq] h0 (fun u h'=>u=str (jV p q)∧Hs h0 h' []):=by
 have S:=Hs.start w;have hql:=hQ.len;have h64:p.us.length≤64:=hP.rl.l64;have hr:=H.tab.rd;have hl:=H.tab.len;have hsum:=zD p.tabs p.tabs.length;have ht16:=hP.tabs.1;obtain ⟨N,hN⟩:=zH3 hsum.1;have hN384:N≤384:=by omega
 have hNt:(sumT p.tabs p.tabs.length).toNat=N:=by omega
 unfold PbV.val;refine qA (by first|rfl) Tryz.func49 rfl rfl ?_;all_goals (repeat' (first|refine qg ?_|(refine qc 0 ?_;(refine bx S ?_;clear S;intro b h S);refine mv ?_;refine qf ?_)))
 obtain ⟨b2,hnm⟩:∃ x,x=b:=⟨_,rfl⟩;subst hnm;all_goals (repeat' (first|refine qg ?_|refine ql ?_|(refine qc 1 ?_;refine mv ?_;refine qf ?_)|(refine qc 2 ?_;refine mv ?_;refine qf ?_)))
 let tx:Nat→List UInt8:=fun y=>(Vh (jF q) (Ju y)).flatMap fun y=>jl p q (J5 q y) ++ [45,10]
 have txs:∀ (y:Nat),tx (y+1)=tx y ++ (Vh (jF q) [(y:Int)]).flatMap fun y=>jl p q (J5 q y) ++ [45,10]:=fun y=>by
  show (Vh (jF q) (Ju (y+1))).flatMap _=_
  rw [qdd];show ((Ju y ++ [(y:Int)]).filter _).flatMap _=_
  rw [zD1,List.flatMap_append];rfl
 have txl:∀ y,(tx y).length≤602*y:=fun y=>by
  induction y with
  | zero=>exact zB0 _
  | succ y ih =>
   rw [txs,zB2];by_cases hy:jF q (y:Int)
   ·have e:Vh (jF q) [(y:Int)]=[(y:Int)]:=by have:=WZ (l:=[]) hy;simpa [W9] using this
    rw [e];obtain ⟨w1,w2⟩:=YC hy;have:=(XV hP hQ H w1 (by rw [w2];omega)).1;simp only [zG2,List.flatMap_nil,zB2,zC4,List.length_nil];omega
   ·have e:Vh (jF q) [(y:Int)]=[]:=by have:=XQ (l:=[]) hy;simpa [W9] using this
    rw [e];simp only [List.flatMap_nil,List.length_nil];omega
 refine qB (σ:=Nat) (fun y h'=>Hs h0 h' [.blk b2 pv.cs 28]∧y≤N) (fun y=>N - y) (fun y=>[(1,vq),(2,.pointer (some ⟨b2,0,none⟩)),(5,str (tx y)),(6,.int .i64 y)]) 0 qw ?_ ?_
 ·exact ⟨S,zB0 _⟩
 clear S;rintro y h ⟨S,g1⟩;have hL:=txl y;all_goals (repeat' (first|refine qg ?_|(refine qc 3 ?_;refine mv ?_;refine vl ?_;refine lB S rfl rfl ?_)))
 (refine qm rfl rfl rfl rfl rfl ((XN S.wf pv.vt.val p.tabs (hr.ext w S.ext) hl).mono ?_);rintro _ h ⟨rfl,x⟩)<;>(replace S:=S.qx x;clear x;(first|(refine cS ?_ ?_<;>intro hc))<;>(refine qf ?_))
 rw [hN];all_goals (repeat' (first|refine qg ?_|refine qh rfl ?_|refine qi ?_|refine qy ?_|refine ql ?_))
 ·have hs:=txs y;all_goals (repeat' (first|(refine qc 5 ?_;refine mv ?_;refine mv ?_)))
  (refine qm rfl rfl rfl rfl rfl ((Kt S.wf vq q (rq.ext w S.ext) (by omega) y).mono ?_);rintro _ h ⟨⟨hh,h1,rfl,h2,h3⟩|⟨rfl,h2⟩,x⟩)<;>(replace S:=S.qx x;clear x;refine mv ?_;refine qf ?_)
  ·have hy:jF q (y:Int):=⟨hh,h1,h2⟩
   have hyw:J5 q y=hh:=YD h1 h2 h3;have e:Vh (jF q) [(y:Int)]=[(y:Int)]:=by have:=WZ (l:=[]) hy;simpa [W9] using this
   rw [e,zG2,List.flatMap_nil,zD7,hyw] at hs;have hcl:=(XV hP hQ H h1 (by rw [h2];omega)).1;all_goals (repeat' (first|refine qg ?_|refine qh rfl ?_|(refine qc 6 ?_;refine mv ?_;(refine cT ?_)<;>(refine qf ?_))|(refine qc 7 ?_;refine mv ?_;refine lB S rfl rfl ?_;refine mv ?_;refine mv ?_)))
   (refine qm rfl rfl rfl rfl rfl ((pR S.wf pv p (H.ext w S.ext) hP vq q (rq.ext w S.ext) hQ hh h1).mono ?_);rintro _ h ⟨rfl,x⟩)<;>(replace S:=S.qx x;clear x;refine tc ?_;refine tc ?_;refine mv ?_;refine qf ?_)
   rw [if_neg (show ¬ q.getD hh default<0 by rw [h2];omega)];all_goals (repeat' (first|(refine qc 4 ?_;refine mv ?_;refine ad ?_;refine mv ?_;refine qf ?_)))
   rw [zF2,← hs];refine ⟨y+1,?_,?_,qw⟩
   ·show N - (y+1)<N - y;omega
   ·exact ⟨S,by (try dsimp only);omega⟩
  ·have hy:¬ jF q (y:Int):=fun ⟨a,b,c⟩=>h2 a b c;have e:Vh (jF q) [(y:Int)]=[]:=by have:=XQ (l:=[]) hy;simpa [W9] using this
   rw [e,List.flatMap_nil,zD7] at hs;all_goals (repeat' (first|refine qg ?_|refine qh rfl ?_|refine qi ?_|(refine qc 4 ?_;refine mv ?_;refine ad ?_;refine mv ?_;refine qf ?_)|(refine qc 6 ?_;refine mv ?_;(refine cF ?_)<;>(refine qf ?_))))
   rw [← hs];refine ⟨y+1,?_,?_,qw⟩
   ·show N - (y+1)<N - y;omega
   ·exact ⟨S,by (try dsimp only);omega⟩
 ·obtain rfl:y=N:=by omega
  have e:tx y=jV p q:=by unfold jV;rw [hNt]
  rw [e];all_goals (repeat' (first|(refine qc 8 ?_;refine mv ?_;refine mv ?_;refine qf ?_)))
  refine qj ⟨_,rfl,?_⟩;exact ⟨rfl,S.drop⟩
end Go.Proofs.Xx
namespace Go.Proofs.Xx
open Go Go.Proofs
def QK (p:Pb) (x:Int):List UInt8:=(p.us.getD x.toNat default).name
noncomputable def zh (p:Pb) (q:List Int) (x:Int):List UInt8:=by classical exact QK p x ++ [32] ++ (if q.getD x.toNat default<0 then [45] else zW p.tabs (YQ p.tabs (q.getD x.toNat default)) (xC p.tabs (q.getD x.toNat default))) ++ [10]
def NmO (p:Pb) (l:List Int):Prop:=l.Pairwise (fun x y=>jv (QK p x) (QK p y))∧∀ x,x∈l↔0≤x∧x<p.us.length
theorem NmO.uniq {p:Pb} {a b:List Int} (h:NmO p a) (g:NmO p b):a=b:=yu (lt:=fun x y=>jv (QK p x) (QK p y)) (fun x y h1 h2=>zG _ (Qj h1 h2)) h.1 g.1 fun x=>(h.2 x).trans (g.2 x).symm
theorem qf3 {p:Pb} (hP:PO p) {x y:Int} (hx:0≤x∧x<p.us.length) (hy:0≤y∧y<p.us.length) (h:x≠y):QK p x≠QK p y:=fun e=>by
 rcases zE7 x.toNat y.toNat with r|r|r
 ·exact hP.rl.nd _ _ r (show y.toNat<p.us.length by omega) e
 ·omega
 ·exact hP.rl.nd _ _ r (show x.toNat<p.us.length by omega) e.symm
theorem qgF {p:Pb} (hP:PO p) {l:List Int} {f:Nat→List UInt8} (hf:∀ j,j<p.us.length→f j=QK p j) (h1:Sw 0 p.us.length (Ju p.us.length) l) (h2:Srt (jG p.us.length (xO f p.us.length)) 0 p.us.length l):NmO p l:=by
 obtain ⟨k1,k2,k3⟩:=qaz h1 h2;refine ⟨k1.imp_of_mem fun {a b} ha hb z=>?_,k2⟩;have a1:=(k2 a).1 ha;have b1:=(k2 b).1 hb;have e1:=hf a.toNat (by omega);have e2:=hf b.toNat (by omega);rw [show ((a.toNat:Nat):Int)=a by omega] at e1;rw [show ((b.toNat:Nat):Int)=b by omega] at e2;have hn:¬ jv (QK p b) (QK p a):=fun c=>by
  rw [← e1,← e2,← pV b1 a1] at c;have:=z.1;omega
 rcases ZQ (QK p a) (QK p b) with r|r|r
 ·exact r
 ·exact absurd r (qf3 hP a1 b1 z.2)
 ·exact absurd r hn
theorem NmO.len {p:Pb} {l:List Int} (h:NmO p l):l.length=p.us.length:=by
 have hp:l.Perm (Ju p.us.length):=by
  refine (List.perm_ext_iff_of_nodup ?_ ?_).2 fun x=>(h.2 x).trans ⟨fun ⟨a,b⟩=>zF1.2 ⟨x.toNat,zE3.2 (by omega),by show ((x.toNat:Nat):Int)=x;omega⟩,Yh⟩
  ·exact List.nodup_iff_pairwise_ne.2 (h.1.imp fun {a b} z e=>by rw [e] at z;exact zG _ z)
  ·unfold Ju;rw [List.nodup_iff_pairwise_ne,List.pairwise_map];exact (List.nodup_iff_pairwise_ne.1 List.nodup_range).imp fun {a b} z e=>z (Int.ofNat.inj e)
 rw [hp.length_eq,XF]
theorem Yp {p:Pb} (hP:PO p) {q:List Int} (hQ:PartOk p q) {pv:PbV} {h:AH} (H:PbOk h pv p) {x:Int} (hx:0≤x∧x<p.us.length):(zh p q x).length≤60:=by
 have hql:=hQ.len;have e2:=(hP.gst H (show x.toNat<p.us.length by omega)).2.1.2.1;have e3:(QK p x).length≤12:=e2;unfold zh;split
 ·simp only [zB2,zC4,List.length_nil];omega
 ·rename_i hs
  have hrg:=hQ.rng _ (qK (show x.toNat<q.length by omega));obtain ⟨i,k,hw⟩:=V6 hP.tabs (show 0≤q.getD x.toNat default by omega) p.tabs.length (zA3 _) hrg.2;obtain ⟨s1,s2⟩:=XJ hw;have hkb:=hw.szb;have hdg:=Zj 8 k (by omega);have hnt:(tb p.tabs i).name.length≤12:=(hw.1.nm hw.2.1).2.1;rw [s1,s2];unfold zW;simp only [zB2,zC4,List.length_nil];omega
theorem KE {p:Pb} (hP:PO p) {q:List Int} (hQ:PartOk p q) {pv:PbV} {h:AH} (H:PbOk h pv p):∀ (L:List Int),(∀ x∈L,0≤x∧x<p.us.length)→(L.flatMap (zh p q)).length≤60*L.length
 | [],_=>zB0 _
 | x :: L,hL=>by
  have ih:=KE hP hQ H L fun y hy=>hL y (List.mem_cons_of_mem _ hy);have:=Yp hP hQ H (hL x (by simp));rw [zG2,zB2,zC4];omega
variable [Flag]
theorem qca {h0:AH} (w:WfH h0) (hf:Flag.b=true) (pv:PbV) (p:Pb) (H:PbOk h0 pv p) (vq:Value) (q:List Int) (rq:zl h0 vq 1 eI q) (hq:q.length≤1000000) :
 Fn Tryz.prog Xh 20 [pv.val,vq] h0 (fun u h'=>∃ t,u=str t∧(PO p→PartOk p q→∃ l,NmO p l∧t=l.flatMap (zh p q))∧(¬ (PO p∧PartOk p q)→t=[])∧Hs h0 h' []):=by
 have S:=Hs.start w;have hgl:pv.gs.length=p.us.length:=H.rol.len;have rg:zl h0 pv.vg.val 9 eG pv.gs:=H.rol.rg;unfold PbV.val;refine qA (by first|rfl) Tryz.func20 rfl rfl ?_;all_goals (repeat' (first|refine qg ?_|(refine qc 0 ?_;(refine bx S ?_;clear S;intro b h S);refine mv ?_;refine qf ?_)))
 obtain ⟨b3,hnm⟩:∃ x,x=b:=⟨_,rfl⟩;subst hnm;all_goals (repeat' (first|(refine qc 1 ?_;refine lB S rfl rfl ?_;refine mv ?_)))
 (refine qm rfl rfl rfl rfl rfl ((XH S.wf pv p (H.ext w S.ext) vq q (rq.ext w S.ext) (by omega)).mono ?_);rintro _ h ⟨⟨rfl,z⟩|⟨rfl,z⟩,x⟩)<;>(replace S:=S.qx x;clear x;refine vl ?_;refine qf ?_)
 all_goals (all_goals (repeat' (first|refine qg ?_|refine qh rfl ?_|refine qi ?_|(refine qc 2 ?_;refine mv ?_;refine qf ?_))))
 rotate_left
 ·refine qj ⟨_,rfl,?_⟩;exact ⟨[],rfl,fun a b=>absurd ⟨a,b⟩ z,fun _=>rfl,S.drop⟩
 obtain ⟨hP,hQ⟩:=z;have hql:=hQ.len;have h64:p.us.length≤64:=hP.rl.l64;have hgm:∀ j,j<p.us.length→(pv.gs.getD j default).name=QK p j:=fun j hj=>by unfold QK;rw [zA0,← (hP.gst H hj).1]
 all_goals (repeat' (first|refine qg ?_|(refine qc 3 ?_;(refine al S ?_;clear S;intro b h S);refine qf ?_)))
 obtain ⟨b5,hnm⟩:∃ x,x=b:=⟨_,rfl⟩;subst hnm;replace S:Hs h0 h [bst b5 (.pointer none) (.slice none 0 0),.blk b3 pv.cs 28]:=S;have S:Hs h0 h [wo (.slice none 0 0) [],bst b5 (.pointer none) (.slice none 0 0),.blk b3 pv.cs 28]:=S.ZF;have S:=(show Hs h0 h [bst b5 (.pointer none) (.slice none 0 0),wo (.slice none 0 0) [],.blk b3 pv.cs 28] from S.pick)
 have hsort:Fn Tryz.prog Xh 67 [pv.val,Zk 68 [.pointer (some ⟨b3,0,none⟩)]] h (fun u h'=>∃ l:List Int,NmO p l∧Hs h h' [.sl u 3 1 eI l]):=by
  have gb:h.get b3=some (.cells pv.cs 28 none false):=Hs.gB (b:=b3) S;rcases zF4 p.us.length with hn|hn
  ·refine (xA S.wf pv p (H.ext w S.ext) hn).mono fun u h' x=>⟨[],⟨List.Pairwise.nil,fun y=>⟨fun c=>(by cases c),fun c=>(by omega)⟩⟩,x⟩
  ·have C:=qaU pv p (H.ext w S.ext) gb S.wf hn;exact (wJ S.wf pv p (H.ext w S.ext) h64 (C:=C)).mono fun u h' ⟨l,k1,k2,x⟩=>⟨l,qgF hP hgm k1 k2,x⟩
 all_goals (repeat' (first|(refine qc 4 ?_;refine lB S rfl rfl ?_;refine vl ?_)))
 (refine qm rfl rfl rfl rfl rfl ((hsort).mono ?_);rintro vl_ h ⟨l,k1,x⟩)<;>(replace S:=S.QD x;clear x;refine Py S rfl rfl ?_;refine mv ?_;refine qf ?_)
 have hll:=k1.len;have hcl:∀ i,((l.take i).flatMap (zh p q)).length≤60*64:=fun i=>by
  have:=KE hP hQ H (l.take i) fun x hx=>(k1.2 x).1 (List.mem_of_mem_take hx);have h2:(l.take i).length≤64:=by rw [zA9];omega
  omega
 have S:=(show Hs h0 h [bst b5 (.pointer none) (.slice none 0 0),wo (.slice none 0 0) [],.sl vl_ 3 1 eI l,.blk b3 pv.cs 28] from S.pick)
 all_goals (repeat' (refine ql ?_))
 refine qB (σ:=Nat×Value×Value) (fun (i,qv,v) h'=>Hs h0 h' [bst b5 qv v,wo v ((l.take i).flatMap (zh p q)),.sl vl_ 3 1 eI l,.blk b3 pv.cs 28]∧QP b5 qv∧i≤l.length∧(i=0→v = .slice none 0 0)) (fun (i,qv,v)=>l.length - i) (fun (i,qv,v)=>[(1,vq),(2,.pointer (some ⟨b3,0,none⟩)),(5,.pointer (some ⟨b5,0,none⟩)),(14,vl_),(15,.int .i64 l.length),(16,.int .i64 i)]) (0,.pointer none,.slice none 0 0) qw ?_ ?_
 ·exact ⟨S,.inl rfl,zB0 _,fun _=>rfl⟩
 clear S;rintro ⟨i,qv,v⟩ h ⟨S,g1,g2,g3⟩;have hL:=hcl i;all_goals (repeat' (first|refine qg ?_|refine qh rfl ?_|refine qi ?_|refine qy ?_|refine ql ?_|(refine qc 5 ?_;(first|(refine cS ?_ ?_<;>intro hc))<;>(refine qf ?_))))
 ·have hi:i<l.length:=by omega
  have hx0:l.getD (i:Int).toNat default=l.getD i default:=rfl;have htk:=qY hi;have hmx:=(k1.2 _).1 (qK hi);all_goals (repeat' (first|refine qg ?_|(refine qc 6 ?_;refine qR S rfl rfl ?_;refine zu S rfl rfl ?_;refine mv ?_;refine qf ?_)))
  rw [hx0];generalize hxx:l.getD i default=y at *
  obtain ⟨g,rfl⟩:=zH3 hmx.1;have hsn:(l.take (i+1)).flatMap (zh p q)=(l.take i).flatMap (zh p q) ++ zh p q g:=by rw [htk,List.flatMap_append];simp
  have hnl:=Yp hP hQ H hmx;have hxq:q.getD (g:Int).toNat default=q.getD g default:=rfl;have hxg:pv.gs.getD (g:Int).toNat default=pv.gs.getD g default:=rfl;have hgn:=hgm g (by omega);have hn12:(QK p g).length≤12:=(hP.gst H (show g<p.us.length by omega)).2.1.2.1;have hb1:((l.take i).flatMap (zh p q)).length+(QK p g ++ [32]).length≤1000000:=by simp only [zB2,zC4,List.length_nil];omega
  all_goals (repeat' (first|(refine qc 7 ?_;refine vl ?_;refine lB S rfl rfl ?_;refine mv ?_;refine zT S ?_;refine fB S ?_;refine zQ S ?_;refine tc ?_)))
  rw [hxg,hgn];(refine qm rfl rfl rfl rfl rfl ((jH (QK p g ++ [32]) S g1 hb1).mono ?_);rintro _ h ⟨v2,S2⟩)<;>(replace S:=S2;clear S2;refine qf ?_)
  all_goals (repeat' (first|refine qg ?_|refine qh rfl ?_|(refine qc 8 ?_;refine mv ?_;refine mv ?_;refine zT S ?_;refine zQ S ?_;(first|(refine cS ?_ ?_<;>intro hc))<;>(refine qf ?_))))
  ·rw [hxq] at *;have hneg:q.getD g default<0:=by assumption
   have hb2:((l.take i).flatMap (zh p q) ++ (QK p g ++ [32])).length+([45,10]:List UInt8).length≤1000000:=by simp only [zB2,zC4,List.length_nil] at hb1 ⊢;omega
   all_goals (repeat' (first|(refine qc 9 ?_;skip)))
   (refine qm rfl rfl rfl rfl rfl ((jH [45,10] S (.inr rfl) hb2).mono ?_);rintro _ h ⟨v3,S2⟩)<;>(replace S:=S2;clear S2;refine qf ?_)
   have e:(l.take i).flatMap (zh p q) ++ (QK p g ++ [32]) ++ [45,10]=(l.take (i+1)).flatMap (zh p q):=by
    rw [hsn];generalize (l.take i).flatMap (zh p q)=X
    unfold zh;rw [if_pos (show q.getD (g:Int).toNat default<0 from hneg)];simp
   rw [e] at S;all_goals (repeat' (first|(refine qc 11 ?_;refine ad ?_;refine mv ?_;refine qf ?_)))
   refine ⟨(i+1,.pointer (some ⟨b5,0,none⟩),v3),?_,?_,qw⟩
   ·show l.length - (i+1)<l.length - i;omega
   ·exact ⟨S,.inr rfl,by (try dsimp only);omega,fun c=>by omega⟩
  ·rw [hxq] at *;have hs:0≤q.getD g default:=by omega
   have hrg:=hQ.rng _ (qK (show g<q.length by omega));have hsm:q.getD g default≤1000000:=by
    have:=zD p.tabs p.tabs.length;have:=hP.tabs.1;omega
   obtain ⟨i2,k2,hw⟩:=V6 hP.tabs hs p.tabs.length (zA3 _) hrg.2;obtain ⟨s1,s2⟩:=XJ hw;have hkb:=hw.szb;have hdg:=Zj 8 k2 (by omega);have hnt:(tb p.tabs i2).name.length≤12:=(hw.1.nm hw.2.1).2.1;have hpl:(zW p.tabs i2 k2).length≤30:=by unfold zW;simp only [zB2,zC4,List.length_nil];omega
   have hb2:((l.take i).flatMap (zh p q) ++ (QK p g ++ [32])).length+(zW p.tabs i2 k2 ++ [10]).length≤1000000:=by simp only [zB2,zC4,List.length_nil] at hb1 ⊢;omega
   all_goals (repeat' (first|(refine qF 10 ?_;refine lB S rfl rfl ?_;refine mv ?_;refine mv ?_;refine zT S ?_;refine zQ S ?_)))
   (refine qm rfl rfl rfl rfl rfl ((wI S.wf hf pv p (H.ext w S.ext) (q.getD g default) hsm i2 k2 hw).mono ?_);rintro _ h ⟨rfl,x⟩)<;>(replace S:=S.qx x;clear x;refine tc ?_)
   all_goals (repeat' (fail))
   (refine qm rfl rfl rfl rfl rfl ((jH (zW p.tabs i2 k2 ++ [10]) S (.inr rfl) hb2).mono ?_);rintro _ h ⟨v3,S2⟩)<;>(replace S:=S2;clear S2;refine qf ?_)
   have e:(l.take i).flatMap (zh p q) ++ (QK p g ++ [32]) ++ (zW p.tabs i2 k2 ++ [10])=(l.take (i+1)).flatMap (zh p q):=by
    rw [hsn];generalize (l.take i).flatMap (zh p q)=X
    unfold zh;have hxq3:q.getD (g:Int).toNat default=q.getD g default:=rfl;rw [if_neg (show ¬ q.getD (g:Int).toNat default<0 by rw [hxq3];omega),hxq3,s1,s2];simp
   rw [e] at S;all_goals (repeat' (first|(refine qc 11 ?_;refine ad ?_;refine mv ?_;refine qf ?_)))
   refine ⟨(i+1,.pointer (some ⟨b5,0,none⟩),v3),?_,?_,qw⟩
   ·show l.length - (i+1)<l.length - i;omega
   ·exact ⟨S,.inr rfl,by (try dsimp only);omega,fun c=>by omega⟩
 ·obtain rfl:i=l.length:=by omega
  rw [zD4] at S hL;all_goals (repeat' (first|(refine qc 12 ?_;skip)))
  rcases zF4 l.length with hz|hz
  ·have:=g3 hz;subst this;have S:=(show Hs h0 h [bst b5 qv (.slice none 0 0),.sl vl_ 3 1 eI l,.blk b3 pv.cs 28] from S.pick)
   (refine qm rfl rfl rfl rfl rfl ((P5 S).mono ?_);rintro _ h ⟨rfl,S2⟩)<;>(replace S:=S2;clear S2;refine mv ?_;refine qf ?_)
   all_goals (repeat' (fail))
   refine qj ⟨_,rfl,?_⟩;exact ⟨[],rfl,fun _ _=>⟨l,k1,by rw [List.eq_nil_of_length_eq_zero hz];rfl⟩,fun q=>absurd ⟨hP,hQ⟩ q,S.drop⟩
  ·have hp:0<(l.flatMap (zh p q)).length:=by
    match l,hz with
    | a :: r,_ =>
     rw [zG2,zB2];unfold zh;simp only [zB2,zC4,List.length_nil];omega
   (refine qm rfl rfl rfl rfl rfl ((xe S ⟨hp,by omega⟩).mono ?_);rintro _ h ⟨rfl,S2⟩)<;>(replace S:=S2;clear S2;refine mv ?_;refine qf ?_)
   all_goals (repeat' (fail))
   refine qj ⟨_,rfl,?_⟩;exact ⟨_,rfl,fun _ _=>⟨l,k1,rfl⟩,fun q=>absurd ⟨hP,hQ⟩ q,S.drop⟩
end Go.Proofs.Xx
namespace Go.Proofs.Xx
open Go Go.Proofs
def WI (n:Nat) (R:List Int):List Bool:=(List.range n).map fun j:Nat=>decide ((j:Int)∈R)
theorem qfq {n:Nat} {R:List Int}:(WI n R).length=n:=by unfold WI;simp
theorem qfr {n:Nat} {R:List Int} {j:Nat} (hj:j<n):(WI n R).getD j default=decide ((j:Int)∈R):=by
 unfold WI;rw [zA2,zH8,List.getElem?_range hj];rfl
theorem qfp {n:Nat}:WI n []=List.replicate n false:=by
 unfold WI;apply List.ext_getElem?
 intro j;by_cases hj:j<n
 ·rw [zH8,List.getElem?_range hj,List.getElem?_replicate,if_pos hj];simp
 ·rw [zG5 (by simp;omega),zG5 (by simp;omega)]
theorem qfo {n:Nat} {R:List Int} {j:Nat} (hj:j<n):(WI n R).set j true=WI n (R ++ [(j:Int)]):=by
 unfold WI;apply List.ext_getElem?
 intro k;rw [List.getElem?_set];by_cases hk:k<n
 ·rw [zH8,zH8,List.getElem?_range hk];by_cases e:j=k
  ·subst e;simp [hj]
  ·rw [if_neg e];have:¬ ((k:Int)=(j:Int)):=by omega
   simp [this]
 ·have:¬ j=k:=by omega
  rw [if_neg this,zG5 (by simp;omega),zG5 (by simp;omega)]
theorem Vy:∀ {a b:List Int},a.Nodup→(∀ x∈a,x∈b)→a.length≤b.length
 | [],_,_,_=>zB0 _
 | x :: a,b,h,hs=>by
  rw [List.nodup_cons] at h;have hx:x∈b:=hs x (by simp);have:=Vy (a:=a) (b:=b.erase x) h.2 fun y hy=>(List.mem_erase_of_ne (fun e=>h.1 (by rw [← e];exact hy))).2 (hs y (List.mem_cons_of_mem _ hy));rw [List.length_erase_of_mem hx] at this;have:=List.length_pos_of_mem hx;rw [zC4];omega
theorem Hs.qje {h0 h:AH} {u:Value} {e:TypeId} {x:List UInt8} {rs:List Rs} (S:Hs h0 h (.sl u e 1 Xw [(str x).cells.toList] :: rs)):Hs h0 h (.sl u e 1 eS [x] :: rs):=S.conv fun fp k=>by
 rcases k with ⟨_,k⟩|⟨b,o,cc,slk,cap,k1,k2,k3,k4,k5⟩
 ·cases k
 ·exact .inr ⟨b,o,cc,slk,cap,k1,k2,k3,k4,k5⟩
structure SelN (p:Pb) (R:List Int):Prop where
 pw:R.Pairwise (fun x y=>jv (QK p x) (QK p y))
 rg:∀ x∈R,0≤x∧x<p.us.length
 up:∀ x:Int,0≤x→x<p.us.length→x ∉ R→∀ y∈R,jv (QK p y) (QK p x)
theorem SelN.nd {p:Pb} {R:List Int} (h:SelN p R):R.Nodup:=List.nodup_iff_pairwise_ne.2 (h.pw.imp fun {a b} z e=>by rw [e] at z;exact zG _ z)
theorem SelN.left {p:Pb} {R:List Int} (h:SelN p R) (hl:R.length<p.us.length):∃ j:Nat,j<p.us.length∧(j:Int) ∉ R:=by
 by_cases q:∃ j:Nat,j<p.us.length∧(j:Int) ∉ R
 ·exact q
 ·exfalso
  have hall:∀ x∈Ju p.us.length,x∈R:=fun x hx=>by
   by_cases c:x∈R
   ·exact c
   ·have:=Yh hx;exact absurd ⟨x.toNat,by omega,by rw [show ((x.toNat:Nat):Int)=x by omega];exact c⟩ q
  have hnd:(Ju p.us.length).Nodup:=by
   unfold Ju;rw [List.nodup_iff_pairwise_ne,List.pairwise_map];exact (List.nodup_iff_pairwise_ne.1 List.nodup_range).imp fun {a b} z e=>z (Int.ofNat.inj e)
  have:=Vy hnd hall;rw [XF] at this;omega
theorem SelN.add {p:Pb} (hP:PO p) {R:List Int} (h:SelN p R) {b:Nat} (hb:b<p.us.length) (hn:(b:Int) ∉ R) (hm:∀ j:Nat,j<p.us.length→(j:Int) ∉ R→¬ jv (QK p j) (QK p b)):SelN p (R ++ [(b:Int)]):=by
 refine ⟨?_,fun x hx=>?_,fun x h1 h2 h3 y hy=>?_⟩
 ·rw [List.pairwise_append];refine ⟨h.pw,List.pairwise_singleton _ _,fun x hx y hy=>?_⟩;rw [zB5.1 hy];exact h.up _ (by omega) (by omega) hn x hx
 ·rcases zB8.1 hx with q|q
  ·exact h.rg x q
  ·rw [zB5.1 q];omega
 ·rw [zB8,zB5,not_or] at h3;rcases zB8.1 hy with q|q
  ·exact h.up x h1 h2 h3.1 y q
  ·rw [zB5.1 q];have e:((x.toNat:Nat):Int)=x:=by omega
   have:=hm x.toNat (by omega) (by rw [e];exact h3.1);rw [e] at this;rcases ZQ (QK p b) (QK p x) with r|r|r
   ·exact r
   ·exact absurd r (qf3 hP (by omega) ⟨h1,h2⟩ fun e=>h3.2 e.symm)
   ·exact absurd r this
theorem SelN.fin {p:Pb} {R:List Int} (h:SelN p R) (hl:R.length=p.us.length):NmO p R:=by
 refine ⟨h.pw,fun x=>⟨h.rg x,fun hx=>?_⟩⟩;by_cases c:x∈R
 ·exact c
 ·exfalso
  have hnd:(x :: R).Nodup:=List.nodup_cons.2 ⟨c,h.nd⟩;have:=Vy (a:=x :: R) (b:=Ju p.us.length) hnd fun y hy=>by
   have hr:0≤y∧y<p.us.length:=by
    rcases zE8.1 hy with rfl|q
    ·exact hx
    ·exact h.rg y q
   exact zF1.2 ⟨y.toNat,zE3.2 (by omega),by show ((y.toNat:Nat):Int)=y;omega⟩
  rw [XF,zC4] at this;omega
def qi4 (p:Pb) (R:List Int) (k:Nat) (b:Int):Prop:=(b = -1∧∀ j:Nat,j<k→(j:Int)∈R)∨∃ m:Nat,b=m∧m<k∧(m:Int) ∉ R∧∀ j:Nat,j<k→(j:Int) ∉ R→¬ jv (QK p j) (QK p m)
variable [Flag]
theorem qcl {h0:AH} (w:WfH h0) (pv:PbV) (p:Pb) (H:PbOk h0 pv p) (hP:PO p) (vq:Value) (q:List Int) (rq:zl h0 vq 1 eI q) (hQ:PartOk p q) :
 Fn Tryz.prog Xh 50 [pv.val,vq] h0 (fun u h'=>∃ l,NmO p l∧u=str (l.flatMap (zh p q))∧Hs h0 h' []):=by
 have S:=Hs.start w;have hql:=hQ.len;have h64:p.us.length≤64:=hP.rl.l64;have hgl:pv.gs.length=p.us.length:=H.rol.len;have rg:zl h0 pv.vg.val 9 eG pv.gs:=H.rol.rg;have hgm:∀ j,j<p.us.length→(pv.gs.getD j default).name=QK p j:=fun j hj=>by unfold QK;rw [zA0,← (hP.gst H hj).1]
 unfold PbV.val;refine qA (by first|rfl) Tryz.func50 rfl rfl ?_;all_goals (repeat' (first|refine qg ?_|(refine qc 0 ?_;(refine bx S ?_;clear S;intro b h S);refine mv ?_;refine qf ?_)))
 obtain ⟨b2,hnm⟩:∃ x,x=b:=⟨_,rfl⟩;subst hnm;all_goals (repeat' (first|refine qg ?_|(refine qc 1 ?_;refine mv ?_;refine qf ?_)|(refine qc 2 ?_;refine vl ?_;refine lB S rfl rfl ?_;refine jc S ?_)))
 refine qdZ (z:=1) (by_:=1) (enc:=eB) (y0:=false) S rfl rfl rfl rfl rfl rfl rfl rfl rfl (by intro _;rfl) (by first|omega) rfl rfl ?_;clear S;intro v h S;obtain ⟨vk,rfl⟩:=S.sV v;refine mv ?_;refine qf ?_;have e0:List.replicate (pv.gs.length:Int).toNat false=WI p.us.length []:=by rw [qfp,zA0,hgl]
 rw [e0] at S;replace S:Hs h0 h [.sl vk.val 4 1 eB (WI p.us.length []),.blk b2 pv.cs 28]:=S;have hcl:∀ R:List Int,SelN p R→R.length≤p.us.length→(R.flatMap (zh p q)).length≤60*64:=fun R hR hl=>by
  have:=KE hP hQ H R fun x hx=>hR.rg x hx;omega
 all_goals (repeat' (first|refine qg ?_|refine ql ?_|(refine qc 3 ?_;refine mv ?_;refine qf ?_)))
 refine qB (σ:=List Int) (fun R h'=>Hs h0 h' [.sl vk.val 4 1 eB (WI p.us.length R),.blk b2 pv.cs 28]∧R.length≤p.us.length∧SelN p R) (fun R=>p.us.length - R.length) (fun R=>[(1,vq),(2,.pointer (some ⟨b2,0,none⟩)),(5,str (R.flatMap (zh p q))),(6,vk.val),(7,.int .i64 R.length)]) ([]:List Int) qw ?_ ?_
 ·exact ⟨S,zB0 _,List.Pairwise.nil,fun x hx=>(by cases hx),fun x _ _ _ y hy=>(by cases hy)⟩
 clear S;rintro R h ⟨S,g1,g2⟩;have hL:=hcl R g2 g1;have hfl:=qfq (n:=p.us.length) (R:=R);all_goals (repeat' (first|refine qg ?_|refine qh rfl ?_|refine qi ?_|refine qy ?_|refine ql ?_|(refine qc 4 ?_;refine mv ?_;refine vl ?_;refine lB S rfl rfl ?_;refine jc S ?_;(first|(refine cS ?_ ?_<;>intro hc))<;>(refine qf ?_))))
 ·have hRl:R.length<p.us.length:=by omega
  all_goals (repeat' (first|refine qg ?_|(refine qc 6 ?_;refine mv ?_;refine qf ?_)|(refine qc 7 ?_;refine mv ?_;refine qf ?_)))
  (repeat (refine qg ?_));first|refine xg (σ:=Int) (fun b h'=>Hs h0 h' [.sl vk.val 4 1 eB (WI p.us.length R),.blk b2 pv.cs 28]∧qi4 p R p.us.length b) (fun b=>[(1,vq),(2,.pointer (some ⟨b2,0,none⟩)),(5,str (R.flatMap (zh p q))),(6,vk.val),(7,.int .i64 R.length),(8,.int .i64 b)]) ?_ ?_
  ·all_goals (repeat' (refine ql ?_))
   refine qB (σ:=Nat×Int) (fun (k,b) h'=>Hs h0 h' [.sl vk.val 4 1 eB (WI p.us.length R),.blk b2 pv.cs 28]∧k≤p.us.length∧qi4 p R k b) (fun (k,b)=>p.us.length - k) (fun (k,b)=>[(1,vq),(2,.pointer (some ⟨b2,0,none⟩)),(5,str (R.flatMap (zh p q))),(6,vk.val),(7,.int .i64 R.length),(8,.int .i64 b),(9,.int .i64 k)]) (0,-1) qw ?_ ?_
   ·exact ⟨S,zB0 _,.inl ⟨rfl,fun j hj=>absurd hj (zB7 _)⟩⟩
   clear S;rintro ⟨k,b⟩ h ⟨S,f1,f2⟩;all_goals (repeat' (first|refine qg ?_|refine qh rfl ?_|refine qi ?_|refine qy ?_|refine ql ?_|(refine qc 8 ?_;refine mv ?_;refine vl ?_;refine lB S rfl rfl ?_;refine jc S ?_;(first|(refine cS ?_ ?_<;>intro hc))<;>(refine qf ?_))))
   ·have hk:k<p.us.length:=by omega
    have hxk:pv.gs.getD (k:Int).toNat default=pv.gs.getD k default:=rfl;have hgk:=hgm k hk;have hmv:∀ {j:Nat},j<k+1→j≠k→j<k:=fun a b=>by omega
    have hfg:=qfr (R:=R) hk;have hxf:(WI p.us.length R).getD (k:Int).toNat default=(WI p.us.length R).getD k default:=rfl;by_cases hm:(k:Int)∈R
    ·have hb:(WI p.us.length R).getD (k:Int).toNat default=true:=by rw [hxf,hfg];simpa using hm
     (repeat' (fail));refine qF 10 ?_;refine mv ?_;refine mv ?_;refine qR S rfl rfl ?_;refine zu S rfl rfl ?_;rw [hb];refine vl ?_;refine mv ?_;refine off ?_;(refine off ?_)<;>((refine off ?_);refine off ?_;refine off ?_;refine off ?_;refine off ?_;refine off ?_;refine off ?_;refine off ?_;refine off ?_;refine off ?_;refine off ?_;refine off ?_;refine off ?_;(refine off ?_)<;>((refine off ?_);refine vl ?_;refine qf ?_))
     all_goals (repeat' (first|refine qh rfl ?_|refine qi ?_|(refine qc 9 ?_;refine mv ?_;refine ad ?_;refine mv ?_;refine qf ?_)))
     refine ⟨(k+1,b),?_,?_,qw⟩
     ·show p.us.length - (k+1)<p.us.length - k;omega
     ·refine ⟨S,by (try dsimp only);omega,?_⟩;rcases f2 with ⟨e1,e2⟩|⟨m,e1,e2,e3,e4⟩
      ·refine .inl ⟨e1,fun j hj=>?_⟩;by_cases e:j=k
       ·subst e;exact hm
       ·exact e2 j (hmv hj e)
      ·refine .inr ⟨m,e1,by omega,e3,fun j hj hjR=>?_⟩;by_cases e:j=k
       ·subst e;exact absurd hm hjR
       ·exact e4 j (hmv hj e) hjR
    ·have hb:(WI p.us.length R).getD (k:Int).toNat default=false:=by rw [hxf,hfg];simpa using hm
     rcases f2 with ⟨rfl,e2⟩|⟨m,rfl,e2,e3,e4⟩
     ·(repeat' (fail));refine qF 10 ?_;refine mv ?_;refine mv ?_;refine qR S rfl rfl ?_;refine zu S rfl rfl ?_;rw [hb];refine vl ?_;refine mv ?_;refine mv ?_;(first|(refine cT ?_))<;>((refine mv ?_);refine off ?_;refine off ?_;refine off ?_;refine off ?_;refine off ?_;refine off ?_;refine off ?_;refine off ?_;refine off ?_;refine off ?_;refine off ?_;refine off ?_;(refine off ?_)<;>((refine vl ?_);refine vl ?_;refine qf ?_))
      all_goals (repeat' (first|refine qh rfl ?_|(refine qc 9 ?_;refine mv ?_;refine ad ?_;refine mv ?_;refine qf ?_)|(refine qc 11 ?_;refine mv ?_;refine mv ?_;refine qf ?_)))
      refine ⟨(k+1,(k:Int)),?_,?_,qw⟩
      ·show p.us.length - (k+1)<p.us.length - k;omega
      ·refine ⟨S,by (try dsimp only);omega,.inr ⟨k,rfl,by omega,hm,fun j hj hjR=>?_⟩⟩;by_cases e:j=k
       ·subst e;exact zG _
       ·exact absurd (e2 j (hmv hj e)) hjR
     ·have hgmm:=hgm m (by omega);have hxm:pv.gs.getD (m:Int).toNat default=pv.gs.getD m default:=rfl;(repeat' (fail));refine qF 10 ?_;refine mv ?_;refine mv ?_;refine qR S rfl rfl ?_;refine zu S rfl rfl ?_;rw [hb];refine vl ?_;refine mv ?_;refine mv ?_;(first|(refine cF ?_))<;>((refine mv ?_);(first|(refine vl ?_));(first|(refine lB S rfl rfl ?_));refine mv ?_;(first|(refine zT S ?_));(first|(refine fB S ?_));(first|(refine zQ S ?_));(first|(refine vl ?_));(first|(refine lB S rfl rfl ?_));refine mv ?_;(first|(refine zT S ?_));(first|(refine fB S ?_));(first|(refine zQ S ?_));(first|(refine tO ?_ ?_<;>intro hc))<;>((refine vl ?_);refine vl ?_;refine qf ?_))
      all_goals (try (all_goals (repeat' (first|refine qh rfl ?_|refine qi ?_|(refine qc 9 ?_;refine mv ?_;refine ad ?_;refine mv ?_;refine qf ?_)|(refine qc 11 ?_;refine mv ?_;refine mv ?_;refine qf ?_)))))
      all_goals (rw [hxk,hxm,hgk,hgmm] at hc)
      all_goals first
       | (
        have hlt:jv (QK p k) (QK p m):=hc;refine ⟨(k+1,(k:Int)),?_,?_,(qw)⟩
        ·show p.us.length - (k+1)<p.us.length - k;omega
        ·refine ⟨S,by (try dsimp only);omega,.inr ⟨k,rfl,by omega,hm,fun j hj hjR c=>?_⟩⟩;by_cases e:j=k
         ·subst e;exact zG _ c
         ·exact e4 j (hmv hj e) hjR (Qj c hlt))
       | (
        have hlt:¬ jv (QK p k) (QK p m):=hc;refine ⟨(k+1,(m:Int)),?_,?_,(qw)⟩
        ·show p.us.length - (k+1)<p.us.length - k;omega
        ·refine ⟨S,by (try dsimp only);omega,.inr ⟨m,rfl,by omega,e3,fun j hj hjR=>?_⟩⟩;by_cases e:j=k
         ·subst e;exact hlt
         ·exact e4 j (hmv hj e) hjR)
   ·obtain rfl:k=p.us.length:=by omega
    exact ⟨b,⟨S,f2⟩,(qw)⟩
  ·clear S;rintro b h ⟨S,f2⟩;obtain ⟨j0,j1,j2⟩:=g2.left hRl;obtain ⟨m,rfl,m1,m2,m3⟩:∃ m:Nat,b=m∧m<p.us.length∧(m:Int) ∉ R∧∀ j:Nat,j<p.us.length→(j:Int) ∉ R→¬ jv (QK p j) (QK p m):=by
    rcases f2 with ⟨-,e2⟩|e2
    ·exact absurd (e2 j0 j1) j2
    ·exact e2
   have hadd:=g2.add hP m1 m2 m3;have hln:(R ++ [(m:Int)]).length=R.length+1:=by simp
   have hcl2:=hcl _ hadd (by omega);have hfm:(R ++ [(m:Int)]).flatMap (zh p q)=R.flatMap (zh p q) ++ zh p q m:=by rw [List.flatMap_append];simp
   have hxm:pv.gs.getD (m:Int).toNat default=pv.gs.getD m default:=rfl;have hxq:q.getD (m:Int).toNat default=q.getD m default:=rfl;have hgm1:=hgm m m1;have hn12:(QK p m).length≤12:=(hP.gst H m1).2.1.2.1;have hfs:=qfo (R:=R) m1;all_goals (repeat' (first|refine qg ?_|(refine qc 12 ?_;refine mv ?_;refine mv ?_;refine qR S rfl rfl ?_;(first|(refine XK S rfl rfl ?_;clear S;intro h S));refine qf ?_)))
   rw [show (WI p.us.length R).set (m:Int).toNat true=WI p.us.length (R ++ [(m:Int)]) from hfs] at S;replace S:Hs h0 h [.sl vk.val 4 1 eB (WI p.us.length (R ++ [(m:Int)])),.blk b2 pv.cs 28]:=S;(repeat (refine qg ?_));refine qc 13 ?_;refine bsn (α:=List UInt8) (z:=1) eS [[45]] S ?_;clear S;intro u h S;(refine mv ?_;refine qf ?_);(repeat (refine qg ?_));first|refine zL (σ:=Value×List (List UInt8)) (fun (va,ws) h'=>Hs h0 h' [.sl va 9 1 eS ws,.sl vk.val 4 1 eB (WI p.us.length (R ++ [(m:Int)])),.blk b2 pv.cs 28]∧Zz ([QK p m] ++ ws) ++ [10]=zh p q m∧ws.length≤2∧∀ u∈ws,u.length≤20) (fun (va,ws)=>[(1,vq),(2,.pointer (some ⟨b2,0,none⟩)),(5,str (R.flatMap (zh p q))),(6,vk.val),(7,.int .i64 R.length),(8,.int .i64 m),(10,va)]) ?_ ?_
   ·all_goals (repeat' (first|refine qh rfl ?_|refine qi ?_|(refine qc 14 ?_;refine mv ?_;refine mv ?_;refine zT S ?_;refine zQ S ?_;(first|(refine cS ?_ ?_<;>intro hc))<;>(refine qf ?_))))
    ·have hs:0≤q.getD m default:=by rw [← hxq];assumption
     have hrg:=hQ.rng _ (qK (show m<q.length by omega));have hsm:q.getD m default≤1000000:=by
      have:=zD p.tabs p.tabs.length;have:=hP.tabs.1;omega
     obtain ⟨i2,k2,hw⟩:=V6 hP.tabs hs p.tabs.length (zA3 _) hrg.2;obtain ⟨s1,s2⟩:=XJ hw;have hkb:=hw.szb;have hdg:=Zj 8 k2 (by omega);have hnt:(tb p.tabs i2).name.length≤12:=(hw.1.nm hw.2.1).2.1;all_goals (repeat' (first|(refine qF 15 ?_;refine lB S rfl rfl ?_;refine mv ?_;refine mv ?_;refine zT S ?_;refine zQ S ?_)))
     rw [hxq];(refine qm rfl rfl rfl rfl rfl ((pJ S.wf pv p (H.ext w S.ext) hP.tabs (q.getD m default) ⟨hs,hsm⟩ i2 k2 hw).mono ?_);rintro va h x)<;>(replace S:=S.QD x;clear x;refine mv ?_;refine qf ?_)
     all_goals (repeat' (fail))
     replace S:Hs h0 h [.sl va 9 1 eS [(tb p.tabs i2).name,Zo k2],.sl vk.val 4 1 eB (WI p.us.length (R ++ [(m:Int)])),.blk b2 pv.cs 28]:=S.pick;refine ⟨(va,[(tb p.tabs i2).name,Zo k2]),⟨S,?_,by simp,fun u hu=>?_⟩,(qw)⟩
     ·unfold zh;rw [if_neg (show ¬ q.getD (m:Int).toNat default<0 by rw [hxq];omega),hxq,s1,s2];simp [Zz,zW]
     ·simp at hu;rcases hu with rfl|rfl
      ·exact zD0 hnt (by omega)
      ·omega
    ·refine ⟨(u,[[45]]),⟨S,?_,by simp,fun u hu=>?_⟩,(qw)⟩
     ·unfold zh;rw [if_pos (show q.getD (m:Int).toNat default<0 by omega)];simp [Zz]
     ·rw [zB5.1 hu];decide
   clear S;rintro ⟨va,ws⟩ h ⟨S,w1,w2,w3⟩;all_goals (repeat' (first|(refine qc 16 ?_;refine mv ?_;refine vl ?_;refine lB S rfl rfl ?_;refine mv ?_;refine zT S ?_;refine fB S ?_;refine zQ S ?_;(refine one 1 S ?_;clear S;intro u h S);refine mv ?_)))
   rw [hxm,hgm1] at S;have S:=S.qje;replace S:Hs h0 h [.sl u 9 1 eS [QK p m],.sl va 9 1 eS ws,.sl vk.val 4 1 eB (WI p.us.length (R ++ [(m:Int)])),.blk b2 pv.cs 28]:=S;refine apd S rfl rfl (Rd.jZ S (.there .here)) ?_ (hsz:=by simp only [zC4,List.length_nil];omega);clear S;intro v9 h S;(skip);have hw3:∀ u∈[QK p m] ++ ws,u.length≤100:=fun u hu=>by
    rcases zB8.1 hu with hu|hu
    ·rw [zB5.1 hu];omega
    ·have:=w3 u hu;omega
   have hl3:([QK p m] ++ ws).length≤100:=by rw [zB2,zD5];omega
   (refine qm rfl rfl rfl rfl rfl ((Za S.wf v9 ([QK p m] ++ ws) (Rd.jZ S .here) hl3 hw3).mono ?_);rintro _ h ⟨rfl,x⟩)<;>(replace S:=S.qx x;clear x;refine tc ?_;refine mv ?_;refine qf ?_)
   rw [w1];have hnl:=Yp hP hQ H (x:=(m:Int)) (by omega);all_goals (repeat' (first|(refine qc 5 ?_;refine mv ?_;refine ad ?_;refine mv ?_;refine qf ?_)))
   rw [← hfm];replace S:Hs h0 h [.sl vk.val 4 1 eB (WI p.us.length (R ++ [(m:Int)])),.blk b2 pv.cs 28]:=S.pick;have ecast:(R.length:Int)+1=((R ++ [(m:Int)]).length:Nat):=by rw [hln];omega
   rw [ecast];refine ⟨R ++ [(m:Int)],?_,?_,qw⟩
   ·show p.us.length - (R ++ [(m:Int)]).length<p.us.length - R.length;omega
   ·exact ⟨S,by (try dsimp only);omega,hadd⟩
 ·obtain hRl:R.length=p.us.length:=by omega
  all_goals (repeat' (first|(refine qc 17 ?_;refine mv ?_;refine mv ?_;refine qf ?_)))
  refine qj ⟨_,rfl,?_⟩;exact ⟨R,g2.fin hRl,rfl,S.drop⟩
end Go.Proofs.Xx
namespace Go.Proofs.Xx
open Go Go.Proofs
open Classical in
noncomputable def Xb (q:List Int) (y:Int):Int:=if jF q y then ((J5 q y:Nat):Int) else -1
theorem qbn {q:List Int} {y:Int} {u:Value} (h:y9 u (fun i=>q.getD i default=y) q.length):u = .int .i64 (Xb q y):=by
 unfold Xb;rcases h with ⟨i,h1,rfl,h2,h3⟩|⟨rfl,h2⟩
 ·rw [if_pos ⟨i,h1,h2⟩,YD h1 h2 h3]
 ·rw [if_neg (fun ⟨i,a,b⟩=>h2 i a b)]
theorem qda {q:List Int} {y:Int} : -1≤Xb q y∧Xb q y<q.length:=by
 unfold Xb;split
 ·rename_i h
  have:=(YC h).1;omega
 ·omega
noncomputable def JK (p:Pb) (q:List Int) (t:Nat):List Int:=(List.range (qP (tb p.tabs t)).toNat).map fun k:Nat=>Xb q (sumT p.tabs t+k)
theorem PL {p:Pb} {q:List Int} {t:Nat}:(JK p q t).length=(qP (tb p.tabs t)).toNat:=by unfold JK;simp
theorem kD {q:List Int} {a:Int} {k:Nat}:(List.range (k+1)).map (fun k:Nat=>Xb q (a+k))=(List.range k).map (fun k:Nat=>Xb q (a+k)) ++ [Xb q (a+k)]:=by rw [List.range_succ,zC9];rfl
open Classical in
noncomputable def vY (p:Pb) (k:Nat) (g:Int):List UInt8:=Zo k ++ [32] ++ (if g<0 then [45] else QK p g) ++ [10]
noncomputable def JQ (p:Pb) (l:List Int) (n:Nat):List UInt8:=(List.range n).flatMap fun k=>vY p k (l.getD k default)
theorem qa5 {p:Pb} {l:List Int} {n:Nat}:JQ p l (n+1)=JQ p l n ++ vY p n (l.getD n default):=by unfold JQ;rw [List.range_succ,List.flatMap_append];simp
noncomputable def QQ (p:Pb) (q:List Int) (t:Nat):List UInt8:=wTable ++ [32] ++ (tb p.tabs t).name ++ [10] ++ JQ p (JK p q t) (JK p q t).length
theorem yN {p:Pb} (hP:PO p) {pv:PbV} {h:AH} (H:PbOk h pv p) {k:Nat} (hk:k≤999) {g:Int} (hg:g<p.us.length):(vY p k g).length≤30:=by
 have hd:=Zj 8 k (by omega);unfold vY;split
 ·simp only [zB2,zC4,List.length_nil];omega
 ·have e2:=(hP.gst H (show g.toNat<p.us.length by omega)).2.1.2.1;have e3:(QK p g).length≤12:=e2;simp only [zB2,zC4,List.length_nil];omega
theorem yM {p:Pb} (hP:PO p) {pv:PbV} {h:AH} (H:PbOk h pv p) {l:List Int} (hl:l.length≤999) (hg:∀ x∈l,x<p.us.length):∀ n,n≤l.length→(JQ p l n).length≤30*n
 | 0,_=>zB0 _
 | n+1,hn=>by
  have ih:=yM hP H hl hg n (by omega);have:=yN hP H (show n≤999 by omega) (hg _ (qK (show n<l.length by omega)));rw [qa5,zB2];omega
variable [Flag]
theorem qcs {h0:AH} (w:WfH h0) (v:PbV) (p:Pb) (H:PbOk h0 v p) (vq:Value) (q:List Int) (rq:zl h0 vq 1 eI q) (hq:q.length≤9223372036854775807) :
 Fn Tryz.prog Xh 76 [v.val,vq] h0 (fun u h'=>qI u (PO p∧PartOk p q)∧Hs h0 h' []):=by
 have S:=Hs.start w;unfold PbV.val;refine qA (by first|rfl) Tryz.func76 rfl rfl ?_;all_goals (repeat' (first|refine qg ?_|(refine qc 0 ?_;(refine bx S ?_;clear S;intro b h S);refine mv ?_;refine qf ?_)|(refine qc 1 ?_;refine lB S rfl rfl ?_;refine mv ?_)))
 (refine qm rfl rfl rfl rfl rfl ((Y5 S.wf v p (H.ext w S.ext) vq q (rq.ext w S.ext) hq).mono ?_);rintro _ h ⟨i,e,rfl,hk,x⟩)<;>(replace S:=S.qx x;clear x;refine mv ?_;refine vl ?_;refine vl ?_;refine mv ?_;refine mv ?_;refine qf ?_)
 have hpo:=hk.part;all_goals (repeat' (first|refine qg ?_|(refine qc 2 ?_;refine mv ?_;(first|(refine cS ?_ ?_<;>intro hc))<;>(refine mv ?_;refine qf ?_))))
 all_goals (refine qj ⟨_,rfl,?_⟩)
 ·exact ⟨.inl ⟨rfl,hpo.1 (by omega)⟩,S.drop⟩
 ·exact ⟨.inr ⟨rfl,fun k=>hc (hpo.2 k)⟩,S.drop⟩
theorem qaC {h0:AH} (w:WfH h0) (sq:SlV):Fn Tryz.prog Xh 77 [sq.val] h0 (fun u h'=>∃ b,u = .func (.func 131) #[] #[.pointer (some ⟨b,0,none⟩)]∧Hs h0 h' [.blk b [sq.val] 25]):=by
 have S:=Hs.start w;refine qA (by first|rfl) Tryz.func77 rfl rfl ?_;all_goals (repeat' (first|refine qg ?_|(refine qc 0 ?_;(refine bx S ?_;clear S;intro b h S);refine mv ?_;refine qf ?_)|(refine qc 1 ?_;refine vl ?_;refine mv ?_;refine qf ?_)))
 refine qj ⟨_,rfl,?_⟩;exact ⟨_,rfl,S⟩
theorem qe1 {h0:AH} (w:WfH h0) {b:Nat} {vq:Value} (hb:h0.get b=some (.cells [vq] 25 none false)) (q:List Int) (rq:zl h0 vq 1 eI q) (hq:q.length≤1000000) (y:Int) :
 Fn Tryz.prog Xh 131 [.int .i64 y,.pointer (some ⟨b,0,none⟩)] h0 (fun u h'=>u = .int .i64 (Xb q y)∧Hs h0 h' []):=by
 have S:=Hs.start w;refine qA (by first|rfl) Tryz.func131 rfl rfl ?_;all_goals (repeat' (first|refine qg ?_|(refine qc 0 ?_;refine mv ?_;refine qf ?_)|(refine qc 1 ?_;refine lH S ?_;refine mv ?_)))
 (refine qm rfl rfl rfl rfl rfl ((kz S.wf vq q (rq.ext w S.ext) hq y).mono ?_);rintro u h ⟨hi,x⟩)<;>(replace S:=S.qx x;clear x;refine mv ?_;refine qf ?_)
 obtain rfl:=qbn hi;all_goals (repeat' (fail))
 refine qj ⟨_,rfl,?_⟩;exact ⟨rfl,S⟩
theorem qaO {h0:AH} (w:WfH h0) (pv:PbV) (p:Pb) (H:PbOk h0 pv p) (sq:SlV) (q:List Int) (rq:zl h0 sq.val 1 eI q) (hq:q.length≤1000000) (t:Int) :
 Fn Tryz.prog Xh 23 [pv.val,sq.val,.int .i64 t] h0 (fun u h'=>∃ l:List Int,(PO p→PartOk p q→0≤t→t<p.tabs.length→l=JK p q t.toNat)∧(¬ (PO p∧PartOk p q∧0≤t∧t<p.tabs.length)→l=[])∧Hs h0 h' [.sl u 3 1 eI l]):=by
 have S:=Hs.start w;have hr:=H.tab.rd;have hl:=H.tab.len;unfold PbV.val;refine qA (by first|rfl) Tryz.func23 rfl rfl ?_;all_goals (repeat' (first|refine qg ?_|(refine qc 0 ?_;(refine bx S ?_;clear S;intro b h S);refine mv ?_;refine qf ?_)))
 obtain ⟨b3,hnm⟩:∃ x,x=b:=⟨_,rfl⟩;subst hnm;all_goals (repeat' (first|refine qg ?_|refine qh rfl ?_|(refine qc 1 ?_;refine mv ?_;(first|(refine cS ?_ ?_<;>intro hc))<;>(refine mv ?_;(first|refine off ?_|refine mv ?_);(first|refine off ?_|(refine vl ?_));(first|refine off ?_|(refine lB S rfl rfl ?_));(first|refine off ?_|(refine jc S ?_));(first|refine off ?_|(first|(refine cS ?_ ?_<;>intro hc)))<;>(refine vl ?_;refine mv ?_;(first|refine off ?_|(refine lB S rfl rfl ?_));(first|refine off ?_|refine mv ?_);(first|(refine off ?_;refine off ?_;refine vl ?_;refine qf ?_)|skip))))))
 all_goals (try ((refine qm rfl rfl rfl rfl rfl ((qcs S.wf pv p (H.ext w S.ext) sq.val q (rq.ext w S.ext) (by omega)).mono ?_);rintro _ h ⟨⟨rfl,z⟩|⟨rfl,z⟩,x⟩)<;>(replace S:=S.qx x;clear x;refine vl ?_;refine vl ?_;refine qf ?_)))
 all_goals (all_goals (repeat' (first|refine qg ?_|refine qh rfl ?_|refine qi ?_|(refine qc 2 ?_;refine mv ?_;refine qf ?_))))
 all_goals first
  | (refine qj ⟨_,rfl,?_⟩;exact ⟨[],fun _ _ _ _=>by omega,fun _=>rfl,Hs.ZF S.drop⟩)
  | (refine qj ⟨_,rfl,?_⟩;exact ⟨[],fun a b _ _=>absurd ⟨a,b⟩ z,fun _=>rfl,Hs.ZF S.drop⟩)
  | skip
 obtain ⟨hP,hQ⟩:=z;obtain ⟨n,rfl⟩:=zH3 (show 0≤t by omega);have hn:n<p.tabs.length:=by omega
 have hxn:p.tabs.getD (n:Int).toNat default=tb p.tabs n:=rfl;have ht24:=zO (tb p.tabs n);have hchk:chk (tb p.tabs n)=0:=(hP.tabs.2 n hn).1;have hse:xB (tb p.tabs n)=qP (tb p.tabs n):=by unfold xB;rw [if_pos hchk]
 have hfi:JM p.tabs (n:Int)=sumT p.tabs n:=by unfold JM;rw [if_pos ⟨by omega,by omega,hP.tabs⟩,zA0]
 have hsum:=zD p.tabs n;have ht16:=hP.tabs.1;all_goals (repeat' (first|(refine qc 3 ?_;refine mv ?_)))
 (refine qm rfl rfl rfl rfl rfl ((qaC S.wf sq).mono ?_);rintro _ h ⟨b4,rfl,x⟩)<;>(replace S:=S.join x;clear x;refine mv ?_;refine qf ?_)
 replace S:Hs h0 h [.blk b4 [sq.val] 25,.blk b3 pv.cs 28]:=S;all_goals (repeat' (first|refine qg ?_|(refine qc 4 ?_;refine vl ?_;refine lB S rfl rfl ?_;refine mv ?_)))
 (refine qm rfl rfl rfl rfl rfl ((PR S.wf pv.vt.val p.tabs (H.tab.ext w S.ext) (n:Int)).mono ?_);rintro _ h ⟨rfl,x⟩)<;>(replace S:=S.qx x;clear x;refine mv ?_;refine qf ?_)
 rw [hfi];all_goals (repeat' (first|refine qg ?_|(refine qc 5 ?_;refine mv ?_;refine qf ?_)|(refine qc 6 ?_;refine vl ?_;refine lB S rfl rfl ?_;refine mv ?_;refine zT S ?_;refine zQ S ?_)))
 rw [hxn];(refine qm rfl rfl rfl rfl rfl ((qdy S.wf (tb p.tabs n) ((H.tab.tab n hn).ext w S.ext)).mono ?_);rintro _ h ⟨rfl,x⟩)<;>(replace S:=S.qx x;clear x;refine mv ?_;refine qf ?_)
 rw [hse];obtain ⟨sz,hsz⟩:=zH3 ht24.1;rw [hsz] at ht24 ⊢;replace S:Hs h0 h [.sl (.slice none 0 0) 3 1 eI [],.blk b4 [sq.val] 25,.blk b3 pv.cs 28]:=S.ZF;all_goals (repeat' (refine ql ?_))
 refine qB (σ:=Nat×Value) (fun (k,vo) h'=>Hs h0 h' [.sl vo 3 1 eI ((List.range k).map fun k:Nat=>Xb q (sumT p.tabs n+k)),.blk b4 [sq.val] 25,.blk b3 pv.cs 28]∧k≤sz) (fun (k,vo)=>sz - k) (fun (k,vo)=>[(7,.func (.func 131) #[] #[.pointer (some ⟨b4,0,none⟩)]),(8,.int .i64 (sumT p.tabs n)),(9,vo),(37,.int .i64 sz),(38,.int .i64 k)]) (0,.slice none 0 0) qw ?_ ?_
 ·exact ⟨S,zB0 _⟩
 clear S;rintro ⟨k,vo⟩ h ⟨S,g1⟩;have hlen:((List.range k).map fun k:Nat=>Xb q (sumT p.tabs n+k)).length=k:=by simp
 all_goals (repeat' (first|refine qg ?_|refine qh rfl ?_|refine qi ?_|refine qy ?_|refine ql ?_|(refine qc 7 ?_;(first|(refine cS ?_ ?_<;>intro hc))<;>(refine qf ?_))))
 ·have gb:h.get b4=some (.cells [sq.val] 25 none false):=Hs.gB (b:=b4) S;have hsit:=qe1 S.wf gb q (rq.ext w S.ext) hq (sumT p.tabs n+k);all_goals (repeat' (first|(refine qc 8 ?_;refine mv ?_;refine mv ?_;refine qf ?_)|(refine qc 9 ?_;(iterate 4 refine mv ?_);refine ad ?_)))
  (refine zk rfl rfl rfl rfl ((hsit).mono ?_);rintro _ h ⟨rfl,x⟩)<;>(replace S:=S.qx x;clear x;(refine one 1 S ?_;clear S;intro u h S))
  all_goals (repeat' (fail))
  refine app (y0:=(Xb q (sumT p.tabs n+k))) S rfl rfl ?_;clear S;intro v h S;refine mv ?_;refine qf ?_;rw [← kD] at S;all_goals (repeat' (first|(refine qc 10 ?_;refine ad ?_;refine mv ?_;refine qf ?_)))
  refine ⟨(k+1,v),?_,?_,qw⟩
  ·show sz - (k+1)<sz - k;omega
  ·exact ⟨S,by (try dsimp only);omega⟩
 ·obtain rfl:k=sz:=by omega
  all_goals (repeat' (first|(refine qc 11 ?_;refine mv ?_;refine mv ?_;refine qf ?_)))
  refine qj ⟨_,rfl,?_⟩;refine ⟨_,fun _ _ _ _=>?_,fun c=>absurd ⟨hP,hQ,by omega,by omega⟩ c,S.only .here⟩;unfold JK;rw [zA0,hsz];rfl
theorem qaH {h0:AH} (w:WfH h0) (pv:PbV) (p:Pb) (H:PbOk h0 pv p) (hP:PO p) (vq:Value) (q:List Int) (rq:zl h0 vq 1 eI q) (hq:q.length≤1000000) (n:Nat) (hn:n<p.tabs.length) :
 Fn Tryz.prog Xh 114 [pv.val,vq,.int .i64 n] h0 (fun u h'=>Hs h0 h' [.sl u 3 1 eI (JK p q n)]):=by
 have S:=Hs.start w;have hr:=H.tab.rd;have hl:=H.tab.len;have hxn:p.tabs.getD (n:Int).toNat default=tb p.tabs n:=rfl;have ht24:=zO (tb p.tabs n);have hsum:=zD p.tabs n;have ht16:=hP.tabs.1;unfold PbV.val;refine qA (by first|rfl) Tryz.func114 rfl rfl ?_;all_goals (repeat' (first|refine qg ?_|(refine qc 0 ?_;(refine bx S ?_;clear S;intro b h S);refine mv ?_;refine qf ?_)))
 obtain ⟨b3,hnm⟩:∃ x,x=b:=⟨_,rfl⟩;subst hnm;all_goals (repeat' (first|refine qg ?_|refine ql ?_|(refine qc 1 ?_;refine mv ?_;refine qf ?_)|(refine qc 2 ?_;refine mv ?_;refine qf ?_)))
 replace S:Hs h0 h [.sl (.slice none 0 0) 3 1 eI [],.blk b3 pv.cs 28]:=S.ZF;obtain ⟨sz,hsz⟩:=zH3 ht24.1;refine qB (σ:=Nat×Value) (fun (k,vo) h'=>Hs h0 h' [.sl vo 3 1 eI ((List.range k).map fun k:Nat=>Xb q (sumT p.tabs n+k)),.blk b3 pv.cs 28]∧k≤sz) (fun (k,vo)=>sz - k) (fun (k,vo)=>[(1,vq),(2,.int .i64 n),(3,.pointer (some ⟨b3,0,none⟩)),(7,vo),(8,.int .i64 k)]) (0,.slice none 0 0) qw ?_ ?_
 ·exact ⟨S,zB0 _⟩
 clear S;rintro ⟨k,vo⟩ h ⟨S,g1⟩;have hlen:((List.range k).map fun k:Nat=>Xb q (sumT p.tabs n+k)).length=k:=by simp
 all_goals (repeat' (first|refine qg ?_|(refine qc 3 ?_;refine mv ?_;refine vl ?_;refine lB S rfl rfl ?_;refine mv ?_;refine zT S ?_;refine zQ S ?_)))
 rw [hxn];(refine qm rfl rfl rfl rfl rfl ((QW S.wf (tb p.tabs n)).mono ?_);rintro _ h ⟨rfl,x⟩)<;>(replace S:=S.qx x;clear x;(first|(refine cS ?_ ?_<;>intro hc))<;>(refine qf ?_))
 rw [hsz] at ht24 ⊢;all_goals (repeat' (first|refine qg ?_|refine qh rfl ?_|refine qi ?_|refine qy ?_|refine ql ?_))
 ·all_goals (repeat' (first|(refine qc 5 ?_;refine mv ?_;refine mv ?_;refine vl ?_;refine lB S rfl rfl ?_;refine mv ?_)))
  (refine qm rfl rfl rfl rfl rfl ((wS S.wf pv.vt.val p.tabs (hr.ext w S.ext) hl n (by omega)).mono ?_);rintro _ h ⟨rfl,x⟩)<;>(replace S:=S.qx x;clear x;refine mv ?_;refine ad ?_)
  all_goals (repeat' (fail))
  (refine qm rfl rfl rfl rfl rfl ((Kt S.wf vq q (rq.ext w S.ext) hq (sumT p.tabs n+k)).mono ?_);rintro u h ⟨hi,x⟩)<;>(replace S:=S.qx x;clear x;obtain rfl:=qbn hi;(refine one 1 S ?_;clear S;intro u h S))
  all_goals (repeat' (fail))
  refine app (y0:=(Xb q (sumT p.tabs n+k))) S rfl rfl ?_;clear S;intro v h S;refine mv ?_;refine qf ?_;rw [← kD] at S;all_goals (repeat' (first|(refine qc 4 ?_;refine mv ?_;refine ad ?_;refine mv ?_;refine qf ?_)))
  refine ⟨(k+1,v),?_,?_,qw⟩
  ·show sz - (k+1)<sz - k;omega
  ·exact ⟨S,by (try dsimp only);omega⟩
 ·obtain rfl:k=sz:=by omega
  all_goals (repeat' (first|(refine qc 6 ?_;refine mv ?_;refine mv ?_;refine qf ?_)))
  refine qj ⟨_,rfl,?_⟩;have e:JK p q n=(List.range k).map fun k:Nat=>Xb q (sumT p.tabs n+k):=by unfold JK;rw [hsz];rfl
  rw [e];exact S.only .here
end Go.Proofs.Xx
