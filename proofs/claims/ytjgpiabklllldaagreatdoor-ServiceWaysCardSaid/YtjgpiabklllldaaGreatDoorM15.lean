/-
  The reference's shortest way,and its connections.
-/
import Derived.Test.YtjgpiabklllldaaGreatDoorM14
import Derived.Test.YtjgpiabklllldaaGreatDoorM7
import Derived.Test.YtjgpiabklllldaaGreatDoorM4
import Derived.Test.YtjgpiabklllldaaGreatDoorRows
import Derived.Lib.LaidTab
import Derived.Stop.LaidErr
import Derived.Shelf.Vars
import Derived.Test.YtjgpiabklllldaaGreatDoorM8
set_option linter.unusedSimpArgs false
set_option linter.unusedVariables false
set_option linter.unusedSectionVars false
set_option maxRecDepth 100000
set_option maxHeartbeats 4000000
namespace Go.Proofs.Xx
open Go Go.Proofs
theorem qdZ {L:List Int→Int} {b:List Int} {l:List (List Int)} {c:List Int}:Jk L b (l ++ [c])=if L c<L (Jk L b l) then c else Jk L b l:=by
 unfold Jk;rw [List.foldl_append];rfl
theorem yZ {p:Pb} {q:List Int} (hs:(srv (zk p q)).Nodup) {L:List (List Int)} (hL:L=Qs (srv (zk p q)) (srv (zk p q)).length):0<L.length∧Qo p q=(Jk (tour (zG p.tabs)) (L.getD 0 default) L,tour (zG p.tabs) (Jk (tour (zG p.tabs)) (L.getD 0 default) L)):=by
 have h:=xI (srv (zk p q)) (srv (zk p q)).length [] (srv (zk p q)) rfl (by simpa using hs) fun x hx=>hx;unfold Qo;rw [← qbH,← hL] at h ⊢;cases L with
 | nil=>cases h
 | cons c l=>exact ⟨by simp,qbk (fun c=>VU (Xb p.tabs) c (-1) (-1)) c l⟩
variable [Flag]
theorem qak {h0:AH} (w:WfH h0) (pv:PbV) (p:Pb) (H:PbOk h0 pv p) (hP:PO p) (q:List Int) (hQ:PartOk p q) (hs5:(srv (zk p q)).length≤5) (vst:Value) (rst:qY h0 vst 1 eI (srv (zk p q))) :
 Fn Tryz.prog Xh 40 [pv.val,vst] h0 (fun u h'=>∃ vw:SlV,u = .tuple #[vw.val,.int .i64 (Qo p q).2]∧qY h' vw.val 1 eI (Qo p q).1∧Hs h0 h' []):=by
 have S:=Hs.start w;have hv:=hP.tabs;have hsr:=vS (p:=p) (q:=q);have hnd:(srv (zk p q)).Nodup:=srv_inc.imp fun h=>by omega
 unfold PbV.val;refine qJ (by first|rfl) Tryz.func40 rfl rfl ?_;all_goals (repeat' (first|refine qg ?_|(refine qc 0 ?_;(refine bx S ?_;clear S;intro b h S);refine mv ?_;refine mv ?_;refine qf ?_)))
 obtain ⟨b2,hnm⟩:∃ x,x=b:=⟨_,rfl⟩;subst hnm;all_goals (repeat' (first|(refine qc 1 ?_;refine mv ?_)))
 (refine qx rfl rfl rfl rfl rfl ((GZ S.wf vst (srv (zk p q)) (rst.ext w S.ext) hs5).mono ?_);rintro v6 h ⟨rows,x,hrows⟩)<;>(replace S:=S.join2 x;clear x;refine mv ?_;refine qf ?_)
 obtain ⟨hne,hbest⟩:=yZ hnd hrows;have hlv:=(ZW (stops:=srv (zk p q)) (zA3 _) (srv (zk p q)).length).2;have hlv2:(Qs (srv (zk p q)) (srv (zk p q)).length).length≤3125:=zD0 (ZW hs5 (srv (zk p q)).length).1 (zD0 (Nat.pow_le_pow_right (by omega) hs5) (by decide));rw [← hrows] at hlv hlv2;generalize hB:Qo p q=B at hbest ⊢
 simp only [zC5] at hne hlv2;have hrl:∀ i,i<rows.length→(rows.getD i default).r.length≤5∧∀ t∈(rows.getD i default).r,0≤t∧t<p.tabs.length:=fun i hi=>by
  have e:(rows.map (·.r)).getD i default=(rows.getD i default).r:=zq (f:=fun x:Jt=>x.r) hi;have:=hlv ((rows.map (·.r)).getD i default) (qI (by simpa using hi));rw [e] at this;exact ⟨by omega,fun t ht=>hsr t (this.2 t ht)⟩
 replace S:Hs h0 h [.sl v6 25 1 Q3 rows,Qh jd rows,.blk b2 pv.cs 28]:=S;have w1:=S.wf;have rv:=Rd.of_sl S .here;have rrow:∀ i,i<rows.length→qY h (rows.getD i default).sv.val 1 eI (rows.getD i default).r:=fun i hi=>YQ S (.there .here) hi;have g2:=Hs.gB (b:=b2) S;have hb2:=Hs.bB (b:=b2) S;have HO:=H.ext w S.ext;have S00:=S;clear S;have S:=Hs.start w1;obtain ⟨hB,hnm⟩:∃ x,x=h:=⟨_,rfl⟩;subst hnm;have hlen:∀ {h2:AH} (S2:Hs hB h2 []) (i:Nat),i<rows.length→Fn Tryz.prog Xh 37 [pv.val,(rows.getD i default).sv.val] h2 (fun u h'=>u = .int .i64 (tour (zG p.tabs) (rows.getD i default).r)∧Hs h2 h' []):=fun S2 i hi =>
  Ws S2.wf pv p (HO.ext w1 S2.ext) hv _ _ ((rrow i hi).ext w1 S2.ext) (by have:=(hrl i hi).1;omega) (hrl i hi).2
 have hget:∀ i,i<rows.length→(rows.map (·.r)).getD i default=(rows.getD i default).r:=fun i hi=>zq (f:=fun x:Jt=>x.r) hi;generalize hc0:(rows.map (·.r)).getD 0 default=c0 at hbest
 all_goals (repeat' (first|refine qg ?_|refine qo ?_|(refine qc 2 ?_;refine mv ?_;refine zW S ?_;refine zV S ?_;refine mv ?_;refine qf ?_)|(refine qc 3 ?_;refine mv ?_;refine qf ?_)))
 refine qH (σ:=Nat×Nat) (fun (i,j) h'=>Hs hB h' []∧i≤rows.length∧j<rows.length∧(rows.getD j default).r=Jk (tour (zG p.tabs)) c0 ((rows.map (·.r)).take i)) (fun (i,j)=>rows.length - i) (fun (i,j)=>[(2,.pointer (some ⟨b2,0,none⟩)),(6,v6),(7,(rows.getD j default).sv.val),(8,.int .i64 i)]) (0,0) qy ?_ ?_
 ·exact ⟨S,zB0 _,hne,by rw [List.take_zero,← hc0,hget 0 hne];rfl⟩
 clear S;rintro ⟨i,j⟩ h ⟨S,f1,f2,f3⟩;all_goals (repeat' (first|refine qg ?_|refine qh rfl ?_|refine qi ?_|refine qB ?_|refine qo ?_|(refine qc 4 ?_;refine mv ?_;refine mv ?_;refine zC S ?_;(first|(refine cS ?_ ?_<;>intro hc))<;>(refine qf ?_))))
 ·have hi:i<rows.length:=by omega
  have hx0:rows.getD (i:Int).toNat default=rows.getD i default:=rfl;have key:Jk (tour (zG p.tabs)) c0 ((rows.map (·.r)).take (i+1))=if tour (zG p.tabs) (rows.getD i default).r<tour (zG p.tabs) (rows.getD j default).r then (rows.getD i default).r else (rows.getD j default).r:=by
   rw [List.take_add_one,zA4 (by simpa using hi),Option.toList_some,qdZ,← f3];have e:(rows.map (·.r))[i]'(by simpa using hi)=(rows.getD i default).r:=by
    rw [← hget i hi,zA2,zA4 (by simpa using hi)];rfl
   rw [e]
  (repeat (refine qg ?_));refine Qp (id:=6) [(6,(0,1))] [some (b2)] ?_;refine qp ?_;(first|(refine lH S ?_<;>refine qf ⟨⟨by (first|exact True.intro),rfl⟩,?_⟩));refine qp ?_;(first|(refine mv ?_<;>refine qf ⟨⟨by (first|exact True.intro),rfl⟩,?_⟩));refine qp ?_;(first|(refine mv ?_<;>refine qf ⟨⟨by (first|exact True.intro),rfl⟩,?_⟩));refine qp ?_;(first|(refine zW S ?_<;>refine qf ⟨⟨by (first|exact True.intro),rfl⟩,?_⟩));refine qp ?_;(first|(refine zV S ?_<;>refine qf ⟨⟨by (first|exact True.intro),rfl⟩,?_⟩));rw [hx0];((refine qp ?_;first|refine qx rfl rfl rfl rfl rfl ((hlen S i hi).mono ?_));rintro _ h ⟨rfl,x⟩)<;>((refine qf ⟨⟨True.intro,?_⟩,?_⟩;(focus ((show keepsX _ _ _ _ _;simp only [keepsX];(repeat' (first|exact True.intro|refine And.intro ?_ ?_));all_goals (intro hw;first|exact x.ext.old _ (S.bY (by assumption) (by assumption)))))));replace S:=S.join0 x;clear x;refine qp ?_;(first|(refine lH S ?_<;>refine qf ⟨⟨by (first|exact Or.inr rfl),rfl⟩,?_⟩));refine qp ?_;(first|(refine mv ?_<;>refine qf ⟨⟨by (first|exact True.intro),rfl⟩,?_⟩)))
  ((refine qp ?_;first|refine qx rfl rfl rfl rfl rfl ((hlen S j f2).mono ?_));rintro _ h ⟨rfl,x⟩)<;>((refine qf ⟨⟨True.intro,?_⟩,?_⟩;(focus ((show keepsX _ _ _ _ _;simp only [keepsX];(repeat' (first|exact True.intro|refine And.intro ?_ ?_));all_goals (intro hw;first|exact absurd hw (by decide +kernel))))));replace S:=S.join0 x;clear x;refine qp ?_;(first|((refine cS ?_ ?_<;>intro hc)<;>refine qf ⟨⟨by (first|exact True.intro),rfl⟩,?_⟩))<;>(refine Qq ?_))
  ·rw [if_pos (by assumption)] at key;all_goals (repeat' (first|refine qh rfl ?_|(refine qc 5 ?_;refine mv ?_;refine ad ?_;refine mv ?_;refine qf ?_)|(refine qc 7 ?_;refine mv ?_;refine mv ?_;refine zW S ?_;refine zV S ?_;refine mv ?_;refine qf ?_)))
   refine ⟨(i+1,i),?_,?_,qy⟩
   ·show rows.length - (i+1)<rows.length - i;omega
   ·exact ⟨S,by omega,hi,key.symm⟩
  ·rw [if_neg (by assumption)] at key;all_goals (repeat' (first|refine qh rfl ?_|refine qi ?_|(refine qc 5 ?_;refine mv ?_;refine ad ?_;refine mv ?_;refine qf ?_)))
   refine ⟨(i+1,j),?_,?_,qy⟩
   ·show rows.length - (i+1)<rows.length - i;omega
   ·exact ⟨S,by omega,f2,key.symm⟩
 ·obtain rfl:i=rows.length:=by omega
  rw [zF8 (by simp)] at f3;rw [← f3] at hbest;all_goals (repeat' (first|(refine qc 8 ?_;refine mv ?_;refine lH S ?_;refine mv ?_)))
  (refine qx rfl rfl rfl rfl rfl ((hlen S j f2).mono ?_);rintro _ h ⟨rfl,x⟩)<;>(replace S:=S.join0 x;clear x;refine mv ?_;refine mv ?_;refine qf ?_)
  all_goals (repeat' (fail))
  refine qj ⟨_,rfl,?_⟩;subst hbest;exact ⟨(rows.getD j default).sv,rfl,(rrow j f2).ext w1 S.ext,(S00.join S).drop⟩
theorem qbo {h0:AH} (w:WfH h0) (pv:PbV) (p:Pb) (H:PbOk h0 pv p) (hP:PO p) (q:List Int) (hs5:(srv (zk p q)).length≤5) (vst:Value) (rst:qY h0 vst 1 eI (srv (zk p q))) :
 Fn Tryz.prog Xh 39 [pv.val,vst] h0 (fun u h'=>∃ n,u = .int .i64 n∧(∀ c,Prim (zG p.tabs) [-1] (srv (zk p q)) c→n=c)∧Hs h0 h' []):=by
 have S:=Hs.start w;have hv:=hP.tabs;have htl:=H.tab.len;have hsr:=vS (p:=p) (q:=q);have hnd:(srv (zk p q)).Nodup:=srv_inc.imp fun h=>by omega
 generalize srv (zk p q)=stops at *
 obtain ⟨V,hV⟩:∃ V:List Int,V = -1 :: stops:=⟨_,rfl⟩
 have nd:V.Nodup:=by
  rw [hV,List.nodup_cons];exact ⟨fun h=>by have:=hsr _ h;omega,hnd⟩
 have hVl:V.length=stops.length+1:=by rw [hV];rfl
 have hVb:∀ x∈V,-1≤x∧x<p.tabs.length:=fun x hx=>by
  rw [hV] at hx;rcases zE8.1 hx with rfl|h
  ·omega
  ·have:=hsr x h;omega
 have m:=Xb p.tabs;unfold PbV.val;refine qJ (by first|rfl) Tryz.func39 rfl rfl ?_;all_goals (repeat' (first|refine qg ?_|(refine qc 0 ?_;(refine bx S ?_;clear S;intro b h S);refine mv ?_;refine qf ?_)))
 obtain ⟨b2,hnm⟩:∃ x,x=b:=⟨_,rfl⟩;subst hnm;(repeat (refine qg ?_));refine qc 1 ?_;refine bsn (α:=Int) (z:=1) eI [-1] S ?_;clear S;intro u h S;(refine mv ?_);refine apd S rfl rfl (rst.ext w S.ext) ?_;clear S;intro v5 h S;(refine mv ?_;refine qf ?_);rw [show [-1] ++ stops=V from hV.symm] at S;all_goals (repeat' (first|refine qg ?_|refine qo ?_|(refine qc 2 ?_;refine mv ?_;refine qf ?_)|(refine qc 3 ?_;refine mv ?_;refine qf ?_)))
 replace S:Hs h0 h [.sl (.slice none 0 0) 3 1 eI [],.sl v5 3 1 eI V,.blk b2 pv.cs 28]:=S.nilS;refine qH (σ:=Nat×Value) (fun (i,vg) h'=>Hs h0 h' [.sl vg 3 1 eI (nI (List.range i)),.sl v5 3 1 eI V,.blk b2 pv.cs 28]∧i≤V.length) (fun (i,vg)=>V.length - i) (fun (i,vg)=>[(2,.pointer (some ⟨b2,0,none⟩)),(5,v5),(6,vg),(7,.int .i64 i)]) (0,.slice none 0 0) qy ?_ ?_
 ·exact ⟨S,zB0 _⟩
 clear S;rintro ⟨i,vg⟩ h ⟨S,g1⟩;have hrg:(nI (List.range i)).length≤1000:=by simp;omega
 all_goals (repeat' (first|refine qg ?_|refine qh rfl ?_|refine qi ?_|refine qB ?_|refine qo ?_|(refine qc 4 ?_;refine mv ?_;refine mv ?_;refine XP S rfl rfl ?_;(first|(refine cS ?_ ?_<;>intro hc))<;>(refine qf ?_))))
 ·have hi:i<V.length:=by omega
  all_goals (repeat' (first|(refine qc 6 ?_;refine mv ?_;refine mv ?_;(refine one 1 S ?_;clear S;intro u h S))))
  refine app (y0:=(i:Int)) S rfl rfl ?_;clear S;intro v h S;refine mv ?_;refine qf ?_;all_goals (repeat' (first|(refine qc 5 ?_;refine mv ?_;refine ad ?_;refine mv ?_;refine qf ?_)))
  refine ⟨(i+1,v),?_,?_,qy⟩
  ·show V.length - (i+1)<V.length - i;omega
  ·refine ⟨?_,by (try dsimp only);omega⟩;have:nI (List.range (i+1))=nI (List.range i) ++ [(i:Int)]:=by simp [List.range_succ]
   rw [this];exact S
 obtain rfl:i=V.length:=by omega
 obtain ⟨sg,rfl⟩:=S.sV vg;have hg0:∀ j,j<V.length→(nI (List.range V.length)).getD j default=(j:Int):=fun j hj=>by
  rw [zq (f:=fun w:Nat=>(w:Int)) (by simpa using hj),zA2,List.getElem?_range hj];rfl
 have K0:Kr (zG p.tabs) V 0 (fun _ _=>False) (fun _=>VF V (nI (List.range V.length))) (VF V (nI (List.range V.length))) 0:=Kr.start m fun x hx y hy e=>by
  obtain ⟨i,hi,rfl⟩:=qK.1 hx;obtain ⟨j,hj,rfl⟩:=qK.1 hy;rw [QE nd hi,QE nd hj,hg0 i hi,hg0 j hj] at e;obtain rfl:i=j:=by omega
  rfl
 have hnb:∀ {k:Nat} {P:Int→Int→Prop} {Gs:Nat→Int→Int} {G:Int→Int} {n:Int},Kr (zG p.tabs) V k P Gs G n→k≤4001→n≤24006:=fun {k} {P} {Gs} {G} {n} K hk=>by
  have h1:=K.bound;have h2:(V.length:Int)*(k:Int)≤6*4001:=Int.le_trans (Int.mul_le_mul_of_nonneg_right (show (V.length:Int)≤6 by omega) (by omega)) (Int.mul_le_mul_of_nonneg_left (show (k:Int)≤4001 by omega) (by omega));omega
 have hlg:(nI (List.range V.length)).length=V.length:=by simp
 generalize hgz:nI (List.range V.length)=grp0 at S K0 hlg
 all_goals (repeat' (first|refine qg ?_|refine qo ?_|(refine qc 7 ?_;refine mv ?_;refine qf ?_)|(refine qc 8 ?_;refine mv ?_;refine qf ?_)))
 refine qH (σ:=Nat×List Int×Int) (fun (k,grp,n) h'=>Hs h0 h' [.sl sg.val 3 1 eI grp,.sl v5 3 1 eI V,.blk b2 pv.cs 28]∧k≤4001∧grp.length=V.length∧0≤n∧∃ Gs,Kr (zG p.tabs) V k (fun _ _=>False) Gs (VF V grp) n) (fun (k,grp,n)=>4001 - k) (fun (k,grp,n)=>[(2,.pointer (some ⟨b2,0,none⟩)),(5,v5),(6,sg.val),(8,.int .i64 n),(9,.int .i64 k)]) (0,grp0,0) qy ?_ ?_
 ·exact ⟨S,by omega,hlg,Int.le_refl _,_,K0⟩
 clear S K0 hgz hlg hg0;rintro ⟨k,grp,n⟩ h ⟨S,f1,f2,f3,Gs,K⟩;all_goals (repeat' (first|refine qg ?_|refine qh rfl ?_|refine qi ?_|refine qB ?_|refine qo ?_|(refine qc 9 ?_;refine mv ?_;(first|(refine cS ?_ ?_<;>intro hc))<;>(refine qf ?_))))
 ·have hk:k≤4000:=by omega
  all_goals (repeat' (first|refine qo ?_|(refine qc 11 ?_;refine mv ?_;refine qf ?_)))
  refine qH (σ:=Nat×List Int×Int) (fun (a,grp,n) h'=>Hs h0 h' [.sl sg.val 3 1 eI grp,.sl v5 3 1 eI V,.blk b2 pv.cs 28]∧a≤V.length∧grp.length=V.length∧0≤n∧Kr (zG p.tabs) V k (Xz V a 0) Gs (VF V grp) n) (fun (a,grp,n)=>V.length - a) (fun (a,grp,n)=>[(2,.pointer (some ⟨b2,0,none⟩)),(5,v5),(6,sg.val),(8,.int .i64 n),(9,.int .i64 k),(10,.int .i64 a)]) (0,grp,n) qy ?_ ?_
  ·exact ⟨S,zB0 _,f2,f3,K.row0⟩
  clear S K f2 f3;rintro ⟨a,grp,n⟩ h ⟨S,f2,f3,f4,K⟩;all_goals (repeat' (first|refine qg ?_|refine qh rfl ?_|refine qi ?_|refine qB ?_|refine qo ?_|(refine qc 12 ?_;refine mv ?_;refine mv ?_;refine XP S rfl rfl ?_;(first|(refine cS ?_ ?_<;>intro hc))<;>(refine qf ?_))))
  ·have ha:a<V.length:=by omega
   all_goals (repeat' (first|refine qo ?_|(refine qc 14 ?_;refine mv ?_;refine qf ?_)))
   refine qH (σ:=Nat×List Int×Int) (fun (b,grp,n) h'=>Hs h0 h' [.sl sg.val 3 1 eI grp,.sl v5 3 1 eI V,.blk b2 pv.cs 28]∧b≤a∧grp.length=V.length∧0≤n∧Kr (zG p.tabs) V k (Xz V a b) Gs (VF V grp) n) (fun (b,grp,n)=>a - b) (fun (b,grp,n)=>[(2,.pointer (some ⟨b2,0,none⟩)),(5,v5),(6,sg.val),(8,.int .i64 n),(9,.int .i64 k),(10,.int .i64 a),(11,.int .i64 b)]) (0,grp,n) qy ?_ ?_
   ·exact ⟨S,zB0 _,f3,f4,K⟩
   clear S K f3 f4;rintro ⟨b,grp,n⟩ h ⟨S,f3,f4,f5,K⟩;have hn:=hnb K (by omega);all_goals (repeat' (first|refine qg ?_|refine qh rfl ?_|refine qi ?_|refine qB ?_|refine qo ?_|(refine qc 15 ?_;refine mv ?_;refine mv ?_;(first|(refine cS ?_ ?_<;>intro hc))<;>(refine qf ?_))))
   ·have hb:b<a:=by omega
    have ba:=hVb _ (qI ha);have bb:=hVb _ (qI (show b<V.length by omega));have ba' : -1≤V.getD (a:Int).toNat default∧V.getD (a:Int).toNat default<p.tabs.length:=ba;have bb' : -1≤V.getD (b:Int).toNat default∧V.getD (b:Int).toNat default<p.tabs.length:=bb;all_goals (repeat' (first|refine qh rfl ?_|refine qB ?_|(refine zx 17 ?_;refine mv ?_;refine mv ?_;refine QX S rfl rfl ?_;refine ZF S rfl rfl ?_;refine mv ?_;refine mv ?_;refine QX S rfl rfl ?_;refine ZF S rfl rfl ?_;(first|(refine cS ?_ ?_<;>intro hc))<;>(refine mv ?_;(first|refine off ?_|(refine lB S rfl rfl ?_));(first|refine off ?_|refine mv ?_);(first|refine off ?_|refine mv ?_);(first|refine off ?_|(refine QX S rfl rfl ?_));(first|refine off ?_|(refine ZF S rfl rfl ?_));(first|refine off ?_|refine mv ?_);(first|refine off ?_|refine mv ?_);(first|refine off ?_|(refine QX S rfl rfl ?_));(first|refine off ?_|(refine ZF S rfl rfl ?_));(first|(refine off ?_;refine off ?_;(refine off ?_)<;>(refine vl ?_;refine qf ?_))|skip)))))
    ·all_goals (repeat' (first|(refine qc 16 ?_;refine mv ?_;refine ad ?_;refine mv ?_;refine qf ?_)))
     refine ⟨(b+1,grp,n),?_,?_,qy⟩
     ·show a - (b+1)<a - b;omega
     ·exact ⟨S,by omega,f4,f5,K.step0 m nd ha hb (.inl (by assumption))⟩
    have hne:¬ grp.getD a default=grp.getD b default:=by assumption
    (refine qx rfl rfl rfl rfl rfl ((ZQ S.wf pv p (H.ext w S.ext) hv (V.getD (a:Int).toNat default) (V.getD (b:Int).toNat default) ba' bb').mono ?_);rintro _ h ⟨rfl,x⟩)<;>(replace S:=S.join0 x;clear x;refine mv ?_;(first|(first|(refine cS ?_ ?_<;>intro hc)))<;>(refine vl ?_;refine qf ?_))
    ·all_goals (repeat' (first|refine qh rfl ?_|refine qB ?_|(refine qc 16 ?_;refine mv ?_;refine ad ?_;refine mv ?_;refine qf ?_)))
     refine ⟨(b+1,grp,n),?_,?_,qy⟩
     ·show a - (b+1)<a - b;omega
     ·exact ⟨S,by omega,f4,f5,K.step0 m nd ha hb (.inr (by assumption))⟩
    have hd:zG p.tabs (V.getD a default) (V.getD b default)=k:=zF3.1 (by assumption);all_goals (repeat' (first|refine qg ?_|refine qh rfl ?_|refine qi ?_|refine qo ?_|(refine qc 18 ?_;refine mv ?_;refine mv ?_;refine ad ?_;refine mv ?_;refine qf ?_)|(refine qc 19 ?_;refine mv ?_;refine mv ?_;refine QX S rfl rfl ?_;refine ZF S rfl rfl ?_;refine mv ?_;refine qf ?_)|(refine qc 20 ?_;refine mv ?_;refine qf ?_)))
    refine qH (σ:=Nat×List Int) (fun (i,grq) h'=>Hs h0 h' [.sl sg.val 3 1 eI grq,.sl v5 3 1 eI V,.blk b2 pv.cs 28]∧i≤V.length∧grq.length=V.length∧(∀ j,j<V.length→grq.getD j default=if j<i∧grp.getD j default=grp.getD a default then grp.getD b default else grp.getD j default)) (fun (i,grq)=>V.length - i) (fun (i,grq)=>[(2,.pointer (some ⟨b2,0,none⟩)),(5,v5),(6,sg.val),(8,.int .i64 (n+k)),(9,.int .i64 k),(10,.int .i64 a),(11,.int .i64 b),(12,.int .i64 (grp.getD a default)),(13,.int .i64 i)]) (0,grp) qy ?_ ?_
    ·exact ⟨S,zB0 _,f4,fun j hj=>by rw [if_neg (fun q=>zB7 _ q.1)]⟩
    clear S;rintro ⟨i,grq⟩ h ⟨S,e1,e2,e3⟩;all_goals (repeat' (first|refine qg ?_|refine qh rfl ?_|refine qi ?_|refine qB ?_|refine qo ?_|(refine qc 21 ?_;refine mv ?_;refine mv ?_;refine XP S rfl rfl ?_;(first|(refine cS ?_ ?_<;>intro hc))<;>(refine qf ?_))))
    ·have hi:i<V.length:=by omega
     have hgi:=e3 i hi;rw [if_neg (fun q=>Nat.lt_irrefl _ q.1)] at hgi;have hgb:=e3 b (by omega);rw [if_neg (fun q=>hne q.2.symm)] at hgb;have hgi':grq.getD (i:Int).toNat default=grp.getD i default:=hgi;have hgb':grq.getD (b:Int).toNat default=grp.getD b default:=hgb;all_goals (repeat' (first|refine qh rfl ?_|refine qi ?_|(refine qc 23 ?_;refine mv ?_;refine mv ?_;refine QX S rfl rfl ?_;refine ZF S rfl rfl ?_;refine mv ?_;(first|(refine cS ?_ ?_<;>intro hc))<;>(refine qf ?_))))
     ·have hq:grp.getD i default=grp.getD a default:=hgi'.symm.trans (by assumption);all_goals (repeat' (first|(refine qc 22 ?_;refine mv ?_;refine ad ?_;refine mv ?_;refine qf ?_)|(refine qc 24 ?_;(iterate 4 refine mv ?_);refine QX S rfl rfl ?_;refine ZF S rfl rfl ?_;refine QX S rfl rfl ?_;(first|(refine sE2 S rfl rfl ?_;clear S;intro h S));refine qf ?_)))
      refine ⟨(i+1,grq.set i (grp.getD b default)),?_,?_,qy⟩
      ·show V.length - (i+1)<V.length - i;omega
      ·refine ⟨by rw [hgb'] at S;exact S,by omega,by rw [zF5];exact e2,fun j hj=>?_⟩;rw [qax (by omega)];by_cases e:i=j
       ·subst e;rw [if_pos rfl,if_pos ⟨by omega,hq⟩]
       ·rw [if_neg e,e3 j hj];by_cases e':j<i∧grp.getD j default=grp.getD a default
        ·rw [if_pos e',if_pos ⟨by omega,e'.2⟩]
        ·rw [if_neg e',if_neg (fun q=>e' ⟨by omega,q.2⟩)]
     ·have hq:¬ grp.getD i default=grp.getD a default:=fun q=>(by assumption:¬ grq.getD (i:Int).toNat default=grp.getD a default) (hgi'.trans q)
      all_goals (repeat' (first|(refine qc 22 ?_;refine mv ?_;refine ad ?_;refine mv ?_;refine qf ?_)))
      refine ⟨(i+1,grq),?_,?_,qy⟩
      ·show V.length - (i+1)<V.length - i;omega
      ·refine ⟨S,by omega,e2,fun j hj=>?_⟩;rw [e3 j hj];by_cases e':j<i∧grp.getD j default=grp.getD a default
       ·rw [if_pos e',if_pos ⟨by omega,e'.2⟩]
       ·rw [if_neg e',if_neg (fun q=>e' ⟨by
         rcases zA7 j i with r|r
         ·exact r
         ·obtain rfl:j=i:=by omega
          exact absurd q.2 hq,q.2⟩)]
    ·obtain rfl:i=V.length:=by omega
     all_goals (repeat' (first|(refine qc 16 ?_;refine mv ?_;refine ad ?_;refine mv ?_;refine qf ?_)))
     refine ⟨(b+1,grq,n+k),?_,?_,qy⟩
     ·show a - (b+1)<a - b;omega
     ·exact ⟨S,by omega,e2,by omega,K.step1 m nd ha hb hne hd fun j hj=>by
       rw [e3 j hj];by_cases e':grp.getD j default=grp.getD a default
       ·rw [if_pos ⟨hj,e'⟩,if_pos e']
       ·rw [if_neg (fun q=>e' q.2),if_neg e']⟩
   ·obtain rfl:b=a:=by omega
    all_goals (repeat' (first|(refine qc 13 ?_;refine mv ?_;refine ad ?_;refine mv ?_;refine qf ?_)))
    refine ⟨(b+1,grp,n),?_,?_,qy⟩
    ·show V.length - (b+1)<V.length - b;omega
    ·exact ⟨S,by omega,f4,f5,K.row⟩
  ·obtain rfl:a=V.length:=by omega
   all_goals (repeat' (first|(refine qc 10 ?_;refine mv ?_;refine ad ?_;refine mv ?_;refine qf ?_)))
   refine ⟨(k+1,grp,n),?_,?_,qy⟩
   ·show 4001 - (k+1)<4001 - k;omega
   ·exact ⟨S,by omega,f3,f4,K.rows⟩
 ·obtain rfl:k=4001:=by omega
  all_goals (repeat' (first|(refine qc 25 ?_;refine mv ?_;refine mv ?_;refine qf ?_)))
  refine qj ⟨_,rfl,?_⟩;exact ⟨n,rfl,fun c hc=>K.prim m hV nd (fun x hx y hy=>by
   have:=(Zl hv (hVb x hx).2 (hVb y hy).2).2;omega) hc,S.drop⟩
end Go.Proofs.Xx
namespace Go.Proofs.Xx
open Go Go.Proofs
theorem qdi {l m:List Tab} (h:l.map (·.toC)=m.map (·.toC)) {us:List Gu} {ts:List Ti} {cl:List Int} {ru:List Ru} {q:List Int}:Qo ⟨l,us,ts,cl,ru⟩ q=Qo ⟨m,us,ts,cl,ru⟩ q:=by
 unfold Qo;rw [qbr h];show (jR _ _ _).foldl (Qr (tour (zG l))) _=_
 rw [qdC h]
theorem qaF {p:Pb} {q:List Int} (hs:(srv (zk p q)).Nodup) {r:List Int} {n:Int} (h:(r,n)=Qo p q):r.length=(srv (zk p q)).length:=by
 have h1:=xI (srv (zk p q)) (srv (zk p q)).length [] (srv (zk p q)) rfl (by simpa using hs) fun x hx=>hx;obtain ⟨hne,hb⟩:=yZ hs (L:=Qs (srv (zk p q)) (srv (zk p q)).length) rfl;rw [← h] at hb;have hr:=(Prod.mk.inj hb).1;have key:∀ (l:List (List Int)) (b:List Int),Jk (tour (zG p.tabs)) b l=b∨Jk (tour (zG p.tabs)) b l∈l:=by
  intro l;induction l with
  | nil=>intro b;exact .inl rfl
  | cons c l ih =>
   intro b;have e:Jk (tour (zG p.tabs)) b (c :: l)=Jk (tour (zG p.tabs)) (if tour (zG p.tabs) c<tour (zG p.tabs) b then c else b) l:=rfl;rw [e];rcases ih (if tour (zG p.tabs) c<tour (zG p.tabs) b then c else b) with k|k
   ·rw [k];by_cases q:tour (zG p.tabs) c<tour (zG p.tabs) b
    ·rw [if_pos q];exact .inr (by simp)
    ·rw [if_neg q];exact .inl rfl
   ·exact .inr (List.mem_cons_of_mem _ k)
 have hm:r∈Qs (srv (zk p q)) (srv (zk p q)).length:=by
  rcases key (Qs (srv (zk p q)) (srv (zk p q)).length) ((Qs (srv (zk p q)) (srv (zk p q)).length).getD 0 default) with k|k
  ·rw [hr,k];exact qI hne
  ·rw [hr];exact k
 exact ((ZW (zA3 _) _).2 r hm).1
def WtS (p:Pb) (a c:Int) (way:List Int) (e4 st:Int) (is:Bool) (len f:Int):Prop :=
 (¬ PO p∧st=0∧is=false∧len=0∧f=e4)∨(PO p∧(((-1≤a∧-1≤c∧a<p.tabs.length∧c<p.tabs.length)∧st=zG p.tabs a c∧is=true)∨(¬ (-1≤a∧-1≤c∧a<p.tabs.length∧c<p.tabs.length)∧st=0∧is=false)) ∧
  (((∀ t∈way,0≤t∧t<p.tabs.length)∧f=0∧len=tour (zG p.tabs) way)∨(¬ (∀ t∈way,0≤t∧t<p.tabs.length)∧f=2∧len=0)))
def WtR (p:Pb) (q:List Int) (route:List Int) (span best:Int):Prop :=
 (¬ (PO p∧PartOk p q)∧route=[]∧span=0∧best=0)∨(PO p∧PartOk p q∧(route,best)=Qo p q∧∀ c,Prim (zG p.tabs) [-1] (srv (zk p q)) c→span=c)
variable [Flag]
theorem qaS {h:AH} (w:WfH h) (pv:PbV) (p:Pb) (rt:qY h pv.vt.val 7 eT p.tabs) (b:Nat) (hb:h.get b=some (.cells pv.cs 28 none false)) (x:Int) :
 Fn Tryz.prog Xh 36 [.int .i64 x,.pointer (some ⟨b,0,none⟩)] h (fun u h'=>qL u (x<0∨(p.tabs.length:Int)≤x)∧Hs h h' []):=by
 have S:=Hs.start w;refine qJ (by first|rfl) Tryz.func36 rfl rfl ?_;all_goals (repeat' (first|refine qg ?_|(refine qc 0 ?_;refine mv ?_;refine qf ?_)|(refine qc 1 ?_;refine mv ?_;(first|(refine cS ?_ ?_<;>intro hc))<;>(refine mv ?_;(first|refine off ?_|refine mv ?_);(first|refine off ?_|(refine vl ?_));(first|refine off ?_|(refine lH S ?_));(first|refine off ?_|(refine zC S ?_));(first|refine off ?_|(first|(refine cS ?_ ?_<;>intro hc)))<;>(refine vl ?_;refine mv ?_;refine qf ?_)))))
 all_goals (refine qj ⟨_,rfl,?_⟩)
 all_goals (refine ⟨?_,S⟩;unfold qL)
 all_goals first|exact .inl ⟨rfl,by omega⟩|exact .inr ⟨rfl,by omega⟩
theorem qbG {h0:AH} (w:WfH h0) (pv:PbV) (p:Pb) (Z:PbZ h0 pv p) (F5:p.tabs.length≤5) (F:Gh p 20) (vq:Value) (q:List Int) (rq:qY h0 vq 1 eI q) (hq:q.length≤30) (vy:Value) (way:List Int) (ry:qY h0 vy 1 eI way) (hy:way.length≤30) (a c:Int) :
 Fn Tryz.prog Xh 9 [pv.val,vq,vy,.int .i64 a,.int .i64 c] h0 (fun u h'=>u = .bool true∧Hs h0 h' []):=by
 have S:=Hs.start w;unfold PbV.val;refine qJ (by first|rfl) Tryz.func9 rfl rfl ?_;all_goals (repeat' (first|refine qg ?_|(refine qc 0 ?_;(refine bx S ?_;clear S;intro b h S);refine mv ?_;refine qf ?_)))
 obtain ⟨b3,hnm⟩:∃ x,x=b:=⟨_,rfl⟩;subst hnm;all_goals (repeat' (first|(refine qc 1 ?_;refine lB S rfl rfl ?_)))
 (refine qx rfl rfl rfl rfl rfl ((qem S.wf pv p ((Z.ext w S.ext).fit F)).mono ?_);rintro _ h ⟨v',tabs,rfl,et,eu,x⟩)<;>(replace S:=S.join x;clear x;refine mv ?_)
 (refine qx rfl rfl rfl rfl rfl ((Y1 S.wf vq q (rq.ext w S.ext) (by omega)).mono ?_);rintro vl_ h x)<;>(replace S:=S.join1 x;clear x;refine mv ?_)
 (refine qx rfl rfl rfl rfl rfl ((Y1 S.wf vy way (ry.ext w S.ext) (by omega)).mono ?_);rintro vy_ h x)<;>(replace S:=S.join1 x;clear x;(refine al S ?_;clear S;intro b h S);(first|(refine sB S rfl rfl ?_;clear S;intro h S));refine mv ?_;refine mv ?_;refine qf ?_)
 all_goals (repeat' (refine qg ?_))
 replace S:Hs h0 h [.blk b v'.cs 28,.sl vy_ 3 1 eI way,.sl vl_ 3 1 eI q,.sl v'.vt.val 95 7 eT tabs,Qh VB tabs,.sl v'.vg.val 98 9 eG v'.gs,tgO v'.gs,.sl v'.vi.val 137 3 jY p.ts,.sl v'.vc.val 3 1 eI p.cl,.sl v'.vr.val 125 6 JW p.ru,.blk b3 pv.cs 28]:=S;have w1:=S.wf;have g3:=Hs.gB (b:=b3) S;have g7:=Hs.gB (b:=b) S;have rl:=Rd.of_sl S (.there (.there .here));have rz:=Rd.of_sl S (.there .here);have HC:=qd2 (rs:=[.blk b3 pv.cs 28]) (show Hs h0 h (pbL v' (p.wt tabs) ++ [.blk b3 pv.cs 28]) from S.tail.tail.tail) et eu Z F;have HO:=(Z.ext w S.ext).ok F;have MO:=Z.m F;have rq2:=rq.ext w S.ext;have ry2:=ry.ext w S.ext;have S00:=S;clear S;have S:=Hs.start w1;obtain ⟨hB,hnm⟩:∃ x,x=h:=⟨_,rfl⟩;subst hnm;have hlen:=Ze et;have hPO:PO (p.wt tabs)↔PO p:=qfF et;have hPA:PartOk (p.wt tabs) q↔PartOk p q:=qd3 et;have hPL:zk (p.wt tabs) q=zk p q:=qbr et;have hST:zG tabs=zG p.tabs:=qdC et;have hBW:Qo (p.wt tabs) q=Qo p q:=qdi et;have rt:=HO.tab.rd;have htl:=HO.tab.len;all_goals (repeat' (first|refine qg ?_|(refine qc 2 ?_;refine mv ?_;refine mv ?_;refine qf ?_)|(refine qc 3 ?_;(iterate 3 refine mv ?_);refine qf ?_)|(refine qc 4 ?_;refine mv ?_;refine qf ?_)|(refine qc 5 ?_;refine lH S ?_;refine mv ?_)))
 (refine qx rfl rfl rfl rfl rfl ((qbW S.wf pv p HO MO vq q rq2 (by omega)).mono ?_);rintro _ h ⟨i,e,rfl,hk,x⟩)<;>(replace S:=S.join0 x;clear x;refine mv ?_;refine qf ?_)
 have hpo:=hk.part;have hsl:=vP (pl:=zk p q);rw [ZR] at hsl;all_goals (repeat' (first|refine qg ?_|(refine qc 6 ?_;refine lH S ?_)))
 (refine qx rfl rfl rfl rfl rfl ((Wu S.wf pv p (HO.ext w1 S.ext) MO).mono ?_);rintro _ h ⟨i4,e4,rfl,hk4,x⟩)<;>(replace S:=S.join0 x;clear x;refine mv ?_;refine vl ?_;refine vl ?_;refine mv ?_;refine mv ?_;refine qf ?_)
 have hpo4:=hk4.po;all_goals (repeat' (first|refine qg ?_|(refine qc 7 ?_;refine mv ?_;refine mv ?_;refine qf ?_)))
 (repeat (refine qg ?_));first|refine zB (σ:=Int×Bool×Int×Int) (fun (st,is,len,f) h'=>Hs hB h' []∧WtS p a c way e4 st is len f) (fun (st,is,len,f)=>[(1,vq),(2,vy),(3,.int .i64 a),(4,.int .i64 c),(5,.pointer (some ⟨b3,0,none⟩)),(11,.pointer (some ⟨b,0,none⟩)),(12,vl_),(13,vy_),(14,.int .i64 st),(15,.bool is),(16,.int .i64 len),(17,.int .i64 0),(18,.int .i64 0),(19,.slice none 0 0),(20,.int .i64 e),(23,.int .i64 f)]) ?_ ?_
 ·all_goals (repeat' (first|refine qg ?_|refine qh rfl ?_|refine qi ?_|(refine qc 8 ?_;refine mv ?_;(first|(refine cS ?_ ?_<;>intro hc))<;>(refine qf ?_))))
  ·have hP:PO p:=hpo4.1 (by assumption);(repeat (refine qg ?_));first|refine zB (σ:=Int×Bool) (fun (st,is) h'=>Hs hB h' []∧(((-1≤a∧-1≤c∧a<p.tabs.length∧c<p.tabs.length)∧st=zG p.tabs a c∧is=true)∨(¬ (-1≤a∧-1≤c∧a<p.tabs.length∧c<p.tabs.length)∧st=0∧is=false))) (fun (st,is)=>[(1,vq),(2,vy),(3,.int .i64 a),(4,.int .i64 c),(5,.pointer (some ⟨b3,0,none⟩)),(11,.pointer (some ⟨b,0,none⟩)),(12,vl_),(13,vy_),(14,.int .i64 st),(15,.bool is),(16,.int .i64 0),(17,.int .i64 0),(18,.int .i64 0),(19,.slice none 0 0),(20,.int .i64 e)]) ?_ ?_
   ·all_goals (repeat' (first|refine qh rfl ?_|refine qi ?_|(refine qc 9 ?_;refine mv ?_;(first|(refine cS ?_ ?_<;>intro hc))<;>(refine mv ?_;(first|refine off ?_|refine mv ?_);(first|refine off ?_|(first|(refine cS ?_ ?_<;>intro hc)))<;>(refine vl ?_;refine mv ?_;(first|refine off ?_|refine mv ?_);(first|refine off ?_|(refine vl ?_));(first|refine off ?_|(refine lH S ?_));(first|refine off ?_|(refine zC S ?_));(first|refine off ?_|(first|(refine cS ?_ ?_<;>intro hc)))<;>(refine vl ?_;refine mv ?_;(first|refine off ?_|refine mv ?_);(first|refine off ?_|(refine vl ?_));(first|refine off ?_|(refine lH S ?_));(first|refine off ?_|(refine zC S ?_));(first|refine off ?_|(first|(refine cS ?_ ?_<;>intro hc)))<;>(refine vl ?_;refine qf ?_)))))))
    all_goals first
     | exact ⟨(0,false),⟨S,.inr ⟨by omega,rfl,rfl⟩⟩,(qy)⟩
     | skip
    all_goals (repeat' (first|(refine qc 10 ?_;refine lH S ?_;refine mv ?_;refine mv ?_)))
    (refine qx rfl rfl rfl rfl rfl ((ZQ S.wf pv p (HO.ext w1 S.ext) hP.tabs a c (by omega) (by omega)).mono ?_);rintro _ h ⟨rfl,x⟩)<;>(replace S:=S.join0 x;clear x;refine mv ?_;refine mv ?_;refine qf ?_)
    all_goals (repeat' (fail))
    exact ⟨(zG p.tabs a c,true),⟨S,.inl ⟨by omega,rfl,rfl⟩⟩,(qy)⟩
   clear S;rintro ⟨st,is⟩ h ⟨S,hst⟩;all_goals (repeat' (first|refine qg ?_|(refine qc 11 ?_;refine mv ?_;refine qf ?_)|(refine qc 12 ?_;refine mv ?_;refine vl ?_)))
   have hF:∀ h2 i,Ext h h2→i<way.length→(∀ j,j<i→¬ (way.getD j default<0∨(p.tabs.length:Int)≤way.getD j default))→Fn Tryz.prog Xh 36 (.int .i64 (way.getD i default) :: [.pointer (some ⟨b3,0,none⟩)]) h2 (fun r h'=>qL r (way.getD i default<0∨(p.tabs.length:Int)≤way.getD i default)∧Hs h2 h' []):=fun h2 i x _ _ =>
    qaS x.wf pv p ((rt.ext w1 S.ext).ext S.wf x) b3 (x.get S.wf (S.ext.get w1 g3)) _
   (refine qx rfl rfl rfl rfl rfl ((xZ S.wf vy way (ry2.ext w1 S.ext) (by omega) (36,#[.pointer (some ⟨b3,0,none⟩)]) (fun x=>x<0∨(p.tabs.length:Int)≤x) hF).mono ?_);rintro _ h ⟨⟨rfl,z⟩|⟨rfl,z⟩,x⟩)<;>(replace S:=S.join0 x;clear x;refine vl ?_;refine qf ?_)
   ·all_goals (repeat' (first|refine qh rfl ?_|refine qi ?_))
    obtain ⟨i,hi,z⟩:=z;exact ⟨(st,is,0,2),⟨S,.inr ⟨hP,hst,.inr ⟨fun k=>by have:=k _ (qI hi);omega,rfl,rfl⟩⟩⟩,(qy)⟩
   ·have hall:∀ t∈way,0≤t∧t<p.tabs.length:=fun t ht=>by
     obtain ⟨j,hj,rfl⟩:=qK.1 ht;by_cases k:way.getD j default<0∨(p.tabs.length:Int)≤way.getD j default
     ·exact absurd ⟨j,hj,k⟩ z
     ·omega
    all_goals (repeat' (first|refine qh rfl ?_|(refine qc 13 ?_;refine lH S ?_;refine mv ?_)))
    (refine qx rfl rfl rfl rfl rfl ((Ws S.wf pv p (HO.ext w1 S.ext) hP.tabs vy way (ry2.ext w1 S.ext) (by omega) hall).mono ?_);rintro _ h ⟨rfl,x⟩)<;>(replace S:=S.join0 x;clear x;refine mv ?_;refine mv ?_;refine qf ?_)
    all_goals (repeat' (fail))
    exact ⟨(st,is,tour (zG p.tabs) way,0),⟨S,.inr ⟨hP,hst,.inl ⟨hall,rfl,rfl⟩⟩⟩,(qy)⟩
  ·have hne:¬ e4=0:=by assumption
   exact ⟨(0,false,0,e4),⟨S,.inl ⟨fun z=>hne (hpo4.2 z),rfl,rfl,rfl,rfl⟩⟩,(qy)⟩
 clear S;rintro ⟨st,is,len,f⟩ h ⟨S,hW⟩;(repeat (refine qg ?_));first|refine zB (σ:=SlV×List Int×Int×Int) (fun (vr,route,span,best) h'=>Hs hB h' []∧qY h' vr.val 1 eI route∧WtR p q route span best) (fun (vr,route,span,best)=>[(1,vq),(2,vy),(3,.int .i64 a),(4,.int .i64 c),(5,.pointer (some ⟨b3,0,none⟩)),(11,.pointer (some ⟨b,0,none⟩)),(12,vl_),(13,vy_),(14,.int .i64 st),(15,.bool is),(16,.int .i64 len),(17,.int .i64 span),(18,.int .i64 best),(19,vr.val),(20,.int .i64 e),(23,.int .i64 f)]) ?_ ?_
 ·all_goals (repeat' (first|refine qg ?_|refine qh rfl ?_|refine qi ?_|(refine qc 14 ?_;refine mv ?_;(first|(refine cS ?_ ?_<;>intro hc))<;>(refine qf ?_))))
  ·obtain ⟨hP,hQ⟩:=hpo.1 (by assumption);have hql:=hQ.ql hP;have hqb:=hQ.qb HO.tab.len;all_goals (repeat' (first|(refine qc 15 ?_;refine lH S ?_;refine mv ?_)))
   (refine qx rfl rfl rfl rfl rfl ((GY S.wf pv p (HO.ext w1 S.ext) hP.tabs vq q (rq2.ext w1 S.ext) (by omega) hqb).mono ?_);rintro vst h x)<;>(replace S:=S.join1 x;clear x;refine mv ?_;refine qf ?_)
   all_goals (repeat' (first|refine qg ?_|(refine qc 16 ?_;refine lH S ?_;refine mv ?_)))
   (refine qx rfl rfl rfl rfl rfl ((qbo S.wf pv p (HO.ext w1 S.ext) hP q (by omega) vst (Rd.of_sl S .here)).mono ?_);rintro _ h ⟨span,rfl,hsp,x⟩)<;>(replace S:=S.join0 x;clear x;refine mv ?_;refine qf ?_)
   all_goals (repeat' (first|refine qg ?_|refine qh rfl ?_|refine qi ?_|(refine qc 17 ?_;refine mv ?_;refine XP S rfl rfl ?_;(refine cF ?_)<;>(refine qf ?_))|(refine qc 19 ?_;refine lH S ?_;refine mv ?_)))
   (refine qx rfl rfl rfl rfl rfl ((qak S.wf pv p (HO.ext w1 S.ext) hP q hQ (by omega) vst (Rd.of_sl S .here)).mono ?_);rintro _ h ⟨vr,rfl,rr,x⟩)<;>(replace S:=S.join0 x;clear x;refine mv ?_;refine vl ?_;refine vl ?_;refine mv ?_;refine mv ?_;refine qf ?_)
   all_goals (repeat' (fail))
   exact ⟨(vr,(Qo p q).1,span,(Qo p q).2),⟨S.drop,rr,.inr ⟨hP,hQ,rfl,hsp⟩⟩,(qy)⟩
  ·have hne:¬ e=0:=by assumption
   exact ⟨(⟨none,0,0⟩,[],0,0),⟨S,Rd.none_ _ 1,.inl ⟨fun z=>hne (hpo.2 z),rfl,rfl,rfl⟩⟩,(qy)⟩
 clear S;rintro ⟨vr,route,span,best⟩ h ⟨S,rr,hR⟩;have w3:=S.wf;have S01:=S;clear S;have HC3:=HC.ext w1 S01.ext;have HO3:=HO.ext w1 S01.ext;have rl3:=rl.ext w1 S01.ext;have rz3:=rz.ext w1 S01.ext;have rq3:=rq2.ext w1 S01.ext;have ry3:=ry2.ext w1 S01.ext;have g33:=S01.ext.get w1 g3;have g73:=S01.ext.get w1 g7;have S:=Hs.start w3;obtain ⟨hD,hnm⟩:∃ x,x=h:=⟨_,rfl⟩;subst hnm;have hS1:∀ h2,Hs hD h2 []→Fn Tryz.prog Xh 41 [v'.val,.int .i64 a,.int .i64 c] h2 (fun u h'=>u = .tuple #[.int .i64 st,.bool is]∧Hs h2 h' []):=fun h2 S2=>by
  refine (qcp S2.wf v' (p.wt tabs) (HC3.ext w3 S2.ext) a c).mono ?_;rintro u h' ⟨hh,x⟩;refine ⟨?_,x⟩;rw [hPO,hlen] at hh;have e1:zG (p.wt tabs).tabs a c=zG p.tabs a c:=by rw [show (p.wt tabs).tabs=tabs from rfl,hST]
  rw [e1] at hh;rcases hW with ⟨z1,rfl,rfl,-,-⟩|⟨z1,z2,-⟩
  ·rcases hh with ⟨y1,-⟩|⟨-,rfl⟩
   ·exact absurd y1 z1
   ·rfl
  ·rcases z2 with ⟨z2,rfl,rfl⟩|⟨z2,rfl,rfl⟩
   ·rcases hh with ⟨-,-,-,-,-,rfl⟩|⟨y1,-⟩
    ·rfl
    ·exact absurd ⟨z1,z2⟩ y1
   ·rcases hh with ⟨-,y1,y2,y3,y4,-⟩|⟨-,rfl⟩
    ·exact absurd ⟨y1,y2,y3,y4⟩ z2
    ·rfl
 have hS2:∀ h2,Hs hD h2 []→Fn Tryz.prog Xh 42 [v'.val,vy_] h2 (fun u h'=>u = .tuple #[.int .i64 len,.int .i64 f]∧Hs h2 h' []):=fun h2 S2=>by
  refine (qaJ S2.wf v' (p.wt tabs) (HC3.ext w3 S2.ext) vy_ way (rz3.ext w3 S2.ext) (by omega)).mono ?_;rintro u h' ⟨hh,x⟩;refine ⟨?_,x⟩;rw [hPO,hlen] at hh;have e1:tour (zG (p.wt tabs).tabs) way=tour (zG p.tabs) way:=by rw [show (p.wt tabs).tabs=tabs from rfl,hST]
  rw [e1] at hh;rcases hW with ⟨z1,-,-,rfl,rfl⟩|⟨z1,-,z2⟩
  ·rcases hh with ⟨-,i5,e5,-,y2,rfl⟩|⟨y1,-⟩
   ·rw [((qdK et).1 y2).uniq hk4]
   ·exact absurd y1 z1
  ·rcases hh with ⟨y1,-⟩|⟨-,y2⟩
   ·exact absurd z1 y1
   rcases z2 with ⟨z2,rfl,rfl⟩|⟨z2,rfl,rfl⟩
   ·rcases y2 with ⟨y1,-⟩|⟨-,rfl⟩
    ·exact absurd z2 y1
    ·rfl
   ·rcases y2 with ⟨-,rfl⟩|⟨y1,-⟩
    ·rfl
    ·exact absurd y1 z2
 have hS3:∀ h2,Hs hD h2 []→Fn Tryz.prog Xh 24 [v'.val,vl_] h2 (fun u h'=>∃ vw:SlV,u = .tuple #[vw.val,.int .i64 best,.int .i64 e]∧qY h' vw.val 1 eI route∧Hs h2 h' []):=fun h2 S2=>by
  refine (qbi S2.wf v' (p.wt tabs) (HC3.ext w3 S2.ext) vl_ q (rl3.ext w3 S2.ext) (by omega)).mono ?_;rintro u h' ⟨⟨vw,way',n',e',rfl,rw',hh⟩,x⟩;rw [hPO,hPA,hPL,hBW] at hh;have key:way'=route∧n'=best∧e'=e:=by
   rcases hR with ⟨z1,rfl,-,rfl⟩|⟨z1,z2,z3,-⟩
   ·rcases hh with ⟨-,⟨i5,y2⟩,rfl,rfl⟩|⟨y1,y2,-⟩|⟨y1,y2,-⟩
    ·exact ⟨rfl,rfl,((qe4 et).1 y2).uniq hk⟩
    ·exact absurd ⟨y1,y2⟩ z1
    ·exact absurd ⟨y1,y2⟩ z1
   ·rcases hh with ⟨y1,-⟩|⟨-,-,y1,-⟩|⟨-,-,-,rfl,y4⟩
    ·exact absurd ⟨z1,z2⟩ y1
    ·omega
    ·rw [← z3] at y4;exact ⟨(Prod.mk.inj y4).1,(Prod.mk.inj y4).2,(hpo.2 ⟨z1,z2⟩).symm⟩
  obtain ⟨rfl,rfl,rfl⟩:=key;exact ⟨vw,rfl,rw',x⟩
 have hS4:∀ h2,Hs hD h2 []→Fn Tryz.prog Xh 27 [v'.val,vl_] h2 (fun u h'=>u = .int .i64 span∧Hs h2 h' []):=fun h2 S2=>by
  refine (qcI S2.wf v' (p.wt tabs) (HC3.ext w3 S2.ext) vl_ q (rl3.ext w3 S2.ext) (by omega)).mono ?_;rintro u h' ⟨n',rfl,hh,x⟩;refine ⟨?_,x⟩;rw [hPO,hPA,hPL] at hh;have e1:zG (p.wt tabs).tabs=zG p.tabs:=hST;rw [e1] at hh;rcases hR with ⟨z1,-,rfl,-⟩|⟨z1,z2,-,z4⟩
  ·rcases hh with ⟨-,rfl⟩|⟨y1,y2,-⟩
   ·rfl
   ·exact absurd ⟨y1,y2⟩ z1
  ·rcases hh with ⟨y1,-⟩|⟨-,-,y3⟩
   ·exact absurd ⟨z1,z2⟩ y1
   ·rw [z4 _ y3]
 have hrl:route.length≤1000:=by
  rcases hR with ⟨-,rfl,-⟩|⟨z1,z2,z3,-⟩
  ·simp
  ·have hnd:(srv (zk p q)).Nodup:=srv_inc.imp fun h=>by omega
   have hb:=qaF hnd z3;omega
 all_goals (repeat' (first|refine qg ?_|(refine qc 20 ?_;refine lH S ?_;refine mv ?_;refine mv ?_)))
 (refine qx rfl rfl rfl rfl rfl ((hS1 _ S).mono ?_);rintro _ h ⟨rfl,x⟩)<;>(replace S:=S.join0 x;clear x;refine mv ?_;refine vl ?_;refine vl ?_;refine mv ?_;refine mv ?_;refine qf ?_)
 all_goals (repeat' (first|refine qg ?_|(refine qc 21 ?_;refine lH S ?_;refine mv ?_)))
 (refine qx rfl rfl rfl rfl rfl ((hS2 _ S).mono ?_);rintro _ h ⟨rfl,x⟩)<;>(replace S:=S.join0 x;clear x;refine mv ?_;refine vl ?_;refine vl ?_;refine mv ?_;refine mv ?_;refine qf ?_)
 all_goals (repeat' (first|refine qg ?_|(refine qc 22 ?_;refine lH S ?_;refine mv ?_)))
 (refine qx rfl rfl rfl rfl rfl ((hS3 _ S).mono ?_);rintro _ h ⟨vw,rfl,rw',x⟩)<;>(replace S:=S.join0 x;clear x;refine mv ?_;refine vl ?_;refine vl ?_;refine vl ?_;(iterate 3 refine mv ?_);refine qf ?_)
 cases is
 all_goals (all_goals (repeat' (first|refine qg ?_|(refine qc 23 ?_;refine mv ?_;refine mv ?_;(refine cT ?_)<;>((iterate 3 refine mv ?_);(first|(refine bT ?_));refine vl ?_;(iterate 3 refine mv ?_);(first|(refine cT ?_))<;>(refine vl ?_;(iterate 3 refine mv ?_);(first|(refine cT ?_))<;>(refine vl ?_;(iterate 3 refine mv ?_);(skip))))))))
 all_goals ((refine qx rfl rfl rfl rfl rfl ((YY S.wf vw.val vr.val route route rw' (rr.ext w3 S.ext) (by omega)).mono ?_);rintro _ h ⟨⟨rfl,z⟩|⟨rfl,z⟩,x⟩)<;>(replace S:=S.join0 x;clear x;refine vl ?_;refine mv ?_;(first|refine off ?_|refine mv ?_);(first|refine off ?_|refine mv ?_);(first|refine off ?_|(refine cT ?_))<;>(refine vl ?_;refine mv ?_;(first|refine off ?_|refine mv ?_);(first|refine off ?_|refine mv ?_);(first|refine off ?_|(refine cT ?_))<;>(refine vl ?_;refine mv ?_;(first|refine off ?_|(refine lH S ?_));(first|refine off ?_|refine mv ?_);(first|(refine off ?_;refine off ?_;(refine off ?_)<;>(refine vl ?_;refine mv ?_;refine off ?_;refine off ?_;refine off ?_;refine off ?_;(first|(refine off ?_;refine vl ?_;refine mv ?_;refine off ?_;refine off ?_;(first|(refine off ?_;refine vl ?_;refine mv ?_;refine qf ?_))))))|skip)))))
 all_goals first|exact absurd rfl z|skip
 all_goals (all_goals (repeat' (fail)))
 all_goals ((refine qx rfl rfl rfl rfl rfl ((hS4 _ S).mono ?_);rintro _ h ⟨rfl,x⟩)<;>(replace S:=S.join0 x;clear x;refine mv ?_;(first|(refine cT ?_))<;>(refine vl ?_;refine mv ?_;(first|(refine lH S ?_));(first|(refine lH S ?_));refine mv ?_;refine mv ?_;(skip))))
 all_goals (all_goals (repeat' (fail)))
 all_goals ((refine qx rfl rfl rfl rfl rfl ((qbJ S.wf v' pv (p.wt tabs) p (HC3.ext w3 S.ext) (HO3.ext w3 S.ext) ⟨et,rfl,rfl,rfl,rfl⟩ vl_ vq q q (rl3.ext w3 S.ext) (rq3.ext w3 S.ext) rfl (by omega)).mono ?_);rintro _ h ⟨rfl,x⟩)<;>(replace S:=S.join0 x;clear x;refine vl ?_;(iterate 3 refine mv ?_);(skip)))
 all_goals (all_goals (repeat' (fail)))
 all_goals ((refine qx rfl rfl rfl rfl rfl ((YY S.wf vy_ vy way way (rz3.ext w3 S.ext) (ry3.ext w3 S.ext) (by omega)).mono ?_);rintro _ h ⟨⟨rfl,z⟩|⟨rfl,z⟩,x⟩)<;>(replace S:=S.join0 x;clear x;refine vl ?_;refine mv ?_;refine qf ?_))
 all_goals first|exact absurd rfl z|skip
 all_goals (all_goals (repeat' (fail)))
 all_goals (refine qj ⟨_,rfl,?_⟩)
 all_goals exact ⟨rfl,(S00.join (S01.join S)).drop⟩
theorem YJ {h0:AH} (w:WfH h0) (pv:PbV) (p:Pb) (Z:PbZ h0 pv p) (sq:SlV) (q:List Int) (rq:qY h0 sq.val 1 eI q) (sy:SlV) (way:List Int) (ry:qY h0 sy.val 1 eI way) (a c:Int) :
 Fn Tryz.prog Xh 4 [pv.val,sq.val,sy.val,.int .i64 a,.int .i64 c] h0 (fun u _=>u = .bool true):=by
 have S:=Hs.start w;unfold PbV.val;refine qJ (by first|rfl) Tryz.func4 rfl rfl ?_;all_goals (repeat' (first|refine qg ?_|(refine qc 0 ?_;(refine bx S ?_;clear S;intro b h S);refine mv ?_;refine qf ?_)))
 obtain ⟨b3,hnm⟩:∃ x,x=b:=⟨_,rfl⟩;subst hnm;all_goals (repeat' (first|(refine qc 1 ?_;refine lB S rfl rfl ?_;refine mv ?_;refine mv ?_)))
 refine bsn (α:=Jt) (z:=1) Q3 [⟨sq,q⟩,⟨sy,way⟩] S ?_;clear S;intro u h S;(skip);have ru:qY h u 1 Q3 [⟨sq,q⟩,⟨sy,way⟩]:=Rd.of_sl S .here;have hrows:∀ i,i<[(⟨sq,q⟩:Jt),⟨sy,way⟩].length→qY h ([(⟨sq,q⟩:Jt),⟨sy,way⟩].getD i default).sv.val 1 eI ([(⟨sq,q⟩:Jt),⟨sy,way⟩].getD i default).r:=fun i hi=>by
  have:i=0∨i=1:=by simp at hi;omega
  rcases this with rfl|rfl
  ·exact rq.ext w S.ext
  ·exact ry.ext w S.ext
 (refine qx rfl rfl rfl rfl rfl ((qcR S.wf pv p (Z.ext w S.ext) u [⟨sq,q⟩,⟨sy,way⟩] ru hrows (by simp)).mono ?_);rintro _ h ⟨⟨rfl,z⟩|⟨rfl,z⟩,x⟩)<;>(replace S:=S.join0 x;clear x;refine vl ?_;refine mv ?_;(first|refine off ?_|(refine lB S rfl rfl ?_));(first|refine off ?_|refine mv ?_);(first|refine off ?_|refine mv ?_);(first|refine off ?_|refine mv ?_);(first|refine off ?_|refine mv ?_);(first|(refine off ?_;refine vl ?_;refine mv ?_;(skip))|skip))
 all_goals (try ((refine qx rfl rfl rfl rfl rfl ((qbG S.wf pv p (Z.ext w S.ext) z.1 z.2.1 sq.val q (rq.ext w S.ext) (z.2.2 0 (by simp)) sy.val way (ry.ext w S.ext) (z.2.2 1 (by simp)) a c).mono ?_);rintro _ h ⟨rfl,x⟩)<;>(replace S:=S.join0 x;clear x;refine vl ?_;refine mv ?_;(skip))))
 all_goals (try ((refine qx rfl rfl rfl rfl rfl ((qaH S.wf).mono ?_);rintro _ h ⟨rfl,x⟩)<;>(replace S:=S.join0 x;clear x;refine vl ?_;refine mv ?_;refine qf ?_)))
 all_goals (all_goals (repeat' (fail)))
 all_goals (refine qj ⟨_,rfl,?_⟩)
 all_goals rfl
end Go.Proofs.Xx
namespace Go.Proofs.Xx
open Go Go.RowKit Go.Proofs
theorem YK [Flag] (h:AH) (us:List Value) (w:WfH h) (a:ArgsR Tryz.prog h Tryz.f4.params.toList us):Fn Tryz.prog Xh 4 us h (fun x _=>x = .bool true):=by
 rw [show Tryz.f4.params.toList=[28,25,25,3,3] by kernel_rfl] at a;obtain ⟨n0,r0,us,rfl,a0,a⟩:=a.cons_inv;obtain ⟨n1,r1,us,rfl,a1,a⟩:=a.cons_inv;obtain ⟨n2,r2,us,rfl,a2,a⟩:=a.cons_inv;obtain ⟨n3,r3,us,rfl,a3,a⟩:=a.cons_inv;obtain ⟨n4,r4,us,rfl,a4,a⟩:=a.cons_inv;obtain rfl:=a.nil_inv;obtain ⟨v,p,rfl,Z⟩:=a0.prob1;obtain ⟨sq,q,rfl,rq,lq,cq,bq⟩:=a1.intsM;obtain ⟨sy,way,rfl,ry,ly,cy,bby⟩:=a2.intsM;obtain ⟨x,rfl,hx⟩:=a3.int64;obtain ⟨y,rfl,hy⟩:=a4.int64;exact YJ w v p Z sq q rq sy way ry x y
end Go.Proofs.Xx
namespace Go.Proofs.Xx
open Go Go.RowKit Go.Proofs
def KN:List Nat:=[8,254,142,295,293,284,189]
theorem qdq (f:FuncId) (hk:KN.all (fun n=>!Nat.beq f n)=true) (us:List Value) (h:AH):Xh f us h=none:=by
 have e:∀ n,n∈KN→Nat.beq f n=false:=fun n q=>by have:=zC8.1 hk n q;simpa using this
 unfold Xh ZI Xa XW Z9 Xd Zk X0 VL VM jH;simp only [e 8 (by decide),e 254 (by decide),e 142 (by decide),e 295 (by decide),e 293 (by decide),e 284 (by decide),e 189 (by decide)]
theorem YT {W:World} (h:W.ShapedOpen Tryz.prog):1<W.heap.size∧∃ m el fr,W.heap[0]? = some (.cells #[.int .i64 m] el fr):=by
 have h0:((begin Tryz.prog (fun _ _=>0) default).world.heap[0]?).bind Obj.row? = some (#[.int .i64 0],3):=by kernel_rfl
 obtain ⟨m,hm⟩:=cell_of_shapedOpen_int h (g:=0) (t:=3) (of_decide_eq_true (by kernel_rfl)) h0 rfl (by kernel_rfl) (by kernel_rfl) Tryz.underlying3;obtain ⟨cs,hh,hs,-⟩:=h.1 0 _ 3 (of_decide_eq_true (by kernel_rfl)) h0;refine ⟨?_,m,3,(0,0),?_⟩
 ·have h1:(((begin Tryz.prog (fun _ _=>0) default).world.heap[1]?).bind Obj.row?).isSome=true:=by kernel_rfl
  obtain ⟨⟨z,t⟩,h1⟩:=Option.isSome_iff_exists.1 h1;obtain ⟨cs,hh,-⟩:=h.1 1 z t (of_decide_eq_true (by kernel_rfl)) h1;exact (zB9.1 hh).1
 ·rw [hh];have:cs=#[.int .i64 m]:=by
   simp only [World.cell?,hh] at hm;obtain ⟨l⟩:=cs;match l,hs,hm with
   | [x],_,hm=>simp at hm;rw [hm]
   | [],hs,_=>cases hs
   | _ :: _ :: _,hs,_=>simp at hs
  rw [this]
theorem KP {W:World} (h:W.ShapedOpen Tryz.prog):∃ (k:Nat) (cc:Array Value) (el:TypeId) (fr:Nat×Nat),W.heap[k]? = some (.cells cc el fr):=by
 obtain ⟨-,m,el,fr,q⟩:=YT h;exact ⟨0,_,el,fr,q⟩
end Go.Proofs.Xx
namespace Go.Proofs.Xx
open Go Go.RowKit Go.Proofs
theorem qbT:(Tryz.prog.globals[1]?).map (·.type)=some 272:=by kernel_rfl
theorem qbS [Flag] {W:World} {x y:String×DataW Unit} {rest:List (String×DataW Unit)} (h:laidMet Tryz.prog (x :: y :: ("internal/strconv.uint64pow10", YtjgpiabklllldaaGreatDoor.Rows.laid_internal_strconv_uint64pow10) :: rest) W) (hS:W.ShapedOpen Tryz.prog) :
 Glob.ok W.heap.size W.heap:=by
 refine ⟨(YT hS).1,(YT hS).2,fun _=>?_⟩;have t:Lib.TabIs Tryz.prog W "internal/strconv.uint64pow10" .u64 Lib.pow10Tab :=
  Lib.tabIs_of_head qeg qbT (n:=20) (e:=206) (by kernel_rfl) (by kernel_rfl) (by kernel_rfl) (by kernel_rfl) (laidMet.tail (laidMet.tail h))
 unfold Lib.TabIs World.var? at t;rw [qeg] at t;simp only [Option.bind_some] at t;split at t
 ·rename_i cs el fr hc
  cases t
  exact ⟨el,fr,hc⟩
 ·cases t
section
variable {P:Program} {X:Extern} {inR:Bool} {sz:Nat} {L:Ks} {h h0:AH} {rs:List Rs} {ops:Array Oper} {os:List Oper} {o:Oper} {R:Ks→AH→Prop} {Q:KQ}
end
section
variable {P:Program} {X:Extern} {sz:Nat} {ops:Array Oper} {os:List Oper} {R:Ks→AH→Prop}
theorem qf9 {L0:Ks} {h0:AH} {o0 o1 o2:Oper} {L1:Ks} {x0:Operand} {v0:Value} {L2:Ks} {x1 y1:Operand} {ty1 tz1:TypeId} {a1 b1:Int} {L3:Ks} {x2:Operand} {v2:Value} (w:R L3 h0) (ho0:Zi o0.op=some x0:=by exact rfl) (hg0:qw ops L0.tree o0.guard=some true:=by exact rfl) (hx0:kA L0 x0=some v0:=by exact rfl) (hp0:qG sz L0 o0.dst v0=some L1:=by exact rfl) (ho1:o1.op = .binOp .add ty1 x1 y1 tz1:=by exact rfl) (hg1:qw ops L1.tree o1.guard=some true:=by exact rfl) (hx1:kA L1 x1=some (.int .i64 a1):=by exact rfl) (hy1:kA L1 y1=some (.int .i64 b1):=by exact rfl) (hb1 : -9223372036854775808≤a1+b1∧a1+b1≤9223372036854775807:=by first|omega|grind) (hp1:qG sz L1 o1.dst (.int .i64 (a1+b1))=some L2:=by exact rfl) (ho2:Zi o2.op=some x2:=by exact rfl) (hg2:qw ops L2.tree o2.guard=some true:=by exact rfl) (hx2:kA L2 x2=some v2:=by exact rfl) (hp2:qG sz L2 o2.dst v2=some L3:=by exact rfl):KO P X sz ops [o0,o1,o2] L0 h0 R:=mv (ad (mv (qf w) ho2 hg2 hx2 hp2) ho1 hg1 hx1 hy1 hb1 hp1) ho0 hg0 hx0 hp0
theorem qf8 {L0:Ks} {h0:AH} {o0 o1 o2:Oper} {L1:Ks} {x0:Operand} {v0:Value} {L2:Ks} {x1 y1:Operand} {ty1 tz1:TypeId} {a1 b1:Int} {L3:Ks} {x2:Operand} {v2:Value} (w:R L3 h0) (ho0:Zi o0.op=some x0:=by exact rfl) (hg0:qw ops L0.tree o0.guard=some true:=by exact rfl) (hx0:kA L0 x0=some v0:=by exact rfl) (hp0:qG sz L0 o0.dst v0=some L1:=by exact rfl) (ho1:o1.op = .binOp .sub ty1 x1 y1 tz1:=by exact rfl) (hg1:qw ops L1.tree o1.guard=some true:=by exact rfl) (hx1:kA L1 x1=some (.int .i64 a1):=by exact rfl) (hy1:kA L1 y1=some (.int .i64 b1):=by exact rfl) (hb1 : -9223372036854775808≤a1 - b1∧a1 - b1≤9223372036854775807:=by first|omega|grind) (hp1:qG sz L1 o1.dst (.int .i64 (a1 - b1))=some L2:=by exact rfl) (ho2:Zi o2.op=some x2:=by exact rfl) (hg2:qw ops L2.tree o2.guard=some true:=by exact rfl) (hx2:kA L2 x2=some v2:=by exact rfl) (hp2:qG sz L2 o2.dst v2=some L3:=by exact rfl):KO P X sz ops [o0,o1,o2] L0 h0 R:=mv (sb (mv (qf w) ho2 hg2 hx2 hp2) ho1 hg1 hx1 hy1 hb1 hp1) ho0 hg0 hx0 hp0
theorem qfI {L0:Ks} {h0:AH} {o0 o1 o2 o3 o4:Oper} {L1:Ks} {x0:Operand} {v0:Value} {L2:Ks} {h2:AH} {v1:Value} {L3:Ks} {h3:AH} {v2:Value} {L4:Ks} {x3:Operand} {v3:Value} {L5:Ks} {x4:Operand} {v4:Value} (w:R L5 h3) (ho0:Zi o0.op=some x0:=by exact rfl) (hg0:qw ops L0.tree o0.guard=some true:=by exact rfl) (hx0:kA L0 x0=some v0:=by exact rfl) (hp0:qG sz L0 o0.dst v0=some L1:=by exact rfl) (hg1:qw ops L1.tree o1.guard=some true:=by exact rfl) (ha1:zF P L1.tree h0 o1.op=some (.val v1 h2):=by exact rfl) (hp1:qG sz L1 o1.dst v1=some L2:=by exact rfl) (hg2:qw ops L2.tree o2.guard=some true:=by exact rfl) (ha2:zF P L2.tree h2 o2.op=some (.val v2 h3):=by exact rfl) (hp2:qG sz L2 o2.dst v2=some L3:=by exact rfl) (ho3:Zi o3.op=some x3:=by exact rfl) (hg3:qw ops L3.tree o3.guard=some true:=by exact rfl) (hx3:kA L3 x3=some v3:=by exact rfl) (hp3:qG sz L3 o3.dst v3=some L4:=by exact rfl) (ho4:Zi o4.op=some x4:=by exact rfl) (hg4:qw ops L4.tree o4.guard=some true:=by exact rfl) (hx4:kA L4 x4=some v4:=by exact rfl) (hp4:qG sz L4 o4.dst v4=some L5:=by exact rfl):KO P X sz ops [o0,o1,o2,o3,o4] L0 h0 R:=mv (vl (vl (mv (mv (qf w) ho4 hg4 hx4 hp4) ho3 hg3 hx3 hp3) hg2 ha2 hp2) hg1 ha1 hp1) ho0 hg0 hx0 hp0
theorem qfR {L0:Ks} {h0:AH} {o0 o1 o2 o3:Oper} {L1:Ks} {x0:Operand} {v0:Value} {L2:Ks} {x1:Operand} {v1:Value} {L3:Ks} {x2 y2:Operand} {ty2 tz2:TypeId} {a2 b2:Int} {L4:Ks} {x3:Operand} {v3:Value} (w:R L4 h0) (ho0:Zi o0.op=some x0:=by exact rfl) (hg0:qw ops L0.tree o0.guard=some true:=by exact rfl) (hx0:kA L0 x0=some v0:=by exact rfl) (hp0:qG sz L0 o0.dst v0=some L1:=by exact rfl) (ho1:Zi o1.op=some x1:=by exact rfl) (hg1:qw ops L1.tree o1.guard=some true:=by exact rfl) (hx1:kA L1 x1=some v1:=by exact rfl) (hp1:qG sz L1 o1.dst v1=some L2:=by exact rfl) (ho2:o2.op = .binOp .sub ty2 x2 y2 tz2:=by exact rfl) (hg2:qw ops L2.tree o2.guard=some true:=by exact rfl) (hx2:kA L2 x2=some (.int .i64 a2):=by exact rfl) (hy2:kA L2 y2=some (.int .i64 b2):=by exact rfl) (hb2 : -9223372036854775808≤a2 - b2∧a2 - b2≤9223372036854775807:=by first|omega|grind) (hp2:qG sz L2 o2.dst (.int .i64 (a2 - b2))=some L3:=by exact rfl) (ho3:Zi o3.op=some x3:=by exact rfl) (hg3:qw ops L3.tree o3.guard=some true:=by exact rfl) (hx3:kA L3 x3=some v3:=by exact rfl) (hp3:qG sz L3 o3.dst v3=some L4:=by exact rfl):KO P X sz ops [o0,o1,o2,o3] L0 h0 R:=mv (mv (sb (mv (qf w) ho3 hg3 hx3 hp3) ho2 hg2 hx2 hy2 hb2 hp2) ho1 hg1 hx1 hp1) ho0 hg0 hx0 hp0
theorem qgk {L0:Ks} {h0:AH} {o0 o1:Oper} {L1:Ks} {x0:Operand} {v0:Value} {L2:Ks} {x1:Operand} {v1:Value} (w:R L2 h0) (ho0:Zi o0.op=some x0:=by exact rfl) (hg0:qw ops L0.tree o0.guard=some true:=by exact rfl) (hx0:kA L0 x0=some v0:=by exact rfl) (hp0:qG sz L0 o0.dst v0=some L1:=by exact rfl) (ho1:Zi o1.op=some x1:=by exact rfl) (hg1:qw ops L1.tree o1.guard=some true:=by exact rfl) (hx1:kA L1 x1=some v1:=by exact rfl) (hp1:qG sz L1 o1.dst v1=some L2:=by exact rfl):KO P X sz ops [o0,o1] L0 h0 R:=mv (mv (qf w) ho1 hg1 hx1 hp1) ho0 hg0 hx0 hp0
theorem qgl {L0:Ks} {h0:AH} {o0 o1:Oper} {L1:Ks} {x0 y0:Operand} {ty0 tz0:TypeId} {a0 b0:Int} {L2:Ks} {x1:Operand} {v1:Value} (w:R L2 h0) (ho0:o0.op = .binOp .add ty0 x0 y0 tz0:=by exact rfl) (hg0:qw ops L0.tree o0.guard=some true:=by exact rfl) (hx0:kA L0 x0=some (.int .i64 a0):=by exact rfl) (hy0:kA L0 y0=some (.int .i64 b0):=by exact rfl) (hb0 : -9223372036854775808≤a0+b0∧a0+b0≤9223372036854775807:=by first|omega|grind) (hp0:qG sz L0 o0.dst (.int .i64 (a0+b0))=some L1:=by exact rfl) (ho1:Zi o1.op=some x1:=by exact rfl) (hg1:qw ops L1.tree o1.guard=some true:=by exact rfl) (hx1:kA L1 x1=some v1:=by exact rfl) (hp1:qG sz L1 o1.dst v1=some L2:=by exact rfl):KO P X sz ops [o0,o1] L0 h0 R:=ad (mv (qf w) ho1 hg1 hx1 hp1) ho0 hg0 hx0 hy0 hb0 hp0
theorem qgh {L0:Ks} {h0:AH} {o0 o1:Oper} {L1:Ks} {h1:AH} {v0:Value} {L2:Ks} {x1:Operand} {v1:Value} (w:R L2 h1) (hg0:qw ops L0.tree o0.guard=some true:=by exact rfl) (ha0:zF P L0.tree h0 o0.op=some (.val v0 h1):=by exact rfl) (hp0:qG sz L0 o0.dst v0=some L1:=by exact rfl) (ho1:Zi o1.op=some x1:=by exact rfl) (hg1:qw ops L1.tree o1.guard=some true:=by exact rfl) (hx1:kA L1 x1=some v1:=by exact rfl) (hp1:qG sz L1 o1.dst v1=some L2:=by exact rfl):KO P X sz ops [o0,o1] L0 h0 R:=vl (mv (qf w) ho1 hg1 hx1 hp1) hg0 ha0 hp0
theorem qgj {L0:Ks} {h0:AH} {o0 o1:Oper} {L1:Ks} {x0:Operand} {v0:Value} {L2:Ks} {h2:AH} {v1:Value} (w:R L2 h2) (ho0:Zi o0.op=some x0:=by exact rfl) (hg0:qw ops L0.tree o0.guard=some true:=by exact rfl) (hx0:kA L0 x0=some v0:=by exact rfl) (hp0:qG sz L0 o0.dst v0=some L1:=by exact rfl) (hg1:qw ops L1.tree o1.guard=some true:=by exact rfl) (ha1:zF P L1.tree h0 o1.op=some (.val v1 h2):=by exact rfl) (hp1:qG sz L1 o1.dst v1=some L2:=by exact rfl):KO P X sz ops [o0,o1] L0 h0 R:=mv (vl (qf w) hg1 ha1 hp1) ho0 hg0 hx0 hp0
theorem qf7 {L0:Ks} {h0:AH} {o0 o1 o2 o3:Oper} {L1:Ks} {x0:Operand} {v0:Value} {L2:Ks} {h2:AH} {v1:Value} {L3:Ks} {h3:AH} {v2:Value} {L4:Ks} {h4:AH} {v3:Value} (w:KO P X sz ops os L4 h4 R) (ho0:Zi o0.op=some x0:=by exact rfl) (hg0:qw ops L0.tree o0.guard=some true:=by exact rfl) (hx0:kA L0 x0=some v0:=by exact rfl) (hp0:qG sz L0 o0.dst v0=some L1:=by exact rfl) (hg1:qw ops L1.tree o1.guard=some true:=by exact rfl) (ha1:zF P L1.tree h0 o1.op=some (.val v1 h2):=by exact rfl) (hp1:qG sz L1 o1.dst v1=some L2:=by exact rfl) (hg2:qw ops L2.tree o2.guard=some true:=by exact rfl) (ha2:zF P L2.tree h2 o2.op=some (.val v2 h3):=by exact rfl) (hp2:qG sz L2 o2.dst v2=some L3:=by exact rfl) (hg3:qw ops L3.tree o3.guard=some true:=by exact rfl) (ha3:zF P L3.tree h3 o3.op=some (.val v3 h4):=by exact rfl) (hp3:qG sz L3 o3.dst v3=some L4:=by exact rfl):KO P X sz ops (o0 :: o1 :: o2 :: o3 :: os) L0 h0 R:=mv (vl (vl (vl (w) hg3 ha3 hp3) hg2 ha2 hp2) hg1 ha1 hp1) ho0 hg0 hx0 hp0
theorem qgi {L0:Ks} {h0:AH} {o0 o1 o2:Oper} {L1:Ks} {x0:Operand} {v0:Value} {L2:Ks} {h2:AH} {v1:Value} {L3:Ks} {h3:AH} {v2:Value} (w:KO P X sz ops os L3 h3 R) (ho0:Zi o0.op=some x0:=by exact rfl) (hg0:qw ops L0.tree o0.guard=some true:=by exact rfl) (hx0:kA L0 x0=some v0:=by exact rfl) (hp0:qG sz L0 o0.dst v0=some L1:=by exact rfl) (hg1:qw ops L1.tree o1.guard=some true:=by exact rfl) (ha1:zF P L1.tree h0 o1.op=some (.val v1 h2):=by exact rfl) (hp1:qG sz L1 o1.dst v1=some L2:=by exact rfl) (hg2:qw ops L2.tree o2.guard=some true:=by exact rfl) (ha2:zF P L2.tree h2 o2.op=some (.val v2 h3):=by exact rfl) (hp2:qG sz L2 o2.dst v2=some L3:=by exact rfl):KO P X sz ops (o0 :: o1 :: o2 :: os) L0 h0 R:=mv (vl (vl (w) hg2 ha2 hp2) hg1 ha1 hp1) ho0 hg0 hx0 hp0
theorem kmn {L0:Ks} {h0:AH} {o0:Oper} {L1:Ks} {x0:Operand} {v0:Value} (w:R L1 h0) (ho0:Zi o0.op=some x0:=by exact rfl) (hg0:qw ops L0.tree o0.guard=some true:=by exact rfl) (hx0:kA L0 x0=some v0:=by exact rfl) (hp0:qG sz L0 o0.dst v0=some L1:=by exact rfl):KO P X sz ops [o0] L0 h0 R:=mv (qf w) ho0 hg0 hx0 hp0
theorem kvn {L0:Ks} {h0:AH} {o0:Oper} {L1:Ks} {h1:AH} {v0:Value} (w:R L1 h1) (hg0:qw ops L0.tree o0.guard=some true:=by exact rfl) (ha0:zF P L0.tree h0 o0.op=some (.val v0 h1):=by exact rfl) (hp0:qG sz L0 o0.dst v0=some L1:=by exact rfl):KO P X sz ops [o0] L0 h0 R:=vl (qf w) hg0 ha0 hp0
theorem kmm {L0:Ks} {h0:AH} {o0 o1:Oper} {L1:Ks} {x0:Operand} {v0:Value} {L2:Ks} {x1:Operand} {v1:Value} (w:KO P X sz ops os L2 h0 R) (ho0:Zi o0.op=some x0:=by exact rfl) (hg0:qw ops L0.tree o0.guard=some true:=by exact rfl) (hx0:kA L0 x0=some v0:=by exact rfl) (hp0:qG sz L0 o0.dst v0=some L1:=by exact rfl) (ho1:Zi o1.op=some x1:=by exact rfl) (hg1:qw ops L1.tree o1.guard=some true:=by exact rfl) (hx1:kA L1 x1=some v1:=by exact rfl) (hp1:qG sz L1 o1.dst v1=some L2:=by exact rfl):KO P X sz ops (o0 :: o1 :: os) L0 h0 R:=mv (mv (w) ho1 hg1 hx1 hp1) ho0 hg0 hx0 hp0
end
end Go.Proofs.Xx
