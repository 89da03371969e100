/-
  Trips: the walk.
-/
import Derived.Test.YtgehpahpnidimaaGreatDoorM12
import Derived.Test.YtgehpahpnidimaaGreatDoorM13
set_option linter.unusedSimpArgs false
set_option linter.unusedVariables false
set_option linter.unusedSectionVars false
set_option maxRecDepth 100000
set_option maxHeartbeats 4000000
namespace Go.Proofs.Xx
open Go Go.Proofs
def ZK (pl:List Int) (t:Int):Int:=pl.getD t.toNat default
theorem qel {p:Pb} {q:List Int} (t:Int):0≤ZK (jM p q) t∧ZK (jM p q) t≤q.length:=qds
theorem qbw {h0:AH} (w:WfH h0) (vp:Value) (pl:List Int) (rp:zo h0 vp 1 eI pl) (vt:Value) (l:List Int) (rt:zo h0 vt 1 eI l) (hl:l.length≤1000000) (ht:∀ t∈l,0≤t∧t<pl.length) (hb:∀ t,0≤ZK pl t∧ZK pl t≤1000) :
 Fn Tryz.prog Xh 54 [vp,vt] h0 (fun u h'=>u = .int .i64 (jo (ZK pl) l)∧Hs h0 h' []):=by
 have S:=Hs.start w;refine qM (by first|rfl) Tryz.func54 rfl rfl ?_;all_goals (repeat' (first|refine qg ?_|refine qp ?_|(refine qc 0 ?_;refine mv ?_;refine qf ?_)|(refine qc 1 ?_;refine mv ?_;refine qf ?_)|(refine qc 2 ?_;refine mv ?_;refine jZ S ?_;refine mv ?_;refine qf ?_)))
 refine qL (σ:=Nat) (fun i h'=>Hs h0 h' []∧i≤l.length) (fun i=>l.length - i) (fun i=>[(0,vp),(5,.int .i64 (jo (ZK pl) (l.take i))),(8,vt),(9,.int .i64 l.length),(10,.int .i64 i)]) 0 qy ?_ ?_
 ·exact ⟨S,zB0 _⟩
 clear S;rintro i h ⟨S,g1⟩;all_goals (repeat' (first|refine qg ?_|refine qi rfl ?_|refine qj ?_|refine qA ?_|refine qp ?_|(refine qc 3 ?_;(first|(refine cS ?_ ?_<;>intro hc))<;>(refine qf ?_))|(refine qc 4 ?_;refine QE S ?_;refine Qk S ?_;refine mv ?_;refine qf ?_)))
 ·obtain ⟨x,hx⟩:∃ x,l.getD (i:Int).toNat default=x:=⟨_,rfl⟩
  rw [hx];replace hx:l.getD i default=x:=hx;have hi:i<l.length:=by omega
  have hxm:=ht x (by rw [← hx];exact qJ hi);have key:l.take (i+1)=l.take i ++ [x]:=by
   rw [List.take_add_one,zA4 hi,← hx,zA2,zA4 hi];rfl
  have b1:=qbx (ld:=ZK pl) (M:=1000) (l:=l.take i) fun t _=>(hb t).2;have b2:=vU (ld:=ZK pl) (l:=l.take i) fun t _=>(hb t).1;rw [zA9,zE5 g1] at b1;have b3:=hb x;have ks:jo (ZK pl) (l.take (i+1))=jo (ZK pl) (l.take i)+ZK pl x:=by rw [key,Wv];simp [jo]
  replace b3:0≤pl.getD x.toNat default∧pl.getD x.toNat default≤1000:=b3;replace ks:jo (ZK pl) (l.take (i+1))=jo (ZK pl) (l.take i)+pl.getD x.toNat default:=ks;all_goals (repeat' (first|(refine qc 5 ?_;(iterate 3 refine mv ?_);refine QE S ?_;refine Qk S ?_;refine ad ?_;refine mv ?_;refine qf ?_)|(refine qc 6 ?_;refine ad ?_;refine mv ?_;refine qf ?_)))
  refine ⟨i+1,?_,?_,qy⟩
  ·show l.length - (i+1)<l.length - i;omega
  ·exact ⟨S,by omega⟩
 ·all_goals (repeat' (first|(refine qc 7 ?_;refine mv ?_;refine mv ?_;refine qf ?_)))
  refine qw ⟨_,rfl,?_⟩;obtain rfl:i=l.length:=by omega
  rw [zF8 (zA3 _)];exact ⟨rfl,S⟩
structure B3 where
 s:Int
 t:Int
 e:Int
instance:Inhabited B3:=⟨⟨0,0,0⟩⟩
def e3 (x:B3):List Value:=[.int .i64 x.s,.int .i64 x.t,.int .i64 x.e]
structure Tr_ where
 tv:SlV
 ta:List Int
 pl:Int
 st:Int
instance:Inhabited Tr_:=⟨⟨⟨none,0,0⟩,[],0,0⟩⟩
def JC (x:Tr_):List Value:=[x.tv.val,.int .i64 x.pl,.int .i64 x.st]
abbrev QN (x:Tr_):Rs:=.sl x.tv.val 3 1 eI x.ta
theorem List.take_append_drop_take {l:List Int} {i e:Nat}:l.take i ++ (l.drop i).take (e - i)=l.take (i+(e - i)):=by
 rw [List.take_add]
theorem qaL {l:List Int} (h:l.Nodup) {i j:Nat} (hij:i<j) (hj:j<l.length):l.getD i default≠l.getD j default:=by
 rw [zA2,zA2,zA4 (by omega),zA4 hj];exact zD2.1 h i j (by omega) hj hij
structure FrI (p:Pb) (ld:Int→Int) (k:Int) (way:List Int) (m:Nat) (F:List B3):Prop where
 len:F.length=way.length+1
 best:∀ j,m≤j→j≤way.length→BestC (ZJ p.tabs) ld k way j (F.getD j default).s
 last:(F.getD way.length default).s=0
 bnd:∀ j,j≤way.length→(0≤(F.getD j default).s∧(F.getD j default).s≤4000*(way.length - j:Int))∧0≤(F.getD j default).t∧(F.getD j default).t≤(way.length - j:Int)
 stp_:∀ j,m≤j→j<way.length→∃ e:Nat,(F.getD j default).e=e∧j<e∧e≤way.length∧jo ld (seg way j e)≤k∧(F.getD j default).s=tour (ZJ p.tabs) (seg way j e)+(F.getD e default).s
theorem Va {F:List B3} {i j:Nat} {x:B3} (hi:i<F.length):(F.set i x).getD j default=if i=j then x else F.getD j default:=by
 rw [zA2,List.getElem?_set];by_cases e:i=j
 ·subst e;rw [if_pos rfl,if_pos hi,if_pos rfl];rfl
 ·rw [if_neg e,if_neg e,← zA2]
theorem qbm {h0:AH} (w:WfH h0) (pv:PbV) (p:Pb) (H:PbOk h0 pv p) (hP:PO p) (vq:Value) (q:List Int) (rq:zo h0 vq 1 eI q) (hQ:PartOk p q) (hl9:p.tabs.length≤9) (vw:Value) (way:List Int) (rw_:zo h0 vw 1 eI way) (cw:zV vw) (hw:way.Perm (srv (jM p q))) (k:Int) (hk:1≤k∧k≤1000) :
 Fn Tryz.prog Xh 12 [pv.val,vq,vw,.int .i64 k] h0 (fun u h'=>((∃ t∈way,k<ZK (jM p q) t)∧u = .tuple #[.slice none 0 0,.int .i64 110]∧Hs h0 h' []) ∨
  ((∀ t∈way,ZK (jM p q) t≤k)∧∃ vL ts,u = .tuple #[vL,.int .i64 0]∧Hs h0 h' [.sl vL 71 3 JC ts,JG QN ts]∧qc0 (ZK (jM p q)) k (ts.map (·.ta))∧(ts.map (·.ta)).flatten=way∧(∀ x∈ts,x.pl=jo (ZK (jM p q)) x.ta∧x.st=tour (ZJ p.tabs) x.ta)∧BestC (ZJ p.tabs) (ZK (jM p q)) k way 0 (cost (ZJ p.tabs) (ts.map (·.ta))))):=by
 have S:=Hs.start w;have hq64:=hQ.ql hP;have hqm:=hQ.qm H.tab.len;have hsl:=P5 (pl:=jM p q);rw [ZR] at hsl;have nd0:(srv (jM p q)).Nodup:=srv_inc.imp fun h=>Int.ne_of_lt h;have hsr:=qbD (p:=p) (q:=q);have nw:way.Nodup:=hw.symm.nodup nd0;have hwl:way.length≤9:=by have:=hw.length_eq;omega
 have hwr:∀ t∈way,0≤t∧t<p.tabs.length:=fun t ht=>hsr t (hw.mem_iff.1 ht);have hpl:=ZR (p:=p) (q:=q);have hld:=qel (p:=p) (q:=q);have met:=qdh p.tabs;unfold PbV.val;refine qM (by first|rfl) Tryz.func12 rfl rfl ?_;all_goals (repeat' (first|refine qg ?_|(refine qc 0 ?_;(refine bx S ?_;clear S;intro b h S);refine mv ?_;refine mv ?_;refine qf ?_)))
 obtain ⟨b4,hnm⟩:∃ x,x=b:=⟨_,rfl⟩;subst hnm;all_goals (repeat' (first|(refine qc 1 ?_;refine lB S rfl rfl ?_;refine mv ?_)))
 (refine qx rfl rfl rfl rfl rfl ((qbW S.wf pv p (H.ext w S.ext) hP vq q (rq.ext w S.ext) hQ).mono ?_);rintro _ h ⟨i,rfl,x⟩)<;>(replace S:=S.join0 x;clear x;refine mv ?_;refine vl ?_;refine vl ?_;refine mv ?_;refine mv ?_;refine qf ?_)
 all_goals (repeat' (first|refine qg ?_|refine qi rfl ?_|refine qj ?_|(refine qc 2 ?_;refine mv ?_;(refine cF ?_)<;>(refine qf ?_))))
 all_goals (repeat' (first|refine qg ?_|refine qi rfl ?_|refine qj ?_|(refine qc 4 ?_;refine mv ?_;(refine cF ?_)<;>(refine qf ?_))))
 (repeat (refine qg ?_));refine jm (id:=6) [(3,(0,1))] [some (b4)] ?_;refine qh ?_;(first|(refine lB S rfl rfl ?_<;>refine qf ⟨⟨by (first|exact True.intro),rfl⟩,?_⟩));refine qh ?_;(first|(refine mv ?_<;>refine qf ⟨⟨by (first|exact True.intro),rfl⟩,?_⟩));((refine qh ?_;first|refine qx rfl rfl rfl rfl rfl ((pJ S.wf pv p (H.ext w S.ext) vq q (rq.ext w S.ext) (by omega) hqm).mono ?_));rintro vst h x)<;>((refine qf ⟨⟨True.intro,?_⟩,?_⟩;(focus ((show keepsX _ _ _ _ _;simp only [keepsX];(repeat' (first|exact True.intro|refine And.intro ?_ ?_));all_goals (intro hw;first|exact x.ext.old _ S.bB)))));replace S:=S.join1 x;clear x;refine qh ?_;(first|(refine lB S rfl rfl ?_<;>refine qf ⟨⟨by (first|exact Or.inr rfl),rfl⟩,?_⟩));refine qh ?_;(first|(refine mv ?_<;>refine qf ⟨⟨by (first|exact True.intro),rfl⟩,?_⟩)))
 ((refine qh ?_;first|refine qx rfl rfl rfl rfl rfl ((XJ S.wf pv p (H.ext w S.ext) vq q (rq.ext w S.ext) (by omega) hqm).mono ?_));rintro vp h x)<;>((refine qf ⟨⟨True.intro,?_⟩,?_⟩;(focus ((show keepsX _ _ _ _ _;simp only [keepsX];(repeat' (first|exact True.intro|refine And.intro ?_ ?_));all_goals (intro hw;first|exact absurd hw (by decide +kernel))))));replace S:=S.join1 x;clear x;refine qh ?_;(first|(refine mv ?_<;>refine qf ⟨⟨by (first|exact True.intro),rfl⟩,?_⟩));refine qh ?_;(first|(refine mv ?_<;>refine qf ⟨⟨by (first|exact True.intro),rfl⟩,?_⟩));refine jw ?_)
 obtain ⟨stops,hst⟩:∃ stops,srv (jM p q)=stops:=⟨_,rfl⟩
 obtain ⟨pl,hpe⟩:∃ pl,jM p q=pl:=⟨_,rfl⟩
 rw [hst,hpe] at S;rw [hst] at hw hsl;have hs6:stops.length≤1000000:=by omega
 rw [hpe] at hpl hld ⊢;have hld2:∀ t,0≤ZK pl t∧ZK pl t≤1000:=fun t=>by have:=hld t;omega
 replace S:Hs h0 h [.sl vp 3 1 eI pl,.sl vst 3 1 eI stops,.blk b4 pv.cs 28]:=S;all_goals (repeat' (first|refine qg ?_|refine qp ?_|(refine qc 7 ?_;refine mv ?_;refine jZ S ?_;refine mv ?_;refine qf ?_)))
 refine qL (σ:=Nat) (fun i h'=>Hs h0 h' [.sl vp 3 1 eI pl,.sl vst 3 1 eI stops,.blk b4 pv.cs 28]∧i≤way.length) (fun i=>way.length - i) (fun i=>[(1,vq),(2,vw),(3,.int .i64 k),(4,.pointer (some ⟨b4,0,none⟩)),(12,vst),(13,vp),(43,vw),(44,.int .i64 way.length),(45,.int .i64 i)]) 0 qy ?_ ?_
 ·exact ⟨S,zB0 _⟩
 clear S;rintro i h ⟨S,g1⟩;all_goals (repeat' (first|refine qg ?_|refine qi rfl ?_|refine qj ?_|refine qA ?_|refine qp ?_|(refine qc 8 ?_;(first|(refine cS ?_ ?_<;>intro hc))<;>(refine qf ?_))|(refine qc 9 ?_;refine mv ?_;refine QE S ?_;refine Qk S ?_;refine mv ?_;refine mv ?_;refine qf ?_)))
 ·obtain ⟨t,ht⟩:∃ t,way.getD (i:Int).toNat default=t:=⟨_,rfl⟩
  rw [ht];replace ht:way.getD i default=t:=ht;have hi:i<way.length:=by omega
  have htm:t∈way:=by rw [← ht];exact qJ hi
  all_goals (repeat' (first|(refine qc 10 ?_;refine mv ?_;refine mv ?_)))
  (refine qx rfl rfl rfl rfl rfl ((YA S.wf vst stops (Rd.of_sl S (.there .here)) hs6 t).mono ?_);rintro _ h ⟨⟨rfl,hq⟩|⟨rfl,hq⟩,x⟩)<;>(replace S:=S.join0 x;clear x;refine vl ?_;refine mv ?_;(first|refine off ?_|refine mv ?_);(first|refine off ?_|refine mv ?_);(first|(refine off ?_;refine off ?_;(first|(refine off ?_;refine vl ?_;refine qf ?_)))|skip))
  rotate_left
  ·exact absurd (qI.1 (hw.mem_iff.1 htm)) hq
  refine su0 0 i S w rw_ cw ?_;intro vm hrm hcm;((refine mv ?_);(skip));have hnm2:t ∉ (way.drop 0).take (i - 0):=by
   rw [List.drop_zero,Nat.sub_zero];intro q;obtain ⟨j,hj,e⟩:=qI.1 q;rw [zA9] at hj;rw [getD_take (by omega)] at e;exact qaL nw (show j<i by omega) hi (by rw [e,ht])
  have hvl:((way.drop 0).take (i - 0)).length≤1000000:=by rw [zA9];omega
  (refine qx rfl rfl rfl rfl rfl ((YA S.wf vm _ (hrm.ext w S.ext) hvl t).mono ?_);rintro _ h ⟨⟨rfl,hq2⟩|⟨rfl,hq2⟩,x⟩)<;>(replace S:=S.join0 x;clear x;refine vl ?_;refine qf ?_)
  ·exact absurd (qI.2 hq2) hnm2
  all_goals (repeat' (first|refine qi rfl ?_|refine qj ?_|(refine qc 12 ?_;refine ad ?_;refine mv ?_;refine qf ?_)))
  refine ⟨i+1,?_,?_,qy⟩
  ·show way.length - (i+1)<way.length - i;omega
  ·exact ⟨S,by omega⟩
 clear g1;all_goals (repeat' (first|refine qp ?_|(refine qc 13 ?_;refine mv ?_;refine jZ S ?_;refine mv ?_;refine qf ?_)))
 refine qL (σ:=Nat) (fun i h'=>Hs h0 h' [.sl vp 3 1 eI pl,.sl vst 3 1 eI stops,.blk b4 pv.cs 28]∧i≤way.length∧∀ j,j<i→ZK pl (way.getD j default)≤k) (fun i=>way.length - i) (fun i=>[(1,vq),(2,vw),(3,.int .i64 k),(4,.pointer (some ⟨b4,0,none⟩)),(12,vst),(13,vp),(62,vw),(63,.int .i64 way.length),(64,.int .i64 i)]) 0 qy ?_ ?_
 ·exact ⟨S,zB0 _,fun j hj=>absurd hj (zB7 _)⟩
 clear S;rintro i h ⟨S,g1,g2⟩;all_goals (repeat' (first|refine qg ?_|refine qi rfl ?_|refine qj ?_|refine qA ?_|refine qp ?_|(refine qc 14 ?_;(first|(refine cS ?_ ?_<;>intro hc))<;>(refine qf ?_))|(refine qc 15 ?_;refine QE S ?_;refine Qk S ?_;refine mv ?_;refine qf ?_)))
 ·obtain ⟨t,ht⟩:∃ t,way.getD (i:Int).toNat default=t:=⟨_,rfl⟩
  rw [ht];replace ht:way.getD i default=t:=ht;have hi:i<way.length:=by omega
  have htm:t∈way:=by rw [← ht];exact qJ hi
  have htb:=hwr t htm;all_goals (repeat' (first|refine qg ?_|refine qi rfl ?_|refine qj ?_|(refine qc 16 ?_;refine mv ?_;refine mv ?_;refine jI S rfl rfl ?_;refine jT S rfl rfl ?_;refine mv ?_;(first|(refine cS ?_ ?_<;>intro hc))<;>(refine qf ?_))))
  ·all_goals (repeat' (first|(refine qc 17 ?_;refine mv ?_;refine mv ?_;refine qf ?_)))
   refine qw ⟨_,rfl,?_⟩;exact .inl ⟨⟨t,htm,by unfold ZK;omega⟩,rfl,S.drop⟩
  ·all_goals (repeat' (first|(refine qc 18 ?_;refine ad ?_;refine mv ?_;refine qf ?_)))
   refine ⟨i+1,?_,?_,qy⟩
   ·show way.length - (i+1)<way.length - i;omega
   ·exact ⟨S,by omega,Zf g2 (by rw [ht];unfold ZK;omega)⟩
 have hle:∀ t∈way,ZK pl t≤k:=fun t ht=>by
  obtain ⟨j,hj,rfl⟩:=qI.1 ht;exact g2 j (by omega)
 clear g1 g2;all_goals (repeat' (first|(refine qc 19 ?_;refine mv ?_;refine jZ S ?_;refine ad ?_)))
 refine Y5 (z:=3) (by_:=24) (enc:=e3) (y0:=⟨0,0,0⟩) S rfl rfl rfl rfl rfl rfl rfl rfl rfl (by intro _;rfl) (by first|omega) rfl rfl ?_;clear S;intro v h S;obtain ⟨vf,rfl⟩:=S.sV v;(refine mv ?_;refine qf ?_);have e19:((way.length:Int)+1).toNat=way.length+1:=by omega
 rw [e19] at S;have fr0:FrI p (ZK pl) k way way.length (List.replicate (way.length+1) ⟨0,0,0⟩):=by
  have hz:∀ j,j≤way.length→(List.replicate (way.length+1) (⟨0,0,0⟩:B3)).getD j default=⟨0,0,0⟩:=fun j hj=>by
   rw [zA2,List.getElem?_replicate,if_pos (by omega)];rfl
  refine ⟨by simp,fun j h1 h2=>?_,by rw [hz _ (zA3 _)],fun j hj=>?_,fun j h1 h2=>by omega⟩
  ·obtain rfl:j=way.length:=by omega
   rw [hz _ (zA3 _)];exact BestC.last met
  ·rw [hz j hj];dsimp only;omega
 all_goals (repeat' (first|refine qg ?_|refine qp ?_|(refine qc 20 ?_;refine mv ?_;refine jZ S ?_;refine sb ?_;refine mv ?_;refine qf ?_)))
 refine qL (σ:=Nat×List B3) (fun (m,F) h'=>Hs h0 h' [.sl vf.val 91 3 e3 F,.sl vp 3 1 eI pl,.sl vst 3 1 eI stops,.blk b4 pv.cs 28]∧m≤way.length∧FrI p (ZK pl) k way m F) (fun (m,F)=>m) (fun (m,F)=>[(1,vq),(2,vw),(3,.int .i64 k),(4,.pointer (some ⟨b4,0,none⟩)),(13,vp),(18,vf.val),(19,.int .i64 ((m:Int) - 1))]) (way.length,List.replicate (way.length+1) ⟨0,0,0⟩) qy ?_ ?_
 ·exact ⟨S,zA3 _,fr0⟩
 clear S fr0;rintro ⟨m,F⟩ h ⟨S,g1,g2⟩;have hFl:=g2.len;dsimp only;all_goals (repeat' (first|refine qg ?_|refine qi rfl ?_|refine qj ?_|refine qA ?_|refine qp ?_|(refine qc 21 ?_;refine mv ?_;(first|(refine cS ?_ ?_<;>intro hc))<;>(refine qf ?_))))
 ·obtain ⟨i,rfl⟩:∃ i,m=i+1:=⟨m - 1,by omega⟩
  rw [show ((i+1:Nat):Int) - 1=(i:Int) by omega];have hi:i<way.length:=by omega
  (repeat (refine qg ?_));refine qc 23 ?_;refine mv ?_;refine mv ?_;refine jI S rfl rfl ?_;refine fS S rfl rfl ?_;refine sE2 (y:=(⟨(F.getD (i:Int).toNat default).s,(F.getD (i:Int).toNat default).t,-1⟩:B3)) S rfl rfl ?_;clear S;intro h S;refine qf ?_;replace S:Hs h0 h [.sl vf.val 91 3 e3 (F.set i ⟨(F.getD i default).s,(F.getD i default).t,-1⟩),.sl vp 3 1 eI pl,.sl vst 3 1 eI stops,.blk b4 pv.cs 28]:=S;all_goals (repeat' (first|refine qg ?_|refine qp ?_|(refine qc 24 ?_;refine mv ?_;refine ad ?_;refine mv ?_;refine qf ?_)))
  refine qL (σ:=Nat×B3) (fun (kk,xb) h'=>Hs h0 h' [.sl vf.val 91 3 e3 (F.set i xb),.sl vp 3 1 eI pl,.sl vst 3 1 eI stops,.blk b4 pv.cs 28]∧i<kk∧kk≤way.length+1∧(∀ j,i<j→j<kk→jo (ZK pl) (seg way i j)≤k)∧((kk=i+1∧xb=⟨(F.getD i default).s,(F.getD i default).t,-1⟩)∨(i+1<kk∧(∃ e:Nat,xb.e=e∧i<e∧e≤way.length∧jo (ZK pl) (seg way i e)≤k∧xb.s=tour (ZJ p.tabs) (seg way i e)+(F.getD e default).s∧xb.t=1+(F.getD e default).t)∧∀ j,i<j→j<kk→xb.s≤tour (ZJ p.tabs) (seg way i j)+(F.getD j default).s))) (fun (kk,xb)=>way.length+1 - kk) (fun (kk,xb)=>[(1,vq),(2,vw),(3,.int .i64 k),(4,.pointer (some ⟨b4,0,none⟩)),(13,vp),(18,vf.val),(19,.int .i64 i),(20,.int .i64 kk)]) (i+1,⟨(F.getD i default).s,(F.getD i default).t,-1⟩) qy ?_ ?_
  ·exact ⟨S,by omega,by omega,fun j h1 h2=>by omega,.inl ⟨rfl,rfl⟩⟩
  clear S;rintro ⟨kk,xb⟩ h ⟨S,f1,f2,f3,f4⟩;have hwi:=hwr _ (qJ hi);have fin3:(∀ j,kk≤j→j≤way.length→¬ jo (ZK pl) (seg way i j)≤k)→FrI p (ZK pl) k way i (F.set i xb):=fun hn=>by
   have hgs:∀ j,(F.set i xb).getD j default=if i=j then xb else F.getD j default:=fun j=>Va (by omega)
   have one:jo (ZK pl) (seg way i (i+1))≤k:=by
    rw [gY (zA3 _) hi,qdp,zC0];have:=hle _ (qJ hi);simp only [jo];omega
   obtain ⟨f5,⟨e,e1,e2,e3_,e4,e5,e6⟩,f8⟩:i+1<kk∧(∃ e:Nat,xb.e=e∧i<e∧e≤way.length∧jo (ZK pl) (seg way i e)≤k∧xb.s=tour (ZJ p.tabs) (seg way i e)+(F.getD e default).s∧xb.t=1+(F.getD e default).t)∧∀ j,i<j→j<kk→xb.s≤tour (ZJ p.tabs) (seg way i j)+(F.getD j default).s:=by
    rcases f4 with ⟨f5,-⟩|f5
    ·exact absurd one (hn (i+1) (by omega) (by omega))
    ·exact f5
   have hb3:=g2.bnd e e3_;have htb:=GY hP.tabs (l:=seg way i e) fun t ht=>(hwr t (ww ht)).2;rw [wz (by omega) e3_] at htb;refine ⟨by rw [zF5];exact hFl,fun j h1 h2=>?_,?_,fun j h1=>?_,fun j h1 h2=>?_⟩
   ·rw [hgs j];by_cases e:i=j
    ·subst e;rw [if_pos rfl];refine BestC.step (F:=fun j=>(F.getD j default).s) hi (fun j h3 h4=>g2.best j (by omega) h4) fun j h3 h4 h5=>f8 j h3 ?_;rcases zA7 j kk with r|r
     ·exact r
     ·exact absurd h5 (hn j r h4)
    ·rw [if_neg e];exact g2.best j (by omega) h2
   ·rw [hgs,if_neg (by omega)];exact g2.last
   ·rw [hgs j];by_cases e:i=j
    ·subst e;rw [if_pos rfl];omega
    ·rw [if_neg e];exact g2.bnd j h1
   ·rw [hgs j];by_cases e:i=j
    ·subst e;rw [if_pos rfl];exact ⟨_,e1,e2,e3_,e4,by rw [hgs,if_neg (by omega)];exact e5⟩
    ·rw [if_neg e];obtain ⟨e',q1,q2,q3,q4,q5⟩:=g2.stp_ j (by omega) h2;exact ⟨e',q1,q2,q3,q4,by rw [hgs,if_neg (by omega)];exact q5⟩
  all_goals (repeat' (first|refine qg ?_|refine qi rfl ?_|refine qA ?_|(refine qc 25 ?_;refine mv ?_;refine mv ?_;refine jZ S ?_;(first|(refine cS ?_ ?_<;>intro hc))<;>(refine mv ?_;(first|refine off ?_|refine mv ?_);(first|refine off ?_|refine mv ?_);(first|refine off ?_|refine mv ?_);(first|refine off ?_|refine mv ?_);(first|(refine off ?_;(first|(refine off ?_;refine off ?_;(refine off ?_)<;>(refine vl ?_;refine qf ?_))))|skip)))))
  ·have hkk:kk≤way.length:=by omega
   refine su0 i kk S w rw_ cw ?_;intro vm hrm hcm;((skip));replace hrm:zo h0 vm 1 eI (seg way i kk):=hrm;have hsg:=wz (w:=way) (i:=i) (j:=kk) (by omega) hkk;have hsl3:(seg way i kk).length≤1000000:=by omega
   have hsr3:∀ t∈seg way i kk,0≤t∧t<p.tabs.length:=fun t ht=>hwr t (ww ht);have hsr4:∀ t∈seg way i kk,0≤t∧t<pl.length:=fun t ht=>by rw [hpl];exact hsr3 t ht
   have htb:=GY hP.tabs (l:=seg way i kk) fun t ht=>(hsr3 t ht).2;obtain ⟨y,hy⟩:∃ y,F.getD kk default=y:=⟨_,rfl⟩
   have hgk:(F.set i xb).getD (kk:Int).toNat default=y:=by
    show (F.set i xb).getD kk default=y
    rw [Va (by omega),if_neg (by omega)];exact hy
   have hyb:=g2.bnd kk hkk;rw [hy] at hyb;(refine qx rfl rfl rfl rfl rfl ((qbw S.wf vp pl (Rd.of_sl S (.there .here)) vm (seg way i kk) (hrm.ext w S.ext) hsl3 hsr4 hld2).mono ?_);rintro _ h ⟨rfl,s⟩)<;>(replace S:=S.join0 s;clear s;refine mv ?_;(first|(first|(refine cS ?_ ?_<;>intro hc)))<;>(refine vl ?_;refine qf ?_))
   ·all_goals (repeat' (first|refine qg ?_|refine qi rfl ?_|refine qj ?_|refine qp ?_))
    (repeat (refine qg ?_));refine xZ (id:=27) (j1:=20) (rd:=[(10,(0,1)),(16,(0,1)),(20,(0,1))]) (fun b1=>[some (Xr vf.val),some (Xr vf.val),some b1]) S (HintOk.direct) ?_;clear S;intro b1 h S;refine qh ?_;(first|(refine lB S rfl rfl ?_<;>refine qf ⟨⟨by (first|exact True.intro),rfl⟩,?_⟩));refine qh ?_;(first|(refine mv ?_<;>refine qf ⟨⟨by (first|exact True.intro),rfl⟩,?_⟩));refine qh ?_;(first|(refine mv ?_<;>refine qf ⟨⟨by (first|exact True.intro),rfl⟩,?_⟩));refine qh ?_;(first|(refine mv ?_<;>refine qf ⟨⟨by (first|exact True.intro),rfl⟩,?_⟩));refine qh ?_;refine su0 i kk S w rw_ cw ?_;intro vm2 hrm2 hcm2;refine qf ⟨⟨by (first|exact True.intro),rfl⟩,?_⟩;(skip);replace hrm2:zo h0 vm2 1 eI (seg way i kk):=hrm2;((refine qh ?_;first|refine qx rfl rfl rfl rfl rfl ((WG S.wf pv p (H.ext w S.ext) hP.tabs vm2 (seg way i kk) (hrm2.ext w S.ext) hsl3 (fun t ht=>(hsr3 t ht).2)).mono ?_));rintro _ h ⟨rfl,x⟩)<;>((refine qf ⟨⟨True.intro,?_⟩,?_⟩;(focus ((show keepsX _ _ _ _ _;simp only [keepsX];(repeat' (first|exact True.intro|refine And.intro ?_ ?_));all_goals (intro hw;first|exact x.ext.old _ S.bB|exact x.ext.old _ (S.bR (by first|grind)))))));replace S:=S.join0 x;clear x;have hq1:=hyb.1.1;have hq2:=hyb.1.2;have hq3:=hyb.2.1;have hq4:=hyb.2.2;rw [← hgk] at hq1 hq2 hq3 hq4;refine qh ?_;(first|(refine mv ?_<;>refine qf ⟨⟨by (first|exact True.intro),rfl⟩,?_⟩));refine qh ?_;(first|(refine mv ?_<;>refine qf ⟨⟨by (first|exact True.intro),rfl⟩,?_⟩));refine qh ?_;(first|(refine jI S rfl rfl ?_<;>refine qf ⟨⟨by (first|exact True.intro),rfl⟩,?_⟩));refine qh ?_;(first|(refine fS S rfl rfl ?_<;>refine qf ⟨⟨by (first|exact True.intro),rfl⟩,?_⟩));refine qh ?_;(first|(refine jT S rfl rfl ?_<;>refine qf ⟨⟨by (first|exact Or.inr (congrArg some (QG _ _ _ _))),rfl⟩,?_⟩));refine qh ?_;(first|(refine ad ?_<;>refine qf ⟨⟨by (first|exact True.intro),rfl⟩,?_⟩));refine qh ?_;(first|(refine mv ?_<;>refine qf ⟨⟨by (first|exact True.intro),rfl⟩,?_⟩));refine qh ?_;(first|(refine mv ?_<;>refine qf ⟨⟨by (first|exact True.intro),rfl⟩,?_⟩));refine qh ?_;(first|(refine jI S rfl rfl ?_<;>refine qf ⟨⟨by (first|exact True.intro),rfl⟩,?_⟩));refine qh ?_;(first|(refine fS S rfl rfl ?_<;>refine qf ⟨⟨by (first|exact True.intro),rfl⟩,?_⟩));refine qh ?_;(first|(refine jT S rfl rfl ?_<;>refine qf ⟨⟨by (first|exact Or.inr (congrArg some (QG _ _ _ _))),rfl⟩,?_⟩));refine qh ?_;(first|(refine ad ?_<;>refine qf ⟨⟨by (first|exact True.intro),rfl⟩,?_⟩));refine qh ?_;(first|(refine mv ?_<;>refine qf ⟨⟨by (first|exact True.intro),rfl⟩,?_⟩));refine qh ?_;(first|(refine vl ?_<;>refine qf ⟨⟨by (first|exact True.intro),rfl⟩,?_⟩));refine fl S rfl rfl S.gB ?_;refine qh ?_;(first|((refine sB S rfl rfl ?_;have S0:=S;clear S;intro h S);refine qf ⟨⟨True.intro,?_⟩,?_⟩;(focus ((show keepsX _ _ _ _ _;simp only [keepsX];(repeat' (first|exact True.intro|refine And.intro ?_ ?_));all_goals (intro hw;first|exact absurd hw (by decide +kernel)))));clear S0));refine jw ?_)
    rw [hgk] at S;replace S:Hs h0 h [.blk b1 (e3 ⟨tour (ZJ p.tabs) (seg way i kk)+y.s,1+y.t,kk⟩) 91,.sl vf.val 91 3 e3 (F.set i xb),.sl vp 3 1 eI pl,.sl vst 3 1 eI stops,.blk b4 pv.cs 28]:=S;have hgi:(F.set i xb).getD (i:Int).toNat default=xb:=by
     show (F.set i xb).getD i default=xb
     rw [Va (by omega),if_pos rfl]
    have hsl4:(F.set i xb).length=way.length+1:=by rw [zF5];exact hFl
    all_goals (repeat' (first|refine qg ?_|(refine qc 28 ?_;refine mv ?_;refine mv ?_;refine jI S rfl rfl ?_;refine jT S rfl rfl ?_;(refine al S ?_;clear S;intro b h S);(first|(refine sB S rfl rfl ?_;clear S;intro h S));refine qf ?_)))
    rw [hgi] at S;replace S:Hs h0 h [.blk b (e3 xb) 91,.blk b1 (e3 ⟨tour (ZJ p.tabs) (seg way i kk)+y.s,1+y.t,kk⟩) 91,.sl vf.val 91 3 e3 (F.set i xb),.sl vp 3 1 eI pl,.sl vst 3 1 eI stops,.blk b4 pv.cs 28]:=S;have hmono:∀ z:B3,z.s=tour (ZJ p.tabs) (seg way i kk)+y.s→z.t=1+y.t→z.e=(kk:Int)→(xb.e<0∨z.s≤xb.s)→(∃ e:Nat,z.e=e∧i<e∧e≤way.length∧jo (ZK pl) (seg way i e)≤k∧z.s=tour (ZJ p.tabs) (seg way i e)+(F.getD e default).s∧z.t=1+(F.getD e default).t)∧∀ j,i<j→j<kk+1→z.s≤tour (ZJ p.tabs) (seg way i j)+(F.getD j default).s:=fun z z1 z2 z3 z4=>by
     refine ⟨⟨kk,z3,f1,hkk,by assumption,by rw [z1,hy],by rw [z2,hy]⟩,fun j h1 h2=>?_⟩;rcases zA7 j kk with r|r
     ·rcases f4 with ⟨f5,-⟩|⟨f5,⟨e,f6,f7,-⟩,f8⟩
      ·omega
      ·have:=f8 j h1 r;rcases z4 with z4|z4
       ·omega
       ·omega
     ·obtain rfl:j=kk:=by omega
      rw [z1,hy];exact Int.le_refl _
    have hkeep:¬ xb.e<0→¬ (tour (ZJ p.tabs) (seg way i kk)+y.s<xb.s)→i+1<kk∧(∃ e:Nat,xb.e=e∧i<e∧e≤way.length∧jo (ZK pl) (seg way i e)≤k∧xb.s=tour (ZJ p.tabs) (seg way i e)+(F.getD e default).s∧xb.t=1+(F.getD e default).t)∧∀ j,i<j→j<kk+1→xb.s≤tour (ZJ p.tabs) (seg way i j)+(F.getD j default).s:=fun z1 z2=>by
     rcases f4 with ⟨f5,rfl⟩|⟨f5,f6,f8⟩
     ·exact absurd (show (-1:Int)<0 by omega) z1
     ·refine ⟨f5,f6,fun j h1 h2=>?_⟩;rcases zA7 j kk with r|r
      ·exact f8 j h1 r
      ·obtain rfl:j=kk:=by omega
       rw [hy];omega
    have f3':∀ j,i<j→j<kk+1→jo (ZK pl) (seg way i j)≤k:=fun j h1 h2=>by
     rcases zA7 j kk with r|r
     ·exact f3 j h1 r
     ·obtain rfl:j=kk:=by omega
      assumption
    all_goals (repeat' (first|refine qi rfl ?_|refine qj ?_|(refine qc 29 ?_;refine vl ?_;refine lB S rfl rfl ?_;(first|(refine cS ?_ ?_<;>intro hc))<;>(refine mv ?_;(first|refine off ?_|(refine vl ?_));(first|refine off ?_|(refine lB S rfl rfl ?_));(first|refine off ?_|(refine vl ?_));(first|refine off ?_|(refine lB S rfl rfl ?_));(first|refine off ?_|(first|(refine cS ?_ ?_<;>intro hc)))<;>(refine vl ?_;refine mv ?_;(first|refine off ?_|(refine vl ?_));(first|refine off ?_|(refine lB S rfl rfl ?_));(first|refine off ?_|(refine vl ?_));(first|refine off ?_|(refine lB S rfl rfl ?_));(first|refine off ?_|(first|(refine cS ?_ ?_<;>intro hc)))<;>((first|refine off ?_|refine mv ?_);(first|refine off ?_|(refine vl ?_));(first|refine off ?_|(refine lB S rfl rfl ?_));(first|refine off ?_|(refine vl ?_));(first|refine off ?_|(refine lB S rfl rfl ?_));(first|refine off ?_|(first|(refine cS ?_ ?_<;>intro hc)))<;>((first|refine off ?_|refine vl ?_);refine vl ?_;refine qf ?_)))))))
    rotate_left;rotate_left;rotate_left
    ·rename_i d1 d2 d3
     all_goals (repeat' (first|(refine qc 26 ?_;refine mv ?_;refine ad ?_;refine mv ?_;refine qf ?_)))
     refine ⟨(kk+1,xb),?_,?_,qy⟩
     ·show way.length+1 - (kk+1)<way.length+1 - kk;omega
     ·have:=hkeep d1 d2;exact ⟨S.pick,by omega,by omega,f3',.inr ⟨by omega,this.2.1,this.2.2⟩⟩
    ·rename_i d1 d2
     all_goals (repeat' (first|(refine qc 26 ?_;refine mv ?_;refine ad ?_;refine mv ?_;refine qf ?_)))
     refine ⟨(kk+1,xb),?_,?_,qy⟩
     ·show way.length+1 - (kk+1)<way.length+1 - kk;omega
     ·have:=hkeep d1 d2;exact ⟨S.pick,by omega,by omega,f3',.inr ⟨by omega,this.2.1,this.2.2⟩⟩
    all_goals
     (repeat (refine qg ?_));refine qc 30 ?_;refine mv ?_;refine mv ?_;refine lB S rfl rfl ?_;refine jI S rfl rfl ?_;refine sE2 (y:=(⟨tour (ZJ p.tabs) (seg way i kk)+y.s,1+y.t,kk⟩:B3)) S rfl rfl ?_;clear S;intro h S;refine qf ?_;replace S:Hs h0 h [.blk b (e3 xb) 91,.blk b1 (e3 ⟨tour (ZJ p.tabs) (seg way i kk)+y.s,1+y.t,kk⟩) 91,.sl vf.val 91 3 e3 ((F.set i xb).set i ⟨tour (ZJ p.tabs) (seg way i kk)+y.s,1+y.t,kk⟩),.sl vp 3 1 eI pl,.sl vst 3 1 eI stops,.blk b4 pv.cs 28]:=S;rw [List.set_set] at S;all_goals (repeat' (first|(refine qc 26 ?_;refine mv ?_;refine ad ?_;refine mv ?_;refine qf ?_)))
     refine ⟨(kk+1,⟨tour (ZJ p.tabs) (seg way i kk)+y.s,1+y.t,kk⟩),?_,?_,qy⟩
     ·show way.length+1 - (kk+1)<way.length+1 - kk;omega
     ·have:=hmono ⟨tour (ZJ p.tabs) (seg way i kk)+y.s,1+y.t,kk⟩ rfl rfl rfl (by first|exact .inl (by assumption)|exact .inr (Int.le_of_lt (by assumption))|exact .inr (Int.le_of_eq (by assumption)));exact ⟨S.pick,by omega,by omega,f3',.inr ⟨by omega,this.1,this.2⟩⟩
   ·have hF:=fin3 fun j h1 h2 h3=>by
     have:=qbG (ld:=ZK pl) (w:=way) (i:=i) (j:=kk) (j':=j) (fun t _=>(hld t).1) (by omega) h1 h2;omega
    all_goals (repeat' (first|refine qi rfl ?_|refine qA ?_|(refine qc 22 ?_;refine mv ?_;refine sb ?_;refine mv ?_;refine qf ?_)))
    refine ⟨(i,F.set i xb),?_,?_,qy⟩
    ·show i<i+1;omega
    ·exact ⟨S,by omega,hF⟩
  ·have hF:=fin3 fun j h1 h2 h3=>by omega
   all_goals (repeat' (first|(refine qc 22 ?_;refine mv ?_;refine sb ?_;refine mv ?_;refine qf ?_)))
   refine ⟨(i,F.set i xb),?_,?_,qy⟩
   ·show i<i+1;omega
   ·exact ⟨S,by omega,hF⟩
 ·obtain rfl:m=0:=by omega
  clear g1;have S:=S.nilS (e:=71) (z:=3) (enc:=JC);have S:=S.owNil (f:=QN);all_goals (repeat' (first|refine qg ?_|refine qp ?_|(refine qc 31 ?_;refine mv ?_;refine qf ?_)|(refine qc 32 ?_;refine mv ?_;refine qf ?_)))
  replace S:Hs h0 h [JG QN [],.sl (.slice none 0 0) 71 3 JC [],.sl vf.val 91 3 e3 F,.sl vp 3 1 eI pl,.sl vst 3 1 eI stops,.blk b4 pv.cs 28]:=S;refine qL (σ:=Nat×Value×List Tr_) (fun (i,vo,ts) h'=>Hs h0 h' [JG QN ts,.sl vo 71 3 JC ts,.sl vf.val 91 3 e3 F,.sl vp 3 1 eI pl,.sl vst 3 1 eI stops,.blk b4 pv.cs 28]∧i≤way.length∧qc0 (ZK pl) k (ts.map (·.ta))∧(ts.map (·.ta)).flatten=way.take i∧(∀ x∈ts,x.pl=jo (ZK pl) x.ta∧x.st=tour (ZJ p.tabs) x.ta)∧cost (ZJ p.tabs) (ts.map (·.ta))+(F.getD i default).s=(F.getD 0 default).s∧ts.length≤i) (fun (i,vo,ts)=>way.length - i) (fun (i,vo,ts)=>[(2,vw),(4,.pointer (some ⟨b4,0,none⟩)),(13,vp),(18,vf.val),(23,vo),(24,.int .i64 i)]) (0,.slice none 0 0,[]) qy ?_ ?_
  ·exact ⟨S,zB0 _,fun p hp=>(by cases hp),rfl,fun x hx=>(by cases hx),by simp [cost],zA3 _⟩
  clear S;rintro ⟨i,vo,ts⟩ h ⟨S,f1,f2,f3,f4,f5,f6⟩;all_goals (repeat' (first|refine qg ?_|refine qi rfl ?_|refine qj ?_|refine qA ?_|refine qp ?_|(refine qc 33 ?_;refine mv ?_;refine mv ?_;refine jZ S ?_;(first|(refine cS ?_ ?_<;>intro hc))<;>(refine qf ?_))))
  ·have hi:i<way.length:=by omega
   obtain ⟨e,e1,e2,e3_,e4,e5⟩:=g2.stp_ i (zB0 _) hi;have he:(F.getD (i:Int).toNat default).e=(e:Int):=e1;all_goals (repeat' (first|(refine qc 35 ?_;refine mv ?_;refine mv ?_;refine jI S rfl rfl ?_;refine fS S rfl rfl ?_;refine jT S rfl rfl ?_;refine mv ?_;refine sb ?_)))
   refine Y5 (z:=1) (by_:=8) (enc:=eI) (y0:=0) S rfl rfl rfl rfl rfl rfl rfl rfl rfl (by intro _;rfl) (by first|omega) rfl rfl ?_;clear S;intro v h S;refine mv ?_;refine qf ?_;rw [he] at S;rw [show ((e:Int) - (i:Int)).toNat=e - i by omega] at S;obtain ⟨sl_,rfl⟩:=S.sV v;all_goals (repeat' (first|refine qg ?_|(refine qc 36 ?_;(iterate 3 refine mv ?_);skip)))
   refine su0 i way.length S w rw_ cw ?_;intro vm hrm hcm;have hml:((way.drop i).take (way.length - i)).length=way.length - i:=by simp
   refine cpy S (hrm.ext w S.ext) hcm (by simp;omega) (by rw [hml];simp;omega) (fun h S=>?_);rw [List.length_replicate] at S;have hseg:((way.drop i).take (way.length - i)).take (e - i)=seg way i e:=by
    unfold seg;rw [List.take_take,zE5 (by omega)]
   rw [hseg] at S;have hsgl:=wz (w:=way) (i:=i) (j:=e) (by omega) e3_;have hsl3:(seg way i e).length≤1000000:=by omega
   have hsr3:∀ t∈seg way i e,0≤t∧t<p.tabs.length:=fun t ht=>hwr t (ww ht);have hsr4:∀ t∈seg way i e,0≤t∧t<pl.length:=fun t ht=>by rw [hpl];exact hsr3 t ht
   replace S:Hs h0 h [.sl sl_.val 3 1 eI (seg way i e),JG QN ts,.sl vo 71 3 JC ts,.sl vf.val 91 3 e3 F,.sl vp 3 1 eI pl,.sl vst 3 1 eI stops,.blk b4 pv.cs 28]:=S;(refine qf ?_);(repeat (refine qg ?_));refine jm (id:=37) [(5,(0,1))] [some (b4)] ?_;refine qh ?_;(first|(refine mv ?_<;>refine qf ⟨⟨by (first|exact True.intro),rfl⟩,?_⟩));refine qh ?_;(first|(refine mv ?_<;>refine qf ⟨⟨by (first|exact True.intro),rfl⟩,?_⟩));refine qh ?_;(first|(refine mv ?_<;>refine qf ⟨⟨by (first|exact True.intro),rfl⟩,?_⟩));refine qh ?_;(first|(refine mv ?_<;>refine qf ⟨⟨by (first|exact True.intro),rfl⟩,?_⟩));((refine qh ?_;first|refine qx rfl rfl rfl rfl rfl ((qbw S.wf vp pl (Rd.of_sl S (.there (.there (.there (.there .here))))) sl_.val (seg way i e) (Rd.of_sl S .here) hsl3 hsr4 hld2).mono ?_));rintro _ h ⟨rfl,x⟩)<;>((refine qf ⟨⟨True.intro,?_⟩,?_⟩;(focus ((show keepsX _ _ _ _ _;simp only [keepsX];(repeat' (first|exact True.intro|refine And.intro ?_ ?_));all_goals (intro hw;first|exact x.ext.old _ S.bB)))));replace S:=S.join0 x;clear x;refine qh ?_;(first|(refine lB S rfl rfl ?_<;>refine qf ⟨⟨by (first|exact Or.inr rfl),rfl⟩,?_⟩));refine qh ?_;(first|(refine mv ?_<;>refine qf ⟨⟨by (first|exact True.intro),rfl⟩,?_⟩)))
   ((refine qh ?_;first|refine qx rfl rfl rfl rfl rfl ((WG S.wf pv p (H.ext w S.ext) hP.tabs sl_.val (seg way i e) (Rd.of_sl S .here) hsl3 (fun t ht=>(hsr3 t ht).2)).mono ?_));rintro _ h ⟨rfl,x⟩)<;>((refine qf ⟨⟨True.intro,?_⟩,?_⟩;(focus ((show keepsX _ _ _ _ _;simp only [keepsX];(repeat' (first|exact True.intro|refine And.intro ?_ ?_));all_goals (intro hw;first|exact absurd hw (by decide +kernel))))));replace S:=S.join0 x;clear x;refine qh ?_;(first|(refine vl ?_<;>refine qf ⟨⟨by (first|exact True.intro),rfl⟩,?_⟩));refine qh ?_;(first|((refine one 3 S ?_;have S0:=S;clear S;intro u h S);refine qf ⟨⟨True.intro,?_⟩,?_⟩;(focus ((show keepsX _ _ _ _ _;simp only [keepsX];(repeat' (first|exact True.intro|refine And.intro ?_ ?_));all_goals (intro hw;first|exact absurd hw (by decide +kernel)))));clear S0)))
   obtain ⟨so,rfl⟩:=S.sV vo;refine qh ?_;refine app (y0:=(⟨sl_,seg way i e,jo (ZK pl) (seg way i e),tour (ZJ p.tabs) (seg way i e)⟩:Tr_)) S rfl rfl ?_;have S0:=S;clear S;intro v1 h S;refine qf ⟨⟨True.intro,?_⟩,?_⟩;(focus ((show keepsX _ _ _ _ _;simp only [keepsX];(repeat' (first|exact True.intro|refine And.intro ?_ ?_));all_goals (intro hw;first|exact absurd hw (by decide +kernel)))));clear S0;(refine qh ?_;(first|(refine mv ?_<;>refine qf ⟨⟨by (first|exact True.intro),rfl⟩,?_⟩));refine jw ?_);obtain ⟨tr,htr⟩:∃ tr:Tr_,tr=⟨sl_,seg way i e,jo (ZK pl) (seg way i e),tour (ZJ p.tabs) (seg way i e)⟩:=⟨_,rfl⟩
   rw [← htr] at S;replace S:Hs h0 h [.sl v1 71 3 JC (ts ++ [tr]),.sl sl_.val 3 1 eI (seg way i e),JG QN ts,.sl vf.val 91 3 e3 F,.sl vp 3 1 eI pl,.sl vst 3 1 eI stops,.blk b4 pv.cs 28]:=S;have S:=(show Hs h0 h [.sl sl_.val 3 1 eI (seg way i e),JG QN ts,.sl v1 71 3 JC (ts ++ [tr]),.sl vf.val 91 3 e3 F,.sl vp 3 1 eI pl,.sl vst 3 1 eI stops,.blk b4 pv.cs 28] from S.pick)
   have esl:Rs.sl sl_.val 3 1 eI (seg way i e)=QN tr:=by rw [htr]
   rw [esl] at S;have S:=Hs.owApp (f:=QN) (g:=tr) S;have hta:tr.ta=seg way i e:=by rw [htr]
   have hmap:(ts ++ [tr]).map (·.ta)=ts.map (·.ta) ++ [seg way i e]:=by rw [zC9,List.map_singleton,hta]
   all_goals (repeat' (first|(refine qc 34 ?_;refine mv ?_;refine mv ?_;refine jI S rfl rfl ?_;refine fS S rfl rfl ?_;refine jT S rfl rfl ?_;refine mv ?_;refine qf ?_)))
   rw [he];refine ⟨(e,v1,ts ++ [tr]),?_,?_,qy⟩
   ·show way.length - e<way.length - i;omega
   ·refine ⟨S,e3_,fun c hc=>?_,?_,fun x hx=>?_,?_,by simp;omega⟩
    ·rw [hmap] at hc;rcases zB8.1 hc with r|r
     ·exact f2 c r
     ·rw [zB5.1 r];refine ⟨fun z=>?_,e4⟩;rw [z] at hsgl;simp at hsgl;omega
    ·rw [hmap,List.flatten_append,f3];simp only [List.flatten_singleton];unfold seg;rw [List.take_append_drop_take,show i+(e - i)=e by omega]
    ·rcases zB8.1 hx with r|r
     ·exact f4 x r
     ·rw [zB5.1 r,htr];exact ⟨rfl,rfl⟩
    ·rw [hmap,Gi,← f5,e5];simp only [cost];omega
  ·all_goals (repeat' (first|(refine qc 38 ?_;(iterate 3 refine mv ?_);refine qf ?_)))
   refine qw ⟨_,rfl,?_⟩;obtain rfl:i=way.length:=by omega
   rw [zF8 (zA3 _)] at f3;have hl:=g2.last;refine .inr ⟨hle,vo,ts,rfl,S.pick,f2,f3,f4,?_⟩;have hb:=g2.best 0 (zA3 _) (zB0 _);rw [← f5,hl,Int.add_zero] at hb;exact hb
abbrev vM (ws:List (List UInt8)) (i:Nat):List UInt8:=ws.getD i default
def qev:List UInt8:=[103,117,101,115,116]
def PR:List UInt8:=[102,114,105,101,110,100]
def qfu:List UInt8:=[102,101,117,100]
def qeo (w:List UInt8):Prop:=w=[45]∨w=[104]∨w=[97]∨w=[104,97]
instance (w:List UInt8):Decidable (qeo w):=inferInstanceAs (Decidable (_∨_))
def GV (w:List UInt8):List UInt8:=if w=[45] then [] else w
def GP (ws:List (List UInt8)):Prop:=8≤ws.length∧JH (vM ws 4)∧JH (vM ws 5)∧qeo (vM ws 7)
def qeK (ws:List (List UInt8)):Gu:={ name:=vM ws 1,rank:=GV (vM ws 2),court:=GV (vM ws 3),since:=zJ (vM ws 4),side:=zJ (vM ws 5),diet:=GV (vM ws 6),host:=decide (vM ws 7=[104]∨vM ws 7=[104,97]),access:=decide (vM ws 7=[97]∨vM ws 7=[104,97]),tg:=ws.drop 8 }
open Classical in
noncomputable def qg7 (r:Rl) (ws:List (List UInt8)):Rl×Int :=
 if vM ws 0=qev then (if GP ws then YE r (qeK ws) else (r,3))
 else if vM ws 0=PR∨vM ws 0=qfu then (if ws.length=3 then ZF r (vM ws 1) (vM ws 2) (if vM ws 0=PR then 1 else 2) else (r,3))
 else (r,3)
def qhb:List UInt8:=[32,45,32,104,32,97,32,104,97,32]
theorem WC (c:UInt8):∀ s:List UInt8,∀ w∈zQ c s,w.length≤s.length
 | [],w,h=>by simp [zQ] at h;subst h;simp
 | x :: s,w,h=>by
  unfold zQ at h;split at h
  ·rcases zE8.1 h with rfl|h
   ·simp
   ·have:=WC c s w h;simp;omega
  ·cases hs:zQ c s with
   | nil=>exact absurd hs (jR c s)
   | cons u r =>
    rw [hs] at h;simp only [Yn,List.singleton_append] at h;rcases zE8.1 h with rfl|h
    ·have:=WC c s u (by rw [hs];simp);simp;omega
    ·have:=WC c s w (by rw [hs];simp [h]);simp;omega
abbrev trV (x:Tr_):Value:=.agg (JC x).toArray
abbrev Tr_.trp (x:Tr_):Trp:=⟨x.ta,x.pl,x.st⟩
variable [Flag]
theorem WF {h0:AH} (w:WfH h0) (s:List UInt8) (hs:s.length≤1000000):Fn Tryz.prog Xh 122 [str s] h0 (fun v h'=>∃ k b,v = .tuple #[.int .i64 k,.bool b]∧qg1 s k b∧Hs h0 h' []):=by
 have S:=Hs.start w;refine qM (by first|rfl) Tryz.func122 rfl rfl ?_;all_goals (repeat' (first|refine qg ?_|(refine qc 0 ?_;refine mv ?_;refine mv ?_;refine qf ?_)))
 (repeat (refine qg ?_));first|refine Qg (σ:=Unit) (fun _ h'=>Hs h0 h' []∧1≤s.length∧s.length≤9∧(1<s.length→s.getD 0 default≠48)) (fun _=>[(0,str s)]) ?_ ?_
 ·all_goals (repeat' (first|refine qg ?_|refine qi rfl ?_|refine qj ?_|(refine qc 1 ?_;refine mv ?_;refine tl ?_;(first|(refine cS ?_ ?_<;>intro hc))<;>(refine mv ?_;(first|refine off ?_|refine mv ?_);(first|refine off ?_|refine tl ?_);(first|refine off ?_|(first|(refine cS ?_ ?_<;>intro hc)))<;>(refine vl ?_;refine mv ?_;(first|refine off ?_|refine mv ?_);(first|refine off ?_|refine tl ?_);(first|refine off ?_|(first|(refine cS ?_ ?_<;>intro hc)))<;>((first|refine off ?_|refine mv ?_);(first|refine off ?_|refine mv ?_);(first|refine off ?_|(refine ti ?_));(first|refine off ?_|(first|(refine cS ?_ ?_<;>intro hc)))<;>((first|refine off ?_|refine vl ?_);refine vl ?_;refine qf ?_)))))|(refine qc 2 ?_;refine mv ?_;refine mv ?_;refine qf ?_)))
  ·refine qw ⟨_,rfl,?_⟩;exact ⟨0,false,rfl,.inr ⟨rfl,fun q=>by have:=q.1;omega⟩,S⟩
  ·refine qw ⟨_,rfl,?_⟩;exact ⟨0,false,rfl,.inr ⟨rfl,fun q=>by have:=q.2.1;omega⟩,S⟩
  ·refine qw ⟨_,rfl,?_⟩;have hz:=qfw (c:=48) hc;exact ⟨0,false,rfl,.inr ⟨rfl,fun q=>q.2.2.1 (by omega) hz⟩,S⟩
  ·exact ⟨(),⟨S,by omega,by omega,fun _ q=>hc (by rw [show s.getD (Int.toNat 0) 0=s.getD 0 default from rfl,q];rfl)⟩,(qy)⟩
  ·exact ⟨(),⟨S,by omega,by omega,fun q=>by omega⟩,(qy)⟩
 clear S;rintro - h ⟨S,l1,l2,l3⟩;all_goals (repeat' (first|refine qg ?_|refine qp ?_|(refine qc 3 ?_;refine mv ?_;refine qf ?_)|(refine qc 4 ?_;refine mv ?_;refine qf ?_)))
 refine qL (σ:=Nat) (fun i h'=>Hs h0 h' []∧i≤s.length∧∀ j,j<i→ZI (s.getD j default)) (fun i=>s.length - i) (fun i=>[(0,str s),(4,.int .i64 (zJ (s.take i):Nat)),(5,.int .i64 i)]) 0 qy ?_ ?_
 ·exact ⟨S,zB0 _,fun j hj=>absurd hj (zB7 _)⟩
 clear S;rintro i h ⟨S,h1,h2⟩;have hb:=qc9 (s:=s) h2 (by omega);all_goals (repeat' (first|refine qg ?_|refine qi rfl ?_|refine qj ?_|refine qA ?_|refine qp ?_|(refine qc 5 ?_;refine mv ?_;refine mv ?_;refine tl ?_;(first|(refine cS ?_ ?_<;>intro hc))<;>(refine qf ?_))|(refine qc 7 ?_;refine mv ?_;refine mv ?_;refine ti ?_;(first|(refine cS ?_ ?_<;>intro hc))<;>(refine mv ?_;(first|refine off ?_|refine mv ?_);(first|refine off ?_|refine mv ?_);(first|refine off ?_|(refine ti ?_));(first|refine off ?_|(first|(refine cS ?_ ?_<;>intro hc)))<;>(refine vl ?_;refine qf ?_)))|(refine qc 8 ?_;refine mv ?_;refine mv ?_;refine qf ?_)))
 ·(try simp only [zA0] at *)
  refine qw ⟨_,rfl,?_⟩;exact ⟨0,false,rfl,.inr ⟨rfl,fun q=>by have:=q.2.2.2 i (by omega);unfold ZI at this;rw [JO] at this;omega⟩,S⟩
 ·(try simp only [zA0] at *)
  refine qw ⟨_,rfl,?_⟩;exact ⟨0,false,rfl,.inr ⟨rfl,fun q=>by have:=q.2.2.2 i (by omega);unfold ZI at this;rw [JO] at this;omega⟩,S⟩
 ·all_goals (repeat' (first|(refine qc 6 ?_;refine mv ?_;refine ad ?_;refine mv ?_;refine qf ?_)|(refine qc 9 ?_;refine mv ?_;refine ml ?_;refine mv ?_;refine mv ?_;refine ti ?_;refine sU ?_;refine cI ?_;refine ad ?_;refine mv ?_;refine qf ?_)))
  (try simp only [zA0] at *)
  have hi:i<s.length:=by omega
  have hd:ZI (s.getD i default):=by unfold ZI;rw [JO];omega
  have e:=YO hi;rw [JO] at e;have e2:(10:Int)*(zJ (s.take i):Nat)+(((s.getD i 0).toNat:Int) - 48)=(zJ (s.take (i+1)):Nat):=by
   unfold ZI at hd;rw [JO] at hd;omega
  rw [e2];refine ⟨i+1,?_,?_,qy⟩
  ·show s.length - (i+1)<s.length - i;omega
  ·exact ⟨S,by omega,Zf h2 hd⟩
 ·have hi:i=s.length:=by omega
  subst hi;rw [zD4];all_goals (repeat' (first|(refine qc 10 ?_;(iterate 3 refine mv ?_);refine qf ?_)))
  refine qw ⟨_,rfl,?_⟩;exact ⟨_,true,rfl,.inl ⟨rfl,⟨l1,l2,l3,h2⟩,rfl⟩,S⟩
theorem qby {h0:AH} (w:WfH h0) (pv:PbV) (p:Pb) (H:PbOk h0 pv p) (hv:ValidL p.tabs) (s:List UInt8) (hs:s.length≤100000) :
 Fn Tryz.prog Xh 63 [pv.val,str s] h0 (fun u h'=>∃ x:Tr_,u = .tuple #[trV x,.int .i64 (VA p.tabs (zQ 32 s))]∧(VA p.tabs (zQ 32 s)=0→x.trp=XG p.tabs (zQ 32 s))∧Hs h0 h' [QN x]):=by
 have S:=Hs.start w;have hr:=H.tab.rd;have hl:=H.tab.len;have hwl:=Qp 32 s;have hcs:s.countP (· == 32)≤s.length:=List.countP_le_length;have hwm:∀ u∈zQ 32 s,u.length≤100000:=fun u hu=>zD0 (WC 32 s u hu) hs;unfold PbV.val;refine qM (by first|rfl) Tryz.func63 rfl rfl ?_;all_goals (repeat' (first|refine qg ?_|(refine qc 0 ?_;(refine bx S ?_;clear S;intro b h S);(refine al S ?_;clear S;intro b h S);refine mv ?_;refine qf ?_)))
 rename_i b2 h2
 obtain ⟨b4,hnm⟩:∃ x,x=b:=⟨_,rfl⟩;subst hnm;all_goals (repeat' (first|(refine qc 1 ?_;refine mv ?_)))
 (refine qx rfl rfl rfl rfl rfl ((split_ok S.wf s [32] rfl (by omega)).mono ?_);rintro v6 h x)<;>(replace S:=S.join1 x;clear x;refine mv ?_;refine qf ?_)
 obtain ⟨ws,hws⟩:∃ ws,zQ 32 s=ws:=⟨_,rfl⟩
 replace S:Hs h0 h [.sl v6 9 1 eS (zQ 32 s),.blk b4 (JC default) 71,.blk b2 pv.cs 28]:=S;rw [hws] at S hwl hwm ⊢;have herr:∀ {h':AH} {rs:List Rs} (S:Hs h0 h' rs) {e:Int},e≠0→VA p.tabs ws=e→∃ x:Tr_,Value.tuple #[trV default,.int .i64 e] = .tuple #[trV x,.int .i64 (VA p.tabs ws)]∧(VA p.tabs ws=0→x.trp=XG p.tabs ws)∧Hs h0 h' [QN x]:=fun S e h1 h2 =>
  ⟨default,by rw [h2],fun q=>absurd (h2.symm.trans q) h1,Hs.nilS S.drop⟩
 (repeat (refine qg ?_));first|refine Qg (σ:=Unit) (fun _ h'=>Hs h0 h' [.sl v6 9 1 eS ws,.blk b4 (JC default) 71,.blk b2 pv.cs 28]∧YL ws) (fun _=>[(2,.pointer (some ⟨b2,0,none⟩)),(4,.pointer (some ⟨b4,0,none⟩)),(6,v6)]) ?_ ?_
 ·all_goals (repeat' (first|refine qg ?_|refine qi rfl ?_|(refine qc 2 ?_;refine mv ?_;refine yc S rfl rfl ?_;(first|(refine cS ?_ ?_<;>intro hc))<;>(refine mv ?_;(first|refine off ?_|refine mv ?_);(first|refine off ?_|(refine jI S rfl rfl ?_));(first|refine off ?_|(refine jT S rfl rfl ?_));(first|refine off ?_|(refine tS ?_ ?_<;>intro hc))<;>(refine vl ?_;refine mv ?_;(first|refine off ?_|refine mv ?_);(first|(refine off ?_;refine vl ?_;refine qf ?_)|skip))))))
  all_goals (try ((refine qx rfl rfl rfl rfl rfl ((qdS S.wf v6 ws (Rd.of_sl S .here) (by omega) []).mono ?_);rintro _ h ⟨⟨rfl,z⟩|⟨rfl,z⟩,x⟩)<;>(replace S:=S.join0 x;clear x;refine vl ?_;refine qf ?_)))
  all_goals (all_goals (repeat' (first|refine qg ?_|refine qi rfl ?_|refine qj ?_|(refine qc 3 ?_;refine vl ?_;(first|(refine sB S rfl rfl ?_;clear S;intro h S));refine mv ?_;refine qf ?_))))
  all_goals first
   | exact ⟨(),⟨S,by omega,by assumption,z⟩,(qy)⟩
   | skip
  all_goals (refine qw ⟨_,zk S rfl (by first|exact .there .here) (by exact rfl) (by exact rfl),?_⟩)
  all_goals refine herr S (by decide) (kZ fun q=>?_)
  all_goals first
   | exact q.2.2 z
   | (have hq:ws.getD (Int.toNat 0) default=[116,114,105,112]:=q.2.1;contradiction)
   | exact (by assumption:¬ ws.getD (Int.toNat 0) default=[116,114,105,112]) q.2.1
   | (have:=q.1;omega)
 clear S;rintro _ h ⟨S,hF⟩;have hw4:=hF.1;have hw1:(ws.getD (1:Int).toNat default).length≤1000000:=zD0 (hwm _ (qJ (show 1<ws.length by omega))) (by omega);have hw2:(ws.getD (2:Int).toNat default).length≤1000000:=zD0 (hwm _ (qJ (show 2<ws.length by omega))) (by omega);all_goals (repeat' (first|refine qg ?_|(refine qc 4 ?_;refine mv ?_;refine jI S rfl rfl ?_;refine jT S rfl rfl ?_)))
 (refine qx rfl rfl rfl rfl rfl ((WF S.wf (ws.getD (1:Int).toNat default) hw1).mono ?_);rintro _ h ⟨k1,c1,rfl,n1,x⟩)<;>(replace S:=S.join0 x;clear x;refine mv ?_;refine vl ?_;refine vl ?_;refine mv ?_;refine mv ?_;refine qf ?_)
 all_goals (repeat' (first|refine qg ?_|(refine qc 5 ?_;refine mv ?_;refine jI S rfl rfl ?_;refine jT S rfl rfl ?_)))
 (refine qx rfl rfl rfl rfl rfl ((WF S.wf (ws.getD (2:Int).toNat default) hw2).mono ?_);rintro _ h ⟨k2,c2,rfl,n2,x⟩)<;>(replace S:=S.join0 x;clear x;refine mv ?_;refine vl ?_;refine vl ?_;refine mv ?_;refine mv ?_;refine qf ?_)
 rcases n1 with ⟨rfl,p1,rfl⟩|⟨rfl,p1⟩
 rotate_left
 ·all_goals (repeat' (first|refine qg ?_|refine qi rfl ?_|(refine qc 6 ?_;refine mv ?_;refine vl ?_;refine mv ?_;refine off ?_;refine off ?_;refine vl ?_;refine qf ?_)|(refine qc 7 ?_;refine vl ?_;(first|(refine sB S rfl rfl ?_;clear S;intro h S));refine mv ?_;refine qf ?_)))
  refine qw ⟨_,zk S rfl (by first|exact .there .here) (by exact rfl) (by exact rfl),?_⟩;exact herr S (by decide) (vN fun q=>p1 q.1)
 rcases n2 with ⟨rfl,p2,rfl⟩|⟨rfl,p2⟩
 rotate_left
 ·all_goals (repeat' (first|refine qg ?_|refine qi rfl ?_|(refine qc 6 ?_;refine mv ?_;refine vl ?_;refine mv ?_;refine mv ?_;refine vl ?_;refine vl ?_;refine qf ?_)|(refine qc 7 ?_;refine vl ?_;(first|(refine sB S rfl rfl ?_;clear S;intro h S));refine mv ?_;refine qf ?_)))
  refine qw ⟨_,zk S rfl (by first|exact .there .here) (by exact rfl) (by exact rfl),?_⟩;exact herr S (by decide) (vN fun q=>p2 q.2)
 all_goals (repeat' (first|refine qg ?_|refine qi rfl ?_|refine qj ?_|(refine qc 6 ?_;refine mv ?_;refine vl ?_;refine mv ?_;refine mv ?_;refine vl ?_;refine vl ?_;refine qf ?_)|(refine qc 8 ?_;refine mv ?_;refine mv ?_;refine vl ?_;(refine al S ?_;clear S;intro b h S);(first|(refine sB S rfl rfl ?_;clear S;intro h S));refine qf ?_)))
 obtain ⟨b11,hnm⟩:∃ x,x=b:=⟨_,rfl⟩;subst hnm;replace S:Hs h0 h [.blk b11 (JC ⟨⟨none,0,0⟩,[],(zJ (wordAt ws 1):Nat),(zJ (wordAt ws 2):Nat)⟩) 71,.sl v6 9 1 eS ws,.blk b4 (JC default) 71,.blk b2 pv.cs 28]:=S;all_goals (repeat' (first|refine qp ?_|(refine qc 9 ?_;refine mv ?_;(refine dr S rfl rfl ?_;clear S;intro vq S);refine yc S rfl rfl ?_;refine mv ?_;refine qf ?_)))
 replace S:Hs h0 h [.blk b11 (JC ⟨⟨none,0,0⟩,[],(zJ (wordAt ws 1):Nat),(zJ (wordAt ws 2):Nat)⟩) 71,.sl vq 9 1 eS (ws.drop 3),.blk b4 (JC default) 71,.blk b2 pv.cs 28]:=S;obtain ⟨N,hN⟩:∃ N,ws.drop 3=N:=⟨_,rfl⟩
 have hNl:N.length=ws.length - 3:=by rw [← hN,zB4]
 have hNg:∀ j,j<N.length→N.getD j default=wordAt ws (3+j):=fun j hj=>by
  unfold wordAt;rw [← hN,zA2,zC3,zA2]
 have hdl:(ws.drop (3:Int).toNat).length=N.length:=by rw [show (3:Int).toNat=3 from rfl,hN]
 rw [hN] at S;(try rw [hdl]);replace S:Hs h0 h [.sl (.slice none 0 0) 3 1 eI [],.blk b11 (JC ⟨⟨none,0,0⟩,[],(zJ (wordAt ws 1):Nat),(zJ (wordAt ws 2):Nat)⟩) 71,.sl vq 9 1 eS N,.blk b4 (JC default) 71,.blk b2 pv.cs 28]:=S.nilS;refine qL (σ:=Nat×SlV) (fun (i,sv) h'=>Hs h0 h' [.sl sv.val 3 1 eI ((N.take i).map fun n=>(tix p.tabs n:Int)),.blk b11 (JC ⟨sv,[],(zJ (wordAt ws 1):Nat),(zJ (wordAt ws 2):Nat)⟩) 71,.sl vq 9 1 eS N,.blk b4 (JC default) 71,.blk b2 pv.cs 28]∧i≤N.length∧∀ j,j<i→Zp p.tabs (N.getD j default)) (fun (i,sv)=>N.length - i) (fun (i,sv)=>[(2,.pointer (some ⟨b2,0,none⟩)),(4,.pointer (some ⟨b4,0,none⟩)),(11,.pointer (some ⟨b11,0,none⟩)),(57,vq),(58,.int .i64 N.length),(59,.int .i64 i)]) (0,⟨none,0,0⟩) qy ?_ ?_
 ·exact ⟨S,zB0 _,fun j hj=>absurd hj (zB7 _)⟩
 clear S;rintro ⟨i,sv⟩ h ⟨S,g1,g2⟩;have htl:((N.take i).map fun n=>(tix p.tabs n:Int)).length≤200000:=by rw [zC5,zA9];omega
 all_goals (repeat' (first|refine qg ?_|refine qi rfl ?_|refine qj ?_|refine qA ?_|refine qp ?_|(refine qc 10 ?_;(first|(refine cS ?_ ?_<;>intro hc))<;>(refine qf ?_))))
 ·have hi:i<N.length:=by omega
  have hx0:N.getD (i:Int).toNat default=N.getD i default:=rfl;all_goals (repeat' (first|refine qg ?_|(refine qc 11 ?_;refine jI S rfl rfl ?_;refine jT S rfl rfl ?_;refine mv ?_;refine qf ?_)|(refine qc 12 ?_;refine vl ?_;refine lB S rfl rfl ?_;refine mv ?_)))
  rw [hx0];(refine qx rfl rfl rfl rfl rfl ((KR S.wf pv.vt.val p.tabs (H.tab.ext w S.ext) (N.getD i default)).mono ?_);rintro _ h ⟨⟨k,rfl,-,hk,hn,hmin⟩|⟨rfl,hnot⟩,x⟩)<;>(replace S:=S.join0 x;clear x;refine mv ?_;refine vl ?_;refine vl ?_;refine mv ?_;refine mv ?_;refine qf ?_)
  ·all_goals (repeat' (first|refine qg ?_|refine qi rfl ?_|refine qj ?_|(refine qc 13 ?_;refine mv ?_;refine vl ?_;refine qf ?_)|(refine qc 15 ?_;refine vl ?_;refine lB S rfl rfl ?_;refine mv ?_;(refine one 1 S ?_;clear S;intro u h S))))
   refine app (y0:=(k:Int)) S rfl rfl ?_;clear S;intro v1 h S;obtain ⟨s1,rfl⟩:=S.sV v1;((refine vl ?_);(first|(refine sB S rfl rfl ?_;clear S;intro h S));refine qf ?_);all_goals (repeat' (first|(refine qc 16 ?_;refine ad ?_;refine mv ?_;refine qf ?_)))
   refine ⟨(i+1,s1),?_,?_,qy⟩
   ·show N.length - (i+1)<N.length - i;omega
   ·have e:((N.take (i+1)).map fun n=>(tix p.tabs n:Int))=((N.take i).map fun n=>(tix p.tabs n:Int)) ++ [(k:Int)]:=by
     rw [zS hi,zC9,List.map_cons,List.map_nil,YS hk hn hmin]
    refine ⟨by rw [e];exact S,by (try dsimp only);omega,Zf g2 ⟨k,hk,hn⟩⟩
  ·all_goals (repeat' (first|refine qg ?_|refine qi rfl ?_|(refine qc 13 ?_;refine mv ?_;refine vl ?_;refine qf ?_)|(refine qc 14 ?_;refine vl ?_;(first|(refine sB S rfl rfl ?_;clear S;intro h S));refine mv ?_;refine qf ?_)))
   refine qw ⟨_,zk S rfl (by first|exact .there (.there (.there .here))) (by exact rfl) (by exact rfl),?_⟩;exact herr S (by decide) (PU hF ⟨p1,p2⟩ ⟨3+i,by omega,by omega,by
    rw [← hNg i hi];rintro ⟨j,h1,h2⟩;exact hnot.elim (fun q=>q hv) fun q=>q j h1 h2⟩)
 ·obtain rfl:i=N.length:=by omega
  rw [zF8 (zA3 _)] at S;have e0:VA p.tabs ws=0:=qbo hF ⟨p1,p2⟩ fun j h1 h2=>by
   have:=g2 (j - 3) (by omega);rw [hNg (j - 3) (by omega),show 3+(j - 3)=j by omega] at this;exact this
  all_goals (repeat' (first|(refine qc 17 ?_;refine lB S rfl rfl ?_;(first|(refine sB S rfl rfl ?_;clear S;intro h S));refine mv ?_;refine qf ?_)))
  refine qw ⟨_,zk S rfl (by first|exact .there (.there (.there .here))) (by exact rfl) (by exact rfl),?_⟩;rw [e0];refine ⟨⟨sv,N.map fun n=>(tix p.tabs n:Int),(zJ (wordAt ws 1):Nat),(zJ (wordAt ws 2):Nat)⟩,rfl,fun _=>?_,S.only .here⟩;unfold XG;rw [hN]
theorem yL {h0:AH} (w:WfH h0) (pv:PbV) (p:Pb) (H:PbOk h0 pv p) (s:List UInt8) :
 Fn Tryz.prog Xh 17 [pv.val,str s] h0 (fun u h'=>∃ vo ts i e,u = .tuple #[vo,.int .i64 i,.int .i64 e]∧Hs h0 h' [.sl vo 71 3 JC ts,JG QN ts]∧((¬ PO p∧ts=[]∧i=0∧e≠0∧∃ i,CkP p i e)∨(PO p∧(ts.map (·.trp),i,e)=Yo p.tabs s))):=by
 have S:=Hs.start w;have hnil:∀ {h2:AH} {rs:List Rs} (S2:Hs h0 h2 rs),Hs h0 h2 [.sl (.slice none 0 0) 71 3 JC [],JG QN []]:=fun S2=>Hs.nilS (Hs.owNil (f:=QN) S2.drop);unfold PbV.val;refine qM (by first|rfl) Tryz.func17 rfl rfl ?_;all_goals (repeat' (first|refine qg ?_|(refine qc 0 ?_;(refine bx S ?_;clear S;intro b h S);(iterate 3 refine mv ?_);refine qf ?_)|(refine qc 1 ?_;refine lB S rfl rfl ?_)))
 obtain ⟨b2,hnm⟩:∃ x,x=b:=⟨_,rfl⟩;subst hnm;(refine qx rfl rfl rfl rfl rfl ((XL S.wf pv p (H.ext w S.ext)).mono ?_);rintro _ h ⟨i,e,rfl,hk,x⟩)<;>(replace S:=S.join0 x;clear x;refine mv ?_;refine vl ?_;refine vl ?_;refine mv ?_;refine mv ?_;refine qf ?_)
 have hpo:=hk.po;all_goals (repeat' (first|refine qg ?_|refine qi rfl ?_|refine qj ?_|(refine qc 2 ?_;refine mv ?_;(first|(refine cS ?_ ?_<;>intro hc))<;>(refine qf ?_))|(refine qc 3 ?_;(iterate 4 refine mv ?_);refine qf ?_)))
 ·refine qw ⟨_,rfl,?_⟩;exact ⟨.slice none 0 0,[],0,e,rfl,hnil S,.inl ⟨fun q=>(by assumption:¬ e=0) (hpo.2 q),rfl,rfl,by assumption,i,hk⟩⟩
 have hP:PO p:=hpo.1 (by omega);all_goals (repeat' (first|refine qg ?_|refine qi rfl ?_|refine qj ?_|(refine qc 4 ?_;refine mv ?_;refine tl ?_;(first|(refine cS ?_ ?_<;>intro hc))<;>(refine qf ?_))|(refine qc 5 ?_;(iterate 3 refine mv ?_);refine qf ?_)))
 ·refine qw ⟨_,rfl,?_⟩;exact ⟨.slice none 0 0,[],0,7,rfl,hnil S,.inr ⟨hP,by unfold Yo;rw [if_pos (by omega)];rfl⟩⟩
 have hs:s.length≤65536:=by omega
 have hR:Yo p.tabs s=x8 p.tabs [] 0 (zQ 10 s):=by unfold Yo;rw [if_neg (by omega)]
 rw [hR];generalize hRR:x8 p.tabs [] 0 (zQ 10 s)=R
 all_goals (repeat' (first|refine qg ?_|refine qp ?_|(refine qc 6 ?_;refine mv ?_;refine qf ?_)|(refine qc 7 ?_;refine mv ?_;refine qf ?_)))
 replace S:Hs h0 h [.sl (.slice none 0 0) 71 3 JC [],JG QN [],.blk b2 pv.cs 28]:=(S.owNil (f:=QN)).nilS;refine qL (σ:=Nat×List UInt8×Value×List Tr_) (fun (i,t,vo,ts) h'=>Hs h0 h' [.sl vo 71 3 JC ts,JG QN ts,.blk b2 pv.cs 28]∧i+t.length≤65536∧ts.length≤i∧x8 p.tabs (ts.map (·.trp)) i (zQ 10 t)=R) (fun (i,t,vo,ts)=>t.length) (fun (i,t,vo,ts)=>[(1,str t),(2,.pointer (some ⟨b2,0,none⟩)),(9,vo),(10,.int .i64 i)]) (0,s,.slice none 0 0,[]) qy ?_ ?_
 ·exact ⟨S,by omega,zB0 _,hRR⟩
 clear S;rintro ⟨i,t,vo,ts⟩ h ⟨S,g1,g2,g3⟩;all_goals (repeat' (first|refine qg ?_|refine qi rfl ?_|refine qj ?_|refine qA ?_|refine qp ?_|(refine qc 8 ?_;refine mv ?_;(refine tS ?_ ?_<;>intro hc)<;>(refine qf ?_))))
 ·have ht:t=[]:=by assumption
  subst ht;rw [show zQ 10 []=[[]] from rfl,Wh] at g3;all_goals (repeat' (first|(refine qc 18 ?_;(iterate 4 refine mv ?_);refine qf ?_)))
  refine qw ⟨_,rfl,?_⟩;exact ⟨vo,ts,0,0,rfl,S.pick,.inr ⟨hP,g3⟩⟩
 have ht:¬ t=[]:=by assumption
 all_goals (repeat' (first|(refine qc 10 ?_;refine mv ?_)))
 rcases hf:Ql 10 t with _|m
 ·have e:cutV 10 t = .tuple #[str t,str [],.bool false]:=by unfold cutV;rw [hf]
  (refine qx rfl rfl rfl rfl rfl ((P7 t [10] rfl (by omega)).mono ?_);rintro _ _ ⟨hv,rfl⟩)<;>(rw [show ([10]:List UInt8).getD 0 0=10 from rfl,e] at hv;subst hv;refine mv ?_;refine vl ?_;refine vl ?_;refine vl ?_;(iterate 3 refine mv ?_);refine qf ?_)
  all_goals (repeat' (first|refine qg ?_|refine qi rfl ?_|(refine qc 11 ?_;refine mv ?_;refine vl ?_;refine qf ?_)|(refine qc 12 ?_;(iterate 4 refine mv ?_);refine qf ?_)))
  refine qw ⟨_,rfl,?_⟩;rw [JS (XP.1 hf),WN ht] at g3;exact ⟨.slice none 0 0,[],i,3,rfl,hnil S,.inr ⟨hP,g3⟩⟩
 ·have e:cutV 10 t = .tuple #[str (t.take m),str (t.drop (m+1)),.bool true]:=by unfold cutV;rw [hf]
  obtain ⟨m1,m2,m3⟩:=Zk hf;rw [gK hf] at g3;(refine qx rfl rfl rfl rfl rfl ((P7 t [10] rfl (by omega)).mono ?_);rintro _ _ ⟨hv,rfl⟩)<;>(rw [show ([10]:List UInt8).getD 0 0=10 from rfl,e] at hv;subst hv;refine mv ?_;refine vl ?_;refine vl ?_;refine vl ?_;(iterate 3 refine mv ?_);refine qf ?_)
  all_goals (repeat' (first|refine qg ?_|refine qi rfl ?_|refine qj ?_|(refine qc 11 ?_;refine mv ?_;refine vl ?_;refine qf ?_)|(refine qc 13 ?_;refine lB S rfl rfl ?_;refine mv ?_)))
  have htk:(t.take m).length≤100000:=by rw [zA9];omega
  (refine qx rfl rfl rfl rfl rfl ((qby S.wf pv p (H.ext w S.ext) hP.tabs (t.take m) htk).mono ?_);rintro _ h ⟨x,rfl,hx,y⟩)<;>(replace S:=S.join1 y;clear y;refine mv ?_;refine vl ?_;refine vl ?_;(refine al S ?_;clear S;intro b h S);(first|(refine sB S rfl rfl ?_;clear S;intro h S));refine mv ?_;refine qf ?_)
  obtain ⟨b14,hnm⟩:∃ x,x=b:=⟨_,rfl⟩;subst hnm;replace S:Hs h0 h [.blk b14 (JC x) 71,QN x,.sl vo 71 3 JC ts,JG QN ts,.blk b2 pv.cs 28]:=S;all_goals (repeat' (first|refine qg ?_|refine qi rfl ?_|refine qj ?_|(refine qc 14 ?_;refine mv ?_;(first|(refine cS ?_ ?_<;>intro hc))<;>(refine qf ?_))|(refine qc 15 ?_;(iterate 5 refine mv ?_);refine qf ?_)))
  ·refine qw ⟨_,rfl,?_⟩;have hne:¬ VA p.tabs (zQ 32 (t.take m))=0:=by assumption
   rw [wE (jR _ _) hne] at g3;exact ⟨.slice none 0 0,[],i,_,rfl,hnil S,.inr ⟨hP,g3⟩⟩
  ·have h0e:VA p.tabs (zQ 32 (t.take m))=0:=by omega
   rw [wC (jR _ _) h0e] at g3;all_goals (repeat' (first|(refine qc 16 ?_;refine mv ?_;refine lB S rfl rfl ?_;(refine one 3 S ?_;clear S;intro u h S))))
   refine app (y0:=x) S rfl rfl ?_;clear S;intro v1 h S;(refine mv ?_;refine qf ?_);replace S:Hs h0 h [.sl v1 71 3 JC (ts ++ [x]),.blk b14 (JC x) 71,QN x,JG QN ts,.blk b2 pv.cs 28]:=S;have S:=(show Hs h0 h [QN x,JG QN ts,.sl v1 71 3 JC (ts ++ [x]),.blk b2 pv.cs 28] from S.pick)
   have S:=Hs.owApp (f:=QN) (g:=x) S;all_goals (repeat' (first|(refine qc 9 ?_;refine mv ?_;refine ad ?_;refine mv ?_;refine qf ?_)|(refine qc 17 ?_;refine mv ?_;refine mv ?_;refine qf ?_)))
   refine ⟨(i+1,t.drop (m+1),v1,ts ++ [x]),?_,?_,qy⟩
   ·show (t.drop (m+1)).length<t.length;rw [zB4];omega
   ·refine ⟨S.pick,by rw [zB4];omega,by simp;omega,?_⟩;rw [zC9,List.map_cons,List.map_nil,hx h0e];exact g3
end Go.Proofs.Xx
