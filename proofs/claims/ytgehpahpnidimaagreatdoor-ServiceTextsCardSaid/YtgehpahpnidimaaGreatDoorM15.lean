/-
  The reference reads texts of trips.
-/
import Derived.Test.YtgehpahpnidimaaGreatDoorM14
import Derived.Test.YtgehpahpnidimaaGreatDoorM12
import Derived.Test.YtgehpahpnidimaaGreatDoorM8
import Derived.Test.YtgehpahpnidimaaGreatDoorM4
import Derived.Test.YtgehpahpnidimaaGreatDoorRows
import Derived.Lib.LaidTab
import Derived.Stop.LaidErr
import Derived.Shelf.Vars
set_option linter.unusedSimpArgs false
set_option linter.unusedVariables false
set_option linter.unusedSectionVars false
set_option maxRecDepth 100000
set_option maxHeartbeats 4000000
namespace Go.Proofs.Xx
open Go Go.Proofs
variable [Flag]
def LastT (l:List Tab) (n:List UInt8) (t:Nat) (a:Int):Prop:=(a = -1∧∀ j,j<t→(tb l j).name≠n)∨∃ m:Nat,a=m∧m<t∧(tb l m).name=n
theorem Gj {h0:AH} (w:WfH h0) (s:List UInt8) (hs:s.length≤100000):Fn Tryz.prog Xh 102 [str s] h0 (fun v h'=>∃ u ok W,v = .tuple #[u,.bool ok]∧(ok=true→W=ji 32 s∧[] ∉ ji 32 s)∧(ok=false→[]∈ji 32 s)∧Hs h0 h' [.sl u 9 1 eS W]):=by
 refine (PY w s hs).mono ?_;rintro v h (⟨z,u,rfl,x⟩|⟨z,rfl,x⟩)
 ·exact ⟨u,true,_,rfl,fun _=>⟨rfl,z⟩,(fun q=>by cases q),x⟩
 ·exact ⟨_,false,[],rfl,(fun q=>by cases q),fun _=>z,x.nilS⟩
theorem LastT.s {l:List Tab} {n:List UInt8} {t:Nat} {a:Int} (h:LastT l n t a) (ht:(tb l t).name≠n):LastT l n (t+1) a:=by
 rcases h with ⟨h1,h2⟩|⟨m,h1,h2,h3⟩
 ·exact .inl ⟨h1,jr h2 ht⟩
 ·exact .inr ⟨m,h1,by omega,h3⟩
theorem LastT.tix {l:List Tab} (hv:ValidL l) {n:List UInt8} {a:Int} (h:LastT l n l.length a) (ha:0≤a):QI l n∧a=(tix l n:Nat):=by
 rcases h with ⟨h1,h2⟩|⟨m,h1,h2,h3⟩
 ·omega
 ·refine ⟨⟨m,h2,h3⟩,?_⟩;rw [h1,VM h2 h3 fun j hj e=>by have:=hv.uniq (show j<l.length by omega) h2 (e.trans h3.symm);omega]
theorem PZ {h0:AH} (w:WfH h0) (pv:PbV) (p:Pb) (H:PbOk h0 pv p) (M:PbM pv p) (s:List UInt8) :
 Fn Tryz.prog Xh 47 [pv.val,str s] h0 (fun u h'=>∃ vo ts i e,u = .tuple #[vo,.int .i64 i,.int .i64 e]∧Hs h0 h' [.sl vo 71 3 jo ts,zY zy ts]∧((¬ PO p∧ts=[]∧i=0∧e≠0∧∃ i,CkP p i e)∨(PO p∧(jY ts,i,e)=Xb p.tabs s))):=by
 have S:=Hs.start w;have hr:=H.tab.rd;have hl:=H.tab.len;have hnil:∀ {h2:AH} {rs:List Rs} (S2:Hs h0 h2 rs),Hs h0 h2 [.sl (.slice none 0 0) 71 3 jo [],zY zy []]:=fun S2=>Hs.nilS (Hs.owNil (f:=zy) S2.drop);unfold PbV.val;refine qF (by first|rfl) Tryz.func47 rfl rfl ?_;all_goals (repeat' (first|refine qg ?_|(refine qc 0 ?_;(refine bx S ?_;clear S;intro b h S);(iterate 3 refine mv ?_);refine qf ?_)|(refine qc 1 ?_;refine lB S rfl rfl ?_)))
 obtain ⟨b2,hnm⟩:∃ x,x=b:=⟨_,rfl⟩;subst hnm;(refine qo rfl rfl rfl rfl rfl ((V4 S.wf pv p (H.ext w S.ext) M).mono ?_);rintro _ h ⟨i,e,rfl,hk,x⟩)<;>(replace S:=S.join0 x;clear x;refine mv ?_;refine vl ?_;refine vl ?_;refine mv ?_;refine mv ?_;refine qf ?_)
 have hpo:=hk.po;all_goals (repeat' (first|refine qg ?_|refine qh rfl ?_|refine qj ?_|(refine qc 2 ?_;refine mv ?_;(first|(refine cS ?_ ?_<;>intro hc))<;>(refine qf ?_))|(refine qc 3 ?_;(iterate 4 refine mv ?_);refine qf ?_)))
 ·refine qi ⟨_,rfl,?_⟩;exact ⟨.slice none 0 0,[],0,e,rfl,hnil S,.inl ⟨fun q=>(by assumption:¬ e=0) (hpo.2 q),rfl,rfl,by assumption,i,hk⟩⟩
 have hP:PO p:=hpo.1 (by omega);have hv:=hP.tabs;all_goals (repeat' (first|refine qg ?_|refine qh rfl ?_|refine qj ?_|(refine qc 4 ?_;refine mv ?_;refine tl ?_;(first|(refine cS ?_ ?_<;>intro hc))<;>(refine qf ?_))|(refine qc 5 ?_;(iterate 3 refine mv ?_);refine qf ?_)))
 ·refine qi ⟨_,rfl,?_⟩;exact ⟨.slice none 0 0,[],0,7,rfl,hnil S,.inr ⟨hP,by unfold Xb;rw [if_pos (by omega)];rfl⟩⟩
 have hs:s.length≤65536:=by omega
 have hR:Xb p.tabs s=XN p.tabs [] 0 (ji 10 s):=by unfold Xb;rw [if_neg (by omega)]
 rw [hR];have hsl10:=Ql 10 s;have hsm:∀ u∈ji 10 s,u.length≤65536:=fun u hu=>zD0 (Xw 10 s u hu) hs;have hcs:s.countP (· == 10)≤s.length:=List.countP_le_length;generalize hRR:XN p.tabs [] 0 (ji 10 s)=R
 all_goals (repeat' (first|(refine qc 6 ?_;refine mv ?_)))
 (refine qo rfl rfl rfl rfl rfl ((P7 S.wf s (by omega)).mono ?_);rintro _ h ⟨vL,bL,L,rfl,hL,x⟩)<;>(replace S:=S.join1 x;clear x;refine mv ?_;refine vl ?_;refine vl ?_;refine mv ?_;refine mv ?_;refine qf ?_)
 obtain ⟨T,hT⟩:∃ T:List (List UInt8),T=if bL then [[]] else []:=⟨_,rfl⟩
 have hspl:ji 10 s=L ++ T:=by
  rcases hL with ⟨rfl,ini,w1,rfl,e,-⟩|⟨rfl,e⟩
  ·rw [e,hT];simp
  ·rw [e,hT];simp
 have hlast:bL=false→0<L.length∧L.getD (L.length - 1) default≠[]:=fun q=>by
  rcases hL with ⟨-,ini,w1,rfl,e,hne⟩|⟨rfl,e⟩
  ·refine ⟨by simp,?_⟩;have e:(ini ++ [w1]).getD ((ini ++ [w1]).length - 1) default=w1:=by simp [zA2]
   rw [e];exact hne
  ·cases q
 have hLm:∀ i,i<L.length→(L.getD i default).length≤65536:=fun i hi=>hsm _ (by rw [hspl];exact List.mem_append_left _ (qL hi));have hLl:L.length≤65537:=by
  rw [hspl,zB2] at hsl10;omega
 rw [hspl] at hRR;clear hL;all_goals (repeat' (first|refine qg ?_|refine ql ?_|(refine qc 7 ?_;refine mv ?_;refine qf ?_)|(refine qc 8 ?_;refine mv ?_;refine qf ?_)))
 replace S:Hs h0 h [.sl (.slice none 0 0) 71 3 jo [],zY zy [],.sl vL 9 1 eS L,.blk b2 pv.cs 28]:=(S.owNil (f:=zy)).nilS;refine qG (σ:=Nat×Value×List Tr_) (fun (i,vo,ts) h'=>Hs h0 h' [.sl vo 71 3 jo ts,zY zy ts,.sl vL 9 1 eS L,.blk b2 pv.cs 28]∧i≤L.length∧ts.length≤i∧(bL=false→i<L.length)∧XN p.tabs (jY ts) i (L.drop i ++ T)=R) (fun (i,vo,ts)=>L.length - i) (fun (i,vo,ts)=>[(1,str s),(2,.pointer (some ⟨b2,0,none⟩)),(9,vL),(10,.bool bL),(11,vo),(12,.int .i64 i)]) (0,.slice none 0 0,[]) qw ?_ ?_
 ·exact ⟨S,zB0 _,zB0 _,fun q=>(hlast q).1,hRR⟩
 clear S;rintro ⟨i,vo,ts⟩ h ⟨S,g1,g2,g3,g4⟩;all_goals (repeat' (first|refine qg ?_|refine qh rfl ?_|refine qj ?_|refine qx ?_|refine ql ?_|(refine qc 9 ?_;refine mv ?_;refine mv ?_;refine wM S rfl rfl ?_;(first|(refine cS ?_ ?_<;>intro hc))<;>(refine qf ?_))))
 rotate_left
 ·obtain rfl:i=L.length:=by omega
  cases bL with
  | false=>exact absurd (g3 rfl) (Nat.lt_irrefl _)
  | true =>
   rw [hT,List.drop_of_length_le (zA3 _)] at g4;have g5:XN p.tabs (jY ts) L.length [[]]=R:=g4;rw [pX] at g5;all_goals (repeat' (first|(refine qc 32 ?_;(iterate 4 refine mv ?_);refine qf ?_)))
   refine qi ⟨_,rfl,?_⟩;exact ⟨vo,ts,0,0,rfl,S.pick,.inr ⟨hP,g5⟩⟩
 have hi:i<L.length:=by omega
 have hx0:L.getD (i:Int).toNat default=L.getD i default:=rfl;have hdr:L.drop i ++ T=L.getD i default :: (L.drop (i+1) ++ T):=by
  rw [zA2,zA4 hi,zH4,zG6 hi,zC6]
 rw [hdr] at g4;have hwi:=hLm i hi;have hlastI:bL=false→i+1=L.length→([],(i:Int),3)=R:=fun q e=>by
  have e2:L.drop (i+1) ++ T=[]:=by rw [hT,q,List.drop_of_length_le (by omega)];rfl
  rw [e2,kL (by have:=(hlast q).2;rw [show L.length - 1=i by omega] at this;exact this)] at g4;exact g4
 have hrne:¬ (bL=false∧i+1=L.length)→L.drop (i+1) ++ T≠[]:=fun q e=>by
  cases bL with
  | false =>
   have:=congrArg List.length e;rw [zB2,zB4,List.length_nil] at this;exact q ⟨rfl,by omega⟩
  | true=>rw [hT] at e;simp at e
 all_goals (repeat' (first|(refine qc 11 ?_;refine mv ?_;refine mv ?_;refine Xc S rfl rfl ?_;refine XD S rfl rfl ?_)))
 rw [hx0];generalize hxx:L.getD i default=x0 at *
 obtain ⟨ws,hws⟩:∃ ws,ji 32 x0=ws:=⟨_,rfl⟩
 have hwl:=Ql 32 x0;have hcs2:x0.countP (· == 32)≤x0.length:=List.countP_le_length;have hwm:∀ u∈ws,u.length≤100000:=fun u hu=>zD0 (Xw 32 x0 u (hws ▸ hu)) (by omega);have hi2:i≤65537:=by omega
 (refine qo rfl rfl rfl rfl rfl ((Gj S.wf x0 (by omega)).mono ?_);rintro _ h ⟨u,ok,W,rfl,hW1,hW2,x⟩)<;>(replace S:=S.join1 x;clear x;refine mv ?_;refine vl ?_;refine vl ?_;refine mv ?_;refine mv ?_;refine qf ?_)
 all_goals (repeat' (refine qg ?_))
 rw [hws] at hW1 hW2 hwl;have h3:Yy p.tabs ws=3→(([]:List Trp),(i:Int),(3:Int))=R:=fun q=>by
  by_cases k:bL=false∧i+1=L.length
  ·exact hlastI k.1 k.2
  ·rw [yZ (hrne k) (by rw [hws,q];decide),hws,q] at g4;exact g4
 (repeat (refine qg ?_));first|refine zL (σ:=Unit) (fun _ h'=>Hs h0 h' [.sl u 9 1 eS ws,.sl vo 71 3 jo ts,zY zy ts,.sl vL 9 1 eS L,.blk b2 pv.cs 28]∧W9 ws∧¬ (bL=false∧i+1=L.length)) (fun _=>[(1,str s),(2,.pointer (some ⟨b2,0,none⟩)),(9,vL),(10,.bool bL),(11,vo),(12,.int .i64 i),(13,u)]) ?_ ?_
 ·cases ok
  ·all_goals (repeat' (first|refine qg ?_|refine qh rfl ?_|(refine qc 12 ?_;refine mv ?_;refine vl ?_;refine mv ?_;refine off ?_;refine off ?_;refine off ?_;refine off ?_;(refine off ?_)<;>((refine off ?_);refine off ?_;refine off ?_;refine off ?_;refine vl ?_;refine mv ?_;refine off ?_;refine off ?_;(refine off ?_)<;>(refine vl ?_;refine mv ?_;refine off ?_;refine off ?_;refine off ?_;(refine off ?_)<;>(refine vl ?_;refine qf ?_))))|(refine qc 13 ?_;(iterate 4 refine mv ?_);refine qf ?_)))
   refine qi ⟨_,rfl,?_⟩;exact ⟨.slice none 0 0,[],i,3,rfl,hnil S,.inr ⟨hP,h3 (XW fun q=>q.2.2 (hW2 rfl))⟩⟩
  ·obtain ⟨rfl,hne⟩:=hW1 rfl;cases bL
   all_goals (all_goals (repeat' (first|refine qg ?_|refine qh rfl ?_|refine qj ?_|(refine qc 12 ?_;refine mv ?_;refine vl ?_;(iterate 3 refine mv ?_);(first|(refine wM S rfl rfl ?_));(first|(refine sb ?_));(first|(first|(refine cS ?_ ?_<;>intro hc)))<;>((refine mv ?_);(first|refine off ?_|refine mv ?_);(first|refine off ?_|refine vl ?_);refine vl ?_;refine vl ?_;refine mv ?_;(first|refine off ?_|refine mv ?_);(first|refine off ?_|(refine wM S rfl rfl ?_));(first|refine off ?_|(first|(refine cS ?_ ?_<;>intro hc)))<;>(refine vl ?_;refine mv ?_;(first|refine off ?_|refine mv ?_);(first|refine off ?_|(refine Xc S rfl rfl ?_));(first|refine off ?_|(refine XD S rfl rfl ?_));(first|refine off ?_|(refine tS ?_ ?_<;>intro hc))<;>(refine vl ?_;refine qf ?_))))|(refine qc 13 ?_;(iterate 4 refine mv ?_);refine qf ?_))))
   all_goals first
    | exact ⟨(),⟨S,⟨by omega,by assumption,hne⟩,fun k=>by omega⟩,(qw)⟩
    | exact ⟨(),⟨S,⟨by omega,by assumption,hne⟩,fun k=>by cases k.1⟩,(qw)⟩
    | skip
   all_goals (refine qi ⟨_,rfl,?_⟩)
   all_goals refine ⟨.slice none 0 0,[],i,3,rfl,hnil S,.inr ⟨hP,?_⟩⟩
   all_goals first
    | exact hlastI rfl (by omega)
    | exact h3 (XW fun q=>by have:=q.1;omega)
    | exact h3 (XW fun q=>absurd q.2.1 (by assumption))
 clear S hW1 hW2;rintro _ h ⟨S,hF,hnl⟩;have hw4:=hF.1;have hw1:(ws.getD (1:Int).toNat default).length≤1000000:=zD0 (hwm _ (qL (show 1<ws.length by omega))) (by omega);have hw2:(ws.getD (2:Int).toNat default).length≤1000000:=zD0 (hwm _ (qL (show 2<ws.length by omega))) (by omega);all_goals (repeat' (first|refine qg ?_|(refine qc 14 ?_;refine mv ?_;refine Xc S rfl rfl ?_;refine XD S rfl rfl ?_)))
 (refine qo rfl rfl rfl rfl rfl ((Wq S.wf (ws.getD (1:Int).toNat default) hw1).mono ?_);rintro _ h ⟨k1,c1,rfl,n1,x⟩)<;>(replace S:=S.join0 x;clear x;refine mv ?_;refine vl ?_;refine vl ?_;refine mv ?_;refine mv ?_;refine qf ?_)
 all_goals (repeat' (first|refine qg ?_|(refine qc 15 ?_;refine mv ?_;refine Xc S rfl rfl ?_;refine XD S rfl rfl ?_)))
 (refine qo rfl rfl rfl rfl rfl ((Wq S.wf (ws.getD (2:Int).toNat default) hw2).mono ?_);rintro _ h ⟨k2,c2,rfl,n2,x⟩)<;>(replace S:=S.join0 x;clear x;refine mv ?_;refine vl ?_;refine vl ?_;refine mv ?_;refine mv ?_;refine qf ?_)
 rcases n1 with ⟨rfl,p1,rfl⟩|⟨rfl,p1⟩
 rotate_left
 ·all_goals (repeat' (first|refine qg ?_|refine qh rfl ?_|(refine qc 16 ?_;refine mv ?_;refine vl ?_;refine mv ?_;refine off ?_;refine off ?_;refine vl ?_;refine qf ?_)|(refine qc 17 ?_;(iterate 4 refine mv ?_);refine qf ?_)))
  refine qi ⟨_,rfl,?_⟩;exact ⟨.slice none 0 0,[],i,3,rfl,hnil S,.inr ⟨hP,h3 (VD fun q=>p1 q.1)⟩⟩
 rcases n2 with ⟨rfl,p2,rfl⟩|⟨rfl,p2⟩
 rotate_left
 ·all_goals (repeat' (first|refine qg ?_|refine qh rfl ?_|(refine qc 16 ?_;refine mv ?_;refine vl ?_;refine mv ?_;refine mv ?_;refine vl ?_;refine vl ?_;refine qf ?_)|(refine qc 17 ?_;(iterate 4 refine mv ?_);refine qf ?_)))
  refine qi ⟨_,rfl,?_⟩;exact ⟨.slice none 0 0,[],i,3,rfl,hnil S,.inr ⟨hP,h3 (VD fun q=>p2 q.2)⟩⟩
 all_goals (repeat' (first|refine qg ?_|refine qh rfl ?_|refine qj ?_|(refine qc 16 ?_;refine mv ?_;refine vl ?_;refine mv ?_;refine mv ?_;refine vl ?_;refine vl ?_;refine qf ?_)|(refine qc 18 ?_;refine mv ?_;refine mv ?_;refine vl ?_;(refine al S ?_;clear S;intro b h S);(first|(refine sB S rfl rfl ?_;clear S;intro h S));refine qf ?_)))
 obtain ⟨b19,hnm⟩:∃ x,x=b:=⟨_,rfl⟩;subst hnm;replace S:Hs h0 h [.blk b19 (jo ⟨⟨none,0,0⟩,[],(zJ (wordAt ws 1):Nat),(zJ (wordAt ws 2):Nat)⟩) 71,.sl u 9 1 eS ws,.sl vo 71 3 jo ts,zY zy ts,.sl vL 9 1 eS L,.blk b2 pv.cs 28]:=S;all_goals (repeat' (first|refine ql ?_|(refine qc 19 ?_;refine mv ?_;refine qf ?_)))
 replace S:Hs h0 h [.sl (.slice none 0 0) 3 1 eI [],.blk b19 (jo ⟨⟨none,0,0⟩,[],(zJ (wordAt ws 1):Nat),(zJ (wordAt ws 2):Nat)⟩) 71,.sl u 9 1 eS ws,.sl vo 71 3 jo ts,zY zy ts,.sl vL 9 1 eS L,.blk b2 pv.cs 28]:=S.nilS;refine qG (σ:=Nat×SlV) (fun (k,sv) h'=>Hs h0 h' [.sl sv.val 3 1 eI (((ws.take k).drop 3).map fun n=>(tix p.tabs n:Int)),.blk b19 (jo ⟨sv,[],(zJ (wordAt ws 1):Nat),(zJ (wordAt ws 2):Nat)⟩) 71,.sl u 9 1 eS ws,.sl vo 71 3 jo ts,zY zy ts,.sl vL 9 1 eS L,.blk b2 pv.cs 28]∧3≤k∧k≤ws.length∧∀ j,j<k→3≤j→QI p.tabs (wordAt ws j)) (fun (k,sv)=>ws.length - k) (fun (k,sv)=>[(1,str s),(2,.pointer (some ⟨b2,0,none⟩)),(9,vL),(10,.bool bL),(11,vo),(12,.int .i64 i),(13,u),(19,.pointer (some ⟨b19,0,none⟩)),(20,.int .i64 k)]) (3,⟨none,0,0⟩) qw ?_ ?_
 ·refine ⟨?_,zA3 _,by (try dsimp only);omega,fun j h1 h2=>by omega⟩;have e:(ws.take 3).drop 3=[]:=List.drop_of_length_le (by rw [zA9];omega);rw [e];exact S
 clear S;rintro ⟨k,sv⟩ h ⟨S,k1,k2,k3⟩;have htl:(((ws.take k).drop 3).map fun n=>(tix p.tabs n:Int)).length≤200000:=by rw [zC5,zB4,zA9];omega
 all_goals (repeat' (first|refine qg ?_|refine qh rfl ?_|refine qj ?_|refine qx ?_|refine ql ?_|(refine qc 20 ?_;refine mv ?_;refine mv ?_;refine wM S rfl rfl ?_;(first|(refine cS ?_ ?_<;>intro hc))<;>(refine qf ?_))))
 ·have hkl:k<ws.length:=by omega
  have hxk:ws.getD (k:Int).toNat default=wordAt ws k:=rfl;all_goals (repeat' (first|refine qg ?_|refine ql ?_|(refine qc 22 ?_;refine mv ?_;refine qf ?_)|(refine qc 23 ?_;refine mv ?_;refine qf ?_)))
  refine qG (σ:=Nat×Int) (fun (t,a) h'=>Hs h0 h' [.sl sv.val 3 1 eI (((ws.take k).drop 3).map fun n=>(tix p.tabs n:Int)),.blk b19 (jo ⟨sv,[],(zJ (wordAt ws 1):Nat),(zJ (wordAt ws 2):Nat)⟩) 71,.sl u 9 1 eS ws,.sl vo 71 3 jo ts,zY zy ts,.sl vL 9 1 eS L,.blk b2 pv.cs 28]∧t≤p.tabs.length∧LastT p.tabs (wordAt ws k) t a) (fun (t,a)=>p.tabs.length - t) (fun (t,a)=>[(1,str s),(2,.pointer (some ⟨b2,0,none⟩)),(9,vL),(10,.bool bL),(11,vo),(12,.int .i64 i),(13,u),(19,.pointer (some ⟨b19,0,none⟩)),(20,.int .i64 k),(21,.int .i64 a),(22,.int .i64 t)]) (0,-1) qw ?_ ?_
  ·exact ⟨S,zB0 _,.inl ⟨rfl,fun j hj=>absurd hj (zB7 _)⟩⟩
  clear S;rintro ⟨t,a⟩ h ⟨S,t1,t2⟩;all_goals (repeat' (first|refine qg ?_|refine qh rfl ?_|refine qj ?_|refine qx ?_|refine ql ?_|(refine qc 24 ?_;refine mv ?_;refine vl ?_;refine lB S rfl rfl ?_;refine zT S ?_;(first|(refine cS ?_ ?_<;>intro hc))<;>(refine qf ?_))))
  ·have htl2:t<p.tabs.length:=by omega
   have hxt:p.tabs.getD (t:Int).toNat default=tb p.tabs t:=rfl;all_goals (repeat' (first|refine qh rfl ?_|refine qj ?_|(refine qQ 26 ?_;refine vl ?_;refine lB S rfl rfl ?_;refine mv ?_;refine jB S ?_;refine fB S ?_;refine jA S ?_;refine mv ?_;refine mv ?_;refine Xc S rfl rfl ?_;refine XD S rfl rfl ?_;(refine tS ?_ ?_<;>intro hc)<;>(refine qf ?_))))
   ·have hq:(tb p.tabs t).name=wordAt ws k:=by assumption
    all_goals (repeat' (first|(refine qc 25 ?_;refine mv ?_;refine ad ?_;refine mv ?_;refine qf ?_)|(refine qc 27 ?_;refine mv ?_;refine mv ?_;refine qf ?_)))
    refine ⟨(t+1,(t:Int)),?_,?_,qw⟩
    ·show p.tabs.length - (t+1)<p.tabs.length - t;omega
    ·exact ⟨S,by (try dsimp only);omega,.inr ⟨t,rfl,by omega,hq⟩⟩
   ·have hq:¬ (tb p.tabs t).name=wordAt ws k:=by assumption
    all_goals (repeat' (first|(refine qc 25 ?_;refine mv ?_;refine ad ?_;refine mv ?_;refine qf ?_)))
    refine ⟨(t+1,a),?_,?_,qw⟩
    ·show p.tabs.length - (t+1)<p.tabs.length - t;omega
    ·exact ⟨S,by (try dsimp only);omega,t2.s hq⟩
  ·obtain rfl:t=p.tabs.length:=by omega
   all_goals (repeat' (first|refine qg ?_|refine qh rfl ?_|refine qj ?_|(refine qc 28 ?_;refine mv ?_;(first|(refine cS ?_ ?_<;>intro hc))<;>(refine qf ?_))))
   ·all_goals (repeat' (first|(refine qc 29 ?_;(iterate 4 refine mv ?_);refine qf ?_)))
    refine qi ⟨_,rfl,?_⟩;have hun:¬ QI p.tabs (wordAt ws k):=by
     rcases t2 with ⟨-,q⟩|⟨m,q,-⟩
     ·rintro ⟨j,q1,q2⟩;exact q j q1 q2
     ·omega
    have h6:=pG hF ⟨p1,p2⟩ ⟨k,k1,hkl,hun⟩;rw [yZ (hrne hnl) (by rw [hws,h6];decide),hws,h6] at g4;exact ⟨.slice none 0 0,[],i,6,rfl,hnil S,.inr ⟨hP,g4⟩⟩
   ·obtain ⟨hhas,ea⟩:=t2.tix hv (by omega);all_goals (repeat' (first|(refine qc 30 ?_;refine vl ?_;refine lB S rfl rfl ?_;refine mv ?_;(refine one 1 S ?_;clear S;intro u h S))))
    refine app (y0:=a) S rfl rfl ?_;clear S;intro v1 h S;obtain ⟨s1,rfl⟩:=S.sV v1;((refine vl ?_);(first|(refine sB S rfl rfl ?_;clear S;intro h S));refine qf ?_);all_goals (repeat' (first|(refine qc 21 ?_;refine mv ?_;refine ad ?_;refine mv ?_;refine qf ?_)))
    refine ⟨(k+1,s1),?_,?_,qw⟩
    ·show ws.length - (k+1)<ws.length - k;omega
    ·have e:(((ws.take (k+1)).drop 3).map fun n=>(tix p.tabs n:Int))=(((ws.take k).drop 3).map fun n=>(tix p.tabs n:Int)) ++ [a]:=by
      rw [qK hkl,List.drop_append_of_le_length (by rw [zA9];omega),zC9,List.map_cons,List.map_nil,ea]
     refine ⟨by rw [e];exact S,by (try dsimp only);omega,by (try dsimp only);omega,fun j h1 h2=>?_⟩;rcases zA7 j k with q|q
     ·exact k3 j q h2
     ·obtain rfl:j=k:=by omega
      exact hhas
 ·obtain rfl:k=ws.length:=by omega
  rw [zF7 (zA3 _)] at S;have e0:Yy p.tabs ws=0:=qaK hF ⟨p1,p2⟩ fun j h1 h2=>k3 j h2 h1;rw [qbi (hrne hnl) (by rw [hws,e0]),hws] at g4;replace S:Hs h0 h [zy ⟨sv,(ws.drop 3).map fun n=>(tix p.tabs n:Int),(zJ (wordAt ws 1):Nat),(zJ (wordAt ws 2):Nat)⟩,.blk b19 (jo ⟨sv,(ws.drop 3).map fun n=>(tix p.tabs n:Int),(zJ (wordAt ws 1):Nat),(zJ (wordAt ws 2):Nat)⟩) 71,.sl u 9 1 eS ws,.sl vo 71 3 jo ts,zY zy ts,.sl vL 9 1 eS L,.blk b2 pv.cs 28]:=S;have S:Hs h0 h [.blk b19 (jo ⟨sv,(ws.drop 3).map fun n=>(tix p.tabs n:Int),(zJ (wordAt ws 1):Nat),(zJ (wordAt ws 2):Nat)⟩) 71,zy ⟨sv,(ws.drop 3).map fun n=>(tix p.tabs n:Int),(zJ (wordAt ws 1):Nat),(zJ (wordAt ws 2):Nat)⟩,.sl vo 71 3 jo ts,zY zy ts,.sl vL 9 1 eS L,.blk b2 pv.cs 28]:=S.pick;have etr:(⟨(ws.drop 3).map fun n=>(tix p.tabs n:Int),(zJ (wordAt ws 1):Nat),(zJ (wordAt ws 2):Nat)⟩:Trp)=XV p.tabs ws:=rfl;generalize hy:(⟨sv,(ws.drop 3).map fun n=>(tix p.tabs n:Int),(zJ (wordAt ws 1):Nat),(zJ (wordAt ws 2):Nat)⟩:Tr_)=y at S
  have hyt:y.trp=XV p.tabs ws:=by rw [← hy];exact etr
  all_goals (repeat' (first|(refine qc 31 ?_;refine mv ?_;refine lB S rfl rfl ?_;(refine one 3 S ?_;clear S;intro u h S))))
  refine app (y0:=y) S rfl rfl ?_;clear S;intro v1 h S;(refine mv ?_;refine qf ?_);replace S:Hs h0 h [.sl v1 71 3 jo (ts ++ [y]),.blk b19 (jo y) 71,zy y,zY zy ts,.sl vL 9 1 eS L,.blk b2 pv.cs 28]:=S;have S:=(show Hs h0 h [zy y,zY zy ts,.sl v1 71 3 jo (ts ++ [y]),.sl vL 9 1 eS L,.blk b2 pv.cs 28] from S.pick)
  have S:=Hs.owApp (f:=zy) (g:=y) S;all_goals (repeat' (first|(refine qc 10 ?_;refine mv ?_;refine ad ?_;refine mv ?_;refine qf ?_)))
  refine ⟨(i+1,v1,ts ++ [y]),?_,?_,qw⟩
  ·show L.length - (i+1)<L.length - i;omega
  ·refine ⟨S.pick,by (try dsimp only);omega,by simp;omega,fun q=>?_,?_⟩
   ·by_cases z:i+1=L.length
    ·exact absurd ⟨q,z⟩ hnl
    ·show i+1<L.length;omega
   ·show XN p.tabs (jY (ts ++ [y])) (i+1) (L.drop (i+1) ++ T)=R
    have e:jY (ts ++ [y])=jY ts ++ [XV p.tabs ws]:=by
     rw [← hyt];exact zC9
    rw [e];exact g4
end Go.Proofs.Xx
namespace Go.Proofs.Xx
open Go Go.Proofs
section
variable {l m:List Tab} (h:l.map (·.toC)=m.map (·.toC))
include h
theorem qe1 {ws:List (List UInt8)}:Yy l ws=Yy m ws:=by
 unfold Yy;rw [qbF h]
theorem qdP {ws:List (List UInt8)}:XV l ws=XV m ws:=by
 unfold XV;rw [qdv h]
theorem qdx:∀ (P:List (List UInt8)) (out:List Trp) (i:Nat),XN l out i P=XN m out i P
 | [],_,_=>rfl
 | [w],_,_=>by rw [XN,XN]
 | w :: v :: r,out,i=>by rw [XN,XN,qe1 h,qdP h,qdx (v :: r)]
theorem qd1 {s:List UInt8}:Xb l s=Xb m s:=by
 unfold Xb;rw [qdx h]
theorem qec {xs:List Trp}:Jq l xs=Jq m xs:=by
 have e1:∀ x,KA l x↔KA m x:=fun x=>by
  unfold KA;rw [Xl h]
 have e2:jQ l=jQ m:=by
  funext t
  exact Wl h t.toNat
 have e3:(∀ x∈xs,KA l x)↔(∀ x∈xs,KA m x):=⟨fun q x hx=>(e1 x).1 (q x hx),fun q x hx=>(e1 x).2 (q x hx)⟩
 unfold Jq wsT;rw [e2];by_cases q:∀ x∈xs,KA m x
 ·rw [if_pos q,if_pos (e3.2 q)]
 ·rw [if_neg q,if_neg fun k=>q (e3.1 k)]
end
variable [Flag]
theorem qa4 {h0:AH} (w:WfH h0) (X Y:Tr_) (rx:qY h0 X.tv.val 1 eI X.ta) (ry:qY h0 Y.tv.val 1 eI Y.ta) (hl:X.ta.length≤1000000) (e:X.trp=Y.trp) :
 Fn Tryz.prog Xh 65 [trV X,trV Y] h0 (fun u h'=>u = .bool true∧Hs h0 h' []):=by
 have S:=Hs.start w;have e1:X.ta=Y.ta:=congrArg Trp.ta e;have e2:X.pl=Y.pl:=congrArg Trp.pl e;have e3:X.st=Y.st:=congrArg Trp.st e;refine qF (by first|rfl) Tryz.func65 rfl rfl ?_;all_goals (repeat' (first|refine qg ?_|(refine qc 0 ?_;(refine bx S ?_;clear S;intro b h S);(refine bx S ?_;clear S;intro b h S);refine mv ?_;refine qf ?_)|(refine qc 1 ?_;refine vl ?_;refine lB S rfl rfl ?_;refine vl ?_;refine lB S rfl rfl ?_;(refine cT ?_)<;>(refine mv ?_;(first|(refine vl ?_));(first|(refine lB S rfl rfl ?_));(first|(refine vl ?_));(first|(refine lB S rfl rfl ?_));(first|(refine cT ?_))<;>(refine vl ?_;refine mv ?_;(first|(refine vl ?_));(first|(refine lB S rfl rfl ?_));(first|(refine vl ?_));(first|(refine lB S rfl rfl ?_));(skip))))))
 all_goals (try exact absurd e2 (by assumption))
 all_goals (try exact absurd e3 (by assumption))
 (refine qo rfl rfl rfl rfl rfl ((qas S.wf X.tv.val Y.tv.val X.ta Y.ta (rx.ext w S.ext) (ry.ext w S.ext) hl).mono ?_);rintro _ h ⟨⟨rfl,z⟩|⟨rfl,z⟩,x⟩)<;>(replace S:=S.join0 x;clear x;refine vl ?_;refine mv ?_;refine qf ?_)
 all_goals first|exact absurd e1 z|skip
 all_goals (repeat' (fail))
 refine qi ⟨_,rfl,?_⟩;exact ⟨rfl,S.drop⟩
theorem qek {h0:AH} (w:WfH h0) (v u:Value) (la lb:List Tr_) (ra:qY h0 v 3 jo la) (rb:qY h0 u 3 jo lb) (rra:∀ i,i<la.length→qY h0 (la.getD i default).tv.val 1 eI (la.getD i default).ta) (rrb:∀ i,i<lb.length→qY h0 (lb.getD i default).tv.val 1 eI (lb.getD i default).ta) (ha:la.length≤1000000) (he:jY la=jY lb) (hm:∀ i,i<la.length→(la.getD i default).ta.length≤1000000) :
 Fn Tryz.prog Xh 64 [v,u,.func (.func 65) #[] #[]] h0 (fun x h'=>x = .bool true∧Hs h0 h' []):=by
 have S:=Hs.start w;have hlen:la.length=lb.length:=by have:=congrArg List.length he;simpa using this
 refine qF (by first|rfl) Tryz.func64 rfl rfl ?_;all_goals (repeat' (first|refine qg ?_|refine qh rfl ?_|refine qj ?_|refine ql ?_|(refine qc 0 ?_;refine mv ?_;refine qf ?_)|(refine qc 1 ?_;refine mv ?_;refine zT S ?_;refine mv ?_;refine zT S ?_;(refine cF ?_)<;>(refine qf ?_))|(refine qc 3 ?_;refine mv ?_;refine zT S ?_;refine mv ?_;refine qf ?_)))
 refine qG (σ:=Nat) (fun i h'=>Hs h0 h' []∧i≤la.length) (fun i=>la.length - i) (fun i=>[(0,v),(1,u),(2,.func (.func 65) #[] #[]),(15,v),(16,.int .i64 la.length),(17,.int .i64 i)]) 0 qw ?_ ?_
 ·exact ⟨S,zB0 _⟩
 clear S;rintro i h ⟨S,g1⟩;all_goals (repeat' (first|refine qg ?_|refine qh rfl ?_|refine qj ?_|refine qx ?_|refine ql ?_|(refine qc 4 ?_;(first|(refine cS ?_ ?_<;>intro hc))<;>(refine qf ?_))))
 ·have hi:i<la.length:=by omega
  have e1:(la.getD i default).trp=(lb.getD i default).trp:=by
   rw [← zn (f:=fun x:Tr_=>x.trp) hi,← zn (f:=fun x:Tr_=>x.trp) (show i<lb.length by omega)];exact congrArg (fun l=>List.getD l i default) he
  all_goals (repeat' (first|refine qg ?_|(refine qc 5 ?_;refine mv ?_;refine jB S ?_;refine jA S ?_;(refine al S ?_;clear S;intro b h S);refine mv ?_;(first|(refine sB S rfl rfl ?_;clear S;intro h S));refine qf ?_)|(refine qc 6 ?_;refine mv ?_;refine mv ?_;refine jB S ?_;refine jA S ?_;(refine al S ?_;clear S;intro b h S);(first|(refine sB S rfl rfl ?_;clear S;intro h S));refine qf ?_)|(refine qc 7 ?_;refine mv ?_;refine lB S rfl rfl ?_;refine lB S rfl rfl ?_)))
  simp only [zA0];(refine jX rfl rfl rfl rfl ((qa4 S.wf (la.getD i default) (lb.getD i default) ((rra i hi).ext w S.ext) ((rrb i (by omega)).ext w S.ext) (hm i hi) e1).mono ?_);rintro _ h ⟨rfl,x⟩)<;>(replace S:=S.join0 x;clear x;refine vl ?_;refine qf ?_)
  all_goals (repeat' (first|refine qh rfl ?_|refine qj ?_|(refine qc 9 ?_;refine ad ?_;refine mv ?_;refine qf ?_)))
  refine ⟨i+1,?_,?_,qw⟩
  ·show la.length - (i+1)<la.length - i;omega
  ·exact ⟨S.drop,by (try dsimp only);omega⟩
 ·all_goals (repeat' (first|(refine qc 10 ?_;refine mv ?_;refine qf ?_)))
  refine qi ⟨_,rfl,?_⟩;exact ⟨rfl,S⟩
theorem kD {h0:AH} (w:WfH h0) (v u:Value) (a b:List Tr_) (ra:qY h0 v 3 jo a) (rb:qY h0 u 3 jo b) (rra:∀ i,i<a.length→qY h0 (a.getD i default).tv.val 1 eI (a.getD i default).ta) (rrb:∀ i,i<b.length→qY h0 (b.getD i default).tv.val 1 eI (b.getD i default).ta) (ha:a.length≤1000000) (he:jY a=jY b) (hm:∀ i,i<a.length→(a.getD i default).ta.length≤1000000) :
 Fn Tryz.prog Xh 18 [v,u] h0 (fun x h'=>x = .bool true∧Hs h0 h' []):=by
 have S:=Hs.start w;refine qF (by first|rfl) Tryz.func18 rfl rfl ?_;all_goals (repeat' (first|refine qg ?_|(refine qc 0 ?_;refine mv ?_;refine qf ?_)|(refine qc 1 ?_;refine mv ?_;refine mv ?_)))
 (refine qo rfl rfl rfl rfl rfl ((qek S.wf v u a b (ra.ext w S.ext) (rb.ext w S.ext) (fun i hi=>(rra i hi).ext w S.ext) (fun i hi=>(rrb i hi).ext w S.ext) ha he hm).mono ?_);rintro _ h ⟨rfl,x⟩)<;>(replace S:=S.join0 x;clear x;refine mv ?_;refine qf ?_)
 all_goals (repeat' (fail))
 refine qi ⟨_,rfl,?_⟩;exact ⟨rfl,S⟩
theorem qbS {h0:AH} (w:WfH h0) (vx:Value) (xs:List Tr_) (rx:qY h0 vx 3 jo xs) (rr:∀ i,i<xs.length→qY h0 (xs.getD i default).tv.val 1 eI (xs.getD i default).ta) (hx:xs.length≤12) (ht:∀ i,i<xs.length→(xs.getD i default).ta.length≤12) :
 Fn Tryz.prog Xh 44 [vx] h0 (fun u h'=>∃ ys,jY ys=jY xs∧Hs h0 h' [.sl u 71 3 jo ys,zY zy ys]):=by
 have S:=Hs.start w;refine qF (by first|rfl) Tryz.func44 rfl rfl ?_;all_goals (repeat' (first|refine qg ?_|refine ql ?_|(refine qc 0 ?_;refine mv ?_;refine qf ?_)|(refine qc 1 ?_;refine mv ?_;refine qf ?_)|(refine qc 2 ?_;refine mv ?_;refine zT S ?_;refine mv ?_;refine qf ?_)))
 replace S:Hs h0 h0 [.sl (.slice none 0 0) 71 3 jo [],zY zy []]:=(S.owNil (f:=zy)).nilS;refine qG (σ:=Nat×Value×List Tr_) (fun (i,vo,ys) h'=>Hs h0 h' [.sl vo 71 3 jo ys,zY zy ys]∧i≤xs.length∧jY ys=(jY xs).take i) (fun (i,vo,ys)=>xs.length - i) (fun (i,vo,ys)=>[(3,vo),(6,vx),(7,.int .i64 xs.length),(8,.int .i64 i)]) (0,.slice none 0 0,[]) qw ?_ ?_
 ·exact ⟨S,zB0 _,rfl⟩
 clear S;rintro ⟨i,vo,ys⟩ h ⟨S,g1,g2⟩;have hyl:ys.length=i:=by have:=congrArg List.length g2;rw [zC5,zA9,zC5] at this;omega
 all_goals (repeat' (first|refine qg ?_|refine qh rfl ?_|refine qj ?_|refine qx ?_|refine ql ?_|(refine qc 3 ?_;(first|(refine cS ?_ ?_<;>intro hc))<;>(refine qf ?_))))
 ·have hi:i<xs.length:=by omega
  have rxi:=rr i hi;have hti:=ht i hi;have ex:(jY xs).getD i default=(xs.getD i default).trp:=zn (f:=fun x:Tr_=>x.trp) hi;all_goals (repeat' (first|refine qg ?_|(refine qc 4 ?_;refine jB S ?_;refine jA S ?_;(refine al S ?_;clear S;intro b h S);(first|(refine sB S rfl rfl ?_;clear S;intro h S));refine qf ?_)))
  obtain ⟨b5,hnm⟩:∃ x,x=b:=⟨_,rfl⟩;subst hnm;have hxq:xs.getD (i:Int).toNat default=xs.getD i default:=rfl;(try rw [hxq] at S);generalize hxx:xs.getD i default=x0 at *
  replace S:Hs h0 h [.blk b5 (jo x0) 71,.sl vo 71 3 jo ys,zY zy ys]:=S;all_goals (repeat' (first|(refine qc 5 ?_;refine vl ?_;refine lB S rfl rfl ?_)))
  (refine qo rfl rfl rfl rfl rfl ((qay S.wf x0.tv.val x0.ta (rxi.ext w S.ext) (by omega)).mono ?_);rintro v1 h x)<;>(replace S:=S.join1 x;clear x;obtain ⟨s1,rfl⟩:=S.sV v1;refine vl ?_;(first|(refine sB S rfl rfl ?_;clear S;intro h S));refine qf ?_)
  replace S:Hs h0 h [zy ⟨s1,x0.ta,x0.pl,x0.st⟩,.blk b5 (jo ⟨s1,x0.ta,x0.pl,x0.st⟩) 71,.sl vo 71 3 jo ys,zY zy ys]:=S;generalize hy:(⟨s1,x0.ta,x0.pl,x0.st⟩:Tr_)=y at S
  have hyt:y.trp=x0.trp:=by rw [← hy]
  have S:=(show Hs h0 h [.blk b5 (jo y) 71,zy y,.sl vo 71 3 jo ys,zY zy ys] from S.pick)
  all_goals (repeat' (first|(refine qc 6 ?_;refine mv ?_;refine lB S rfl rfl ?_;(refine one 3 S ?_;clear S;intro u h S))))
  refine app (y0:=y) S rfl rfl ?_;clear S;intro v2 h S;(refine mv ?_;refine qf ?_);replace S:Hs h0 h [.sl v2 71 3 jo (ys ++ [y]),.blk b5 (jo y) 71,zy y,zY zy ys]:=S;have S:=(show Hs h0 h [zy y,zY zy ys,.sl v2 71 3 jo (ys ++ [y])] from S.pick)
  have S:=Hs.owApp (f:=zy) (g:=y) S;all_goals (repeat' (first|(refine qc 7 ?_;refine ad ?_;refine mv ?_;refine qf ?_)))
  refine ⟨(i+1,v2,ys ++ [y]),?_,?_,qw⟩
  ·show xs.length - (i+1)<xs.length - i;omega
  ·refine ⟨S.pick,by (try dsimp only);omega,?_⟩;show jY (ys ++ [y])=(jY xs).take (i+1)
   have e:jY (ys ++ [y])=jY ys ++ [y.trp]:=zC9;rw [e,g2,qK (show i<(jY xs).length by rw [zC5];omega),ex,hyt]
 ·obtain rfl:i=xs.length:=by omega
  all_goals (repeat' (first|(refine qc 8 ?_;refine mv ?_;refine mv ?_;refine qf ?_)))
  refine qi ⟨_,rfl,?_⟩;refine ⟨ys,?_,S⟩;rw [g2,zF7 (by simp)]
theorem qcT {h0:AH} (w:WfH h0) (X:Tr_) (rx:qY h0 X.tv.val 1 eI X.ta):Fn Tryz.prog Xh 43 [trV X] h0 (fun u h'=>qI u (12<X.ta.length)∧Hs h0 h' []):=by
 have S:=Hs.start w;refine qF (by first|rfl) Tryz.func43 rfl rfl ?_;all_goals (repeat' (first|refine qg ?_|(refine qc 0 ?_;(refine bx S ?_;clear S;intro b h S);refine mv ?_;refine qf ?_)|(refine qc 1 ?_;refine vl ?_;refine lB S rfl rfl ?_;refine zT S ?_;(first|(refine cS ?_ ?_<;>intro hc))<;>(refine mv ?_;refine qf ?_))))
 all_goals (refine qi ⟨_,rfl,?_⟩)
 all_goals (refine ⟨?_,S.drop⟩;unfold qI)
 all_goals first|exact .inl ⟨rfl,by omega⟩|exact .inr ⟨rfl,by omega⟩
theorem qcP {h0:AH} (w:WfH h0) (vx:Value) (xs:List Tr_) (rx:qY h0 vx 3 jo xs) (rr:∀ i,i<xs.length→qY h0 (xs.getD i default).tv.val 1 eI (xs.getD i default).ta) (hx:xs.length≤12) :
 Fn Tryz.prog Xh 99 [vx,.func (.func 43) #[] #[]] h0 (fun u h'=>Kw u (fun i=>12<(xs.getD i default).ta.length) xs.length∧Hs h0 h' []):=by
 have S:=Hs.start w;refine qF (by first|rfl) Tryz.func99 rfl rfl ?_;all_goals (repeat' (first|refine qg ?_|refine ql ?_|(refine qc 0 ?_;refine mv ?_;refine qf ?_)|(refine qc 1 ?_;refine mv ?_;refine zT S ?_;refine mv ?_;refine qf ?_)))
 refine qG (σ:=Nat) (fun i h'=>Hs h0 h' []∧i≤xs.length∧(∀ j,j<i→¬ 12<(xs.getD j default).ta.length)) (fun i=>xs.length - i) (fun i=>[(0,vx),(1,.func (.func 43) #[] #[]),(7,.int .i64 xs.length),(8,.int .i64 i)]) 0 qw ?_ ?_
 ·exact ⟨S,zB0 _,fun j hj=>absurd hj (zB7 _)⟩
 clear S;rintro i h ⟨S,g1,g2⟩;all_goals (repeat' (first|refine qg ?_|refine qh rfl ?_|refine qj ?_|refine qx ?_|refine ql ?_|(refine qc 2 ?_;(first|(refine cS ?_ ?_<;>intro hc))<;>(refine qf ?_))))
 ·have hi:i<xs.length:=by omega
  have ri:=(rr i hi).ext w S.ext;all_goals (repeat' (first|refine qg ?_|(refine qc 3 ?_;refine mv ?_;refine mv ?_;refine qf ?_)|(refine qc 4 ?_;(iterate 3 refine mv ?_);refine jB S ?_;refine jA S ?_)))
  simp only [zA0];(refine jX rfl rfl rfl rfl ((qcT S.wf (xs.getD i default) ri).mono ?_);rintro _ h ⟨⟨rfl,z⟩|⟨rfl,z⟩,x⟩)<;>(replace S:=S.join0 x;clear x;refine qf ?_)
  ·all_goals (repeat' (first|refine qg ?_|refine qh rfl ?_|(refine qc 5 ?_;refine mv ?_;refine mv ?_;refine qf ?_)))
   refine qi ⟨_,rfl,?_⟩;exact ⟨.inl ⟨i,hi,rfl,z,g2⟩,S⟩
  ·all_goals (repeat' (first|refine qh rfl ?_|refine qj ?_|(refine qc 6 ?_;refine ad ?_;refine mv ?_;refine qf ?_)))
   refine ⟨i+1,?_,?_,qw⟩
   ·show xs.length - (i+1)<xs.length - i;omega
   ·exact ⟨S,by omega,jr g2 z⟩
 ·all_goals (repeat' (first|(refine qc 7 ?_;refine mv ?_;refine qf ?_)))
  refine qi ⟨_,rfl,?_⟩;exact ⟨.inr ⟨rfl,fun j hj=>g2 j (by omega)⟩,S⟩
theorem qcS {h0:AH} (w:WfH h0) (vx:Value) (xs:List Tr_) (rx:qY h0 vx 3 jo xs) (rr:∀ i,i<xs.length→qY h0 (xs.getD i default).tv.val 1 eI (xs.getD i default).ta) (hx:xs.length≤12) :
 Fn Tryz.prog Xh 42 [vx,.func (.func 43) #[] #[]] h0 (fun u h'=>qI u (∃ i,i<xs.length∧12<(xs.getD i default).ta.length)∧Hs h0 h' []):=by
 have S:=Hs.start w;refine qF (by first|rfl) Tryz.func42 rfl rfl ?_;all_goals (repeat' (first|refine qg ?_|(refine qc 0 ?_;refine mv ?_;refine qf ?_)|(refine qc 1 ?_;refine mv ?_;refine mv ?_)))
 (refine qo rfl rfl rfl rfl rfl ((qcP S.wf vx xs rx rr hx).mono ?_);rintro _ h ⟨⟨i,hi,rfl,z,-⟩|⟨rfl,z⟩,x⟩)<;>(replace S:=S.join0 x;clear x;(first|refine cT ?_|refine cF ?_)<;>(refine mv ?_;refine qf ?_))
 all_goals (all_goals (repeat' (fail)))
 all_goals (refine qi ⟨_,rfl,?_⟩)
 all_goals (refine ⟨?_,S.drop⟩;unfold qI)
 ·exact .inl ⟨rfl,i,hi,z⟩
 ·exact .inr ⟨rfl,fun ⟨j,hj,z2⟩=>z j hj z2⟩
theorem qcQ {h0:AH} (w:WfH h0) (vx:Value) (xs:List Tr_) (rx:qY h0 vx 3 jo xs) (rr:∀ i,i<xs.length→qY h0 (xs.getD i default).tv.val 1 eI (xs.getD i default).ta) :
 Fn Tryz.prog Xh 9 [vx] h0 (fun u h'=>qI u (xs.length≤12∧∀ i,i<xs.length→(xs.getD i default).ta.length≤12)∧Hs h0 h' []):=by
 have S:=Hs.start w;refine qF (by first|rfl) Tryz.func9 rfl rfl ?_;all_goals (repeat' (first|refine qg ?_|(refine qc 0 ?_;refine mv ?_;refine qf ?_)|(refine qc 1 ?_;refine mv ?_;refine zT S ?_;(first|(refine cS ?_ ?_<;>intro hc))<;>(refine mv ?_;(first|refine off ?_|refine mv ?_);(first|(refine off ?_;refine off ?_;refine vl ?_;refine mv ?_;refine qf ?_)|skip)))))
 all_goals (try ((refine qo rfl rfl rfl rfl rfl ((qcS S.wf vx xs (rx.ext w S.ext) (fun i hi=>(rr i hi).ext w S.ext) (by omega)).mono ?_);rintro _ h ⟨⟨rfl,z⟩|⟨rfl,z⟩,x⟩)<;>(replace S:=S.join0 x;clear x;refine vl ?_;refine vl ?_;refine mv ?_;refine qf ?_)))
 all_goals (all_goals (repeat' (fail)))
 all_goals (refine qi ⟨_,rfl,?_⟩)
 all_goals (refine ⟨?_,S.drop⟩;unfold qI)
 all_goals first
  | exact .inl ⟨rfl,by omega,fun i hi=>Nat.le_of_not_lt fun q=>z ⟨i,hi,q⟩⟩
  | exact .inr ⟨rfl,fun q=>by obtain ⟨i,hi,h3⟩:=z;have:=q.2 i hi;omega⟩
  | exact .inr ⟨rfl,fun q=>by have:=q.1;omega⟩
theorem qbg {h0:AH} (w:WfH h0) (pv:PbV) (p:Pb) (H:PbOk h0 pv p) (M:PbM pv p):Fn Tryz.prog Xh 45 [pv.val] h0 (fun u h'=>qI u (PO p)∧Hs h0 h' []):=by
 have S:=Hs.start w;unfold PbV.val;refine qF (by first|rfl) Tryz.func45 rfl rfl ?_;all_goals (repeat' (first|refine qg ?_|(refine qc 0 ?_;(refine bx S ?_;clear S;intro b h S);refine mv ?_;refine qf ?_)|(refine qc 1 ?_;refine lB S rfl rfl ?_)))
 (refine qo rfl rfl rfl rfl rfl ((V4 S.wf pv p (H.ext w S.ext) M).mono ?_);rintro _ h ⟨i,e,rfl,hk,x⟩)<;>(replace S:=S.join0 x;clear x;refine mv ?_;refine vl ?_;refine vl ?_;refine mv ?_;refine mv ?_;refine qf ?_)
 have hpo:=hk.po;all_goals (repeat' (first|refine qg ?_|(refine qc 2 ?_;refine mv ?_;(first|(refine cS ?_ ?_<;>intro hc))<;>(refine mv ?_;refine qf ?_))))
 all_goals (refine qi ⟨_,rfl,?_⟩)
 all_goals (refine ⟨?_,S.drop⟩;unfold qI)
 all_goals first|exact .inl ⟨rfl,hpo.1 (by assumption)⟩|exact .inr ⟨rfl,fun q=>absurd (hpo.2 q) (by assumption)⟩
end Go.Proofs.Xx
namespace Go.Proofs.Xx
open Go Go.Proofs
variable [Flag]
theorem pW {l:List Tab} {n:Nat}:∀ (P:List (List UInt8)) (out:List Trp) (i:Nat),(∀ w∈P,w.length≤n)→(∀ x∈out,x.ta.length≤n+1)→(XN l out i P).1.length≤out.length+P.length∧∀ x∈(XN l out i P).1,x.ta.length≤n+1
 | [],out,i,_,h=>by rw [XN];exact ⟨by simp,h⟩
 | [w],out,i,_,h=>by
  rw [XN];by_cases q:w=[]
  ·rw [if_pos q];exact ⟨by simp,h⟩
  ·rw [if_neg q];exact ⟨by simp,fun x hx=>by simp at hx⟩
 | w :: v :: r,out,i,hw,h=>by
  rw [XN];by_cases q:Yy l (ji 32 w)=0
  ·rw [if_pos q];have k:=pW (l:=l) (v :: r) (out ++ [XV l (ji 32 w)]) (i+1) (fun x hx=>hw x (List.mem_cons_of_mem _ hx)) fun x hx=>by
    rcases zB8.1 hx with e|e
    ·exact h x e
    ·rw [zB5.1 e];have e1:(XV l (ji 32 w)).ta.length=(ji 32 w).length - 3:=by unfold XV;rw [zC5,zB4]
     have e2:=Ql 32 w;have e3:w.countP (· == 32)≤w.length:=List.countP_le_length;have e4:=hw w (by simp);omega
   refine ⟨?_,k.2⟩;have:=k.1;simp only [zB2,zC4,List.length_nil] at this ⊢;omega
  ·rw [if_neg q];exact ⟨by simp,fun x hx=>by simp at hx⟩
theorem qbn {l:List Tab} {s:List UInt8}:(Xb l s).1.length≤65537∧∀ x∈(Xb l s).1,x.ta.length≤65537:=by
 unfold Xb;by_cases q:65536<s.length
 ·rw [if_pos q];exact ⟨by simp,fun x hx=>by simp at hx⟩
 ·rw [if_neg q];have k:=pW (l:=l) (n:=s.length) (ji 10 s) [] 0 (Xw 10 s) fun x hx=>by simp at hx
  have e2:=Ql 10 s;have e3:s.countP (· == 10)≤s.length:=List.countP_le_length;refine ⟨?_,fun x hx=>?_⟩
  ·have:=k.1;rw [List.length_nil] at this;omega
  ·have:=k.2 x hx;omega
theorem qak {h0:AH} (w:WfH h0) (hf:Flag.b=true) (pv:PbV) (p:Pb) (Z:PbZ h0 pv p) (F5:p.tabs.length≤5) (F:Ky p 20) (vx:Value) (xs:List Tr_) (rx:qY h0 vx 3 jo xs) (rr:∀ i,i<xs.length→qY h0 (xs.getD i default).tv.val 1 eI (xs.getD i default).ta) (hx:xs.length≤12) (ht:∀ i,i<xs.length→(xs.getD i default).ta.length≤12) (s:List UInt8) :
 Fn Tryz.prog Xh 10 [pv.val,vx,str s] h0 (fun u h'=>u = .bool true∧Hs h0 h' []):=by
 have S:=Hs.start w;unfold PbV.val;refine qF (by first|rfl) Tryz.func10 rfl rfl ?_;all_goals (repeat' (first|refine qg ?_|(refine qc 0 ?_;(refine bx S ?_;clear S;intro b h S);refine mv ?_;refine qf ?_)))
 obtain ⟨b3,hnm⟩:∃ x,x=b:=⟨_,rfl⟩;subst hnm;all_goals (repeat' (first|(refine qc 1 ?_;refine lB S rfl rfl ?_)))
 (refine qo rfl rfl rfl rfl rfl ((qes S.wf pv p ((Z.ext w S.ext).fit F)).mono ?_);rintro _ h ⟨v',tabs,rfl,et,eu,x⟩)<;>(replace S:=S.join x;clear x;refine mv ?_)
 (refine qo rfl rfl rfl rfl rfl ((qbS S.wf vx xs (rx.ext w S.ext) (fun i hi=>(rr i hi).ext w S.ext) hx ht).mono ?_);rintro vy h ⟨ys,ey,x⟩)<;>(replace S:=S.join2 x;clear x;(refine al S ?_;clear S;intro b h S);(first|(refine sB S rfl rfl ?_;clear S;intro h S));refine mv ?_;refine qf ?_)
 all_goals (repeat' (refine qg ?_))
 replace S:Hs h0 h [.blk b v'.cs 28,.sl vy 71 3 jo ys,zY zy ys,.sl v'.vt.val 84 7 eT tabs,zY Vo tabs,.sl v'.vg.val 125 9 eG v'.gs,tgO v'.gs,.sl v'.vi.val 174 3 Qa p.ts,.sl v'.vc.val 3 1 eI p.cl,.sl v'.vr.val 155 6 JL p.ru,.blk b3 pv.cs 28]:=S;have w1:=S.wf;have g3:=Hs.gB (b:=b3) S;have g7:=Hs.gB (b:=b) S;have ry:=Rd.of_sl S (.there .here);have ryy:∀ i,i<ys.length→qY h (ys.getD i default).tv.val 1 eI (ys.getD i default).ta:=fun i hi=>V9 S (.there (.there .here)) hi;have HC:=qd0 (rs:=[.blk b3 pv.cs 28]) (show Hs h0 h (pbL v' (p.wt tabs) ++ [.blk b3 pv.cs 28]) from S.tail.tail.tail) et eu Z F;have HO:=(Z.ext w S.ext).ok F;have MO:=Z.m F;have rx2:=rx.ext w S.ext;have rr2:∀ i,i<xs.length→qY h (xs.getD i default).tv.val 1 eI (xs.getD i default).ta:=fun i hi=>(rr i hi).ext w S.ext;have hyl:ys.length=xs.length:=by have:=congrArg List.length ey;simpa using this
 have hyt:∀ i,i<ys.length→(ys.getD i default).ta.length≤12:=fun i hi=>by
  have e1:(ys.getD i default).trp=(xs.getD i default).trp:=by
   rw [← zn (f:=fun x:Tr_=>x.trp) hi,← zn (f:=fun x:Tr_=>x.trp) (show i<xs.length by omega)];exact congrArg (fun l=>List.getD l i default) ey
  have e2:(ys.getD i default).ta=(xs.getD i default).ta:=congrArg Trp.ta e1;rw [e2];exact ht i (by omega)
 have hyt6:∀ i,i<ys.length→(ys.getD i default).ta.length≤1000000:=fun i hi=>zD0 (hyt i hi) (by omega);have S00:=S;clear S;have S:=Hs.start w1;obtain ⟨hB,hnm⟩:∃ x,x=h:=⟨_,rfl⟩;subst hnm;have hPO:PO (p.wt tabs)↔PO p:=qgz et;have hPT:Xb (p.wt tabs).tabs s=Xb p.tabs s:=qd1 et;have hFT:Jq (p.wt tabs).tabs (jY ys)=Jq p.tabs (jY xs):=by rw [ey];exact qec et
 all_goals (repeat' (first|refine qg ?_|(refine qc 2 ?_;refine mv ?_;refine qf ?_)))
 (repeat (refine qg ?_));first|refine zL (σ:=List UInt8) (fun t h'=>Hs hB h' []∧(PO p→t=Jq p.tabs (jY xs))∧(¬ PO p→t=[])) (fun t=>[(1,vx),(2,str s),(3,.pointer (some ⟨b3,0,none⟩)),(7,.pointer (some ⟨b,0,none⟩)),(8,vy),(9,str t)]) ?_ ?_
 ·all_goals (repeat' (first|(refine qc 3 ?_;refine lH S ?_)))
  (refine qo rfl rfl rfl rfl rfl ((qbg S.wf pv p HO MO).mono ?_);rintro _ h ⟨⟨rfl,z⟩|⟨rfl,z⟩,x⟩)<;>(replace S:=S.join0 x;clear x;refine qf ?_)
  ·all_goals (repeat' (first|refine qh rfl ?_|(refine qc 4 ?_;refine lH S ?_;refine mv ?_)))
   (refine qo rfl rfl rfl rfl rfl ((Gn S.wf pv p (HO.ext w1 S.ext) z.tabs vx xs (rx2.ext w1 S.ext) (fun i hi=>(rr2 i hi).ext w1 S.ext) hx ht).mono ?_);rintro _ h ⟨rfl,x⟩)<;>(replace S:=S.join0 x;clear x;refine mv ?_;refine qf ?_)
   all_goals (repeat' (fail))
   exact ⟨_,⟨S,fun _=>rfl,fun q=>absurd z q⟩,(qw)⟩
  ·all_goals (repeat' (first|refine qh rfl ?_|refine qj ?_))
   exact ⟨[],⟨S,fun q=>absurd q z,fun _=>rfl⟩,(qw)⟩
 clear S;rintro t h ⟨S,tw1,tw2⟩;all_goals (repeat' (first|refine qg ?_|(refine qc 5 ?_;refine lH S ?_;refine mv ?_)))
 (refine qo rfl rfl rfl rfl rfl ((PS S.wf v' (p.wt tabs) (HC.ext w1 S.ext) s).mono ?_);rintro _ h ⟨va,ta,ia,ea,rfl,x,hA⟩)<;>(replace S:=S.join2 x;clear x;refine mv ?_;refine vl ?_;refine vl ?_;refine vl ?_;(iterate 3 refine mv ?_);refine qf ?_)
 all_goals (repeat' (first|refine qg ?_|(refine qc 6 ?_;refine lH S ?_;refine mv ?_)))
 (refine qo rfl rfl rfl rfl rfl ((PZ S.wf pv p (HO.ext w1 S.ext) MO s).mono ?_);rintro _ h ⟨vb,tb_,ib,eb,rfl,x,hB_⟩)<;>(replace S:=S.join2 x;clear x;refine mv ?_;refine vl ?_;refine vl ?_;refine vl ?_;(iterate 3 refine mv ?_);refine qf ?_)
 all_goals (repeat' (refine qg ?_))
 rw [hPO,hPT] at hA;have key:jY ta=jY tb_∧ia=ib∧ea=eb:=by
  rcases hA with ⟨z1,rfl,rfl,z4,i1,z5⟩|⟨z1,z2⟩
  ·rcases hB_ with ⟨y1,rfl,rfl,y4,i2,y5⟩|⟨y1,y2⟩
   ·exact ⟨rfl,rfl,((qfH et).1 z5).uniq y5⟩
   ·exact absurd y1 z1
  ·rcases hB_ with ⟨y1,rfl,rfl,y4,i2,y5⟩|⟨y1,y2⟩
   ·exact absurd z1 y1
   ·rw [← y2] at z2;exact ⟨(Prod.mk.inj z2).1,(Prod.mk.inj (Prod.mk.inj z2).2).1,(Prod.mk.inj (Prod.mk.inj z2).2).2⟩
 have hlen:ta.length≤1000000∧∀ i,i<ta.length→(ta.getD i default).ta.length≤1000000:=by
  rcases hA with ⟨z1,rfl,-⟩|⟨z1,z2⟩
  ·exact ⟨by simp,fun i hi=>by simp at hi⟩
  ·have hp:=qbn (l:=p.tabs) (s:=s);rw [← z2] at hp;refine ⟨by have:=hp.1;rw [zC5] at this;omega,fun i hi=>?_⟩;have:=hp.2 _ (zF0.2 ⟨_,qL hi,rfl⟩);exact zD0 this (by omega)
 obtain ⟨k1,rfl,rfl⟩:=key;replace S:Hs hB h [.sl vb 71 3 jo tb_,zY zy tb_,.sl va 71 3 jo ta,zY zy ta]:=S;have w3:=S.wf;have hT:∀ t1,(PO (p.wt tabs)→t1=Jq (p.wt tabs).tabs (jY ys))→(¬ PO (p.wt tabs)→t1=[])→t=t1:=fun t1 f1 f2=>by
  rw [hPO,hFT] at f1;rw [hPO] at f2;by_cases q:PO p
  ·rw [f1 q,tw1 q]
  ·rw [f2 q,tw2 q]
 have rda:=Rd.of_sl S (.there (.there .here));have rdb:=Rd.of_sl S .here;have rra:∀ i,i<ta.length→qY h (ta.getD i default).tv.val 1 eI (ta.getD i default).ta:=fun i hi=>V9 S (.there (.there (.there .here))) hi;have rrb:∀ i,i<tb_.length→qY h (tb_.getD i default).tv.val 1 eI (tb_.getD i default).ta:=fun i hi=>V9 S (.there .here) hi;have S01:=S;have HC3:=HC.ext w1 S.ext;have HO3:=HO.ext w1 S.ext;have rx3:=rx2.ext w1 S.ext;have rr3:∀ i,i<xs.length→qY h (xs.getD i default).tv.val 1 eI (xs.getD i default).ta:=fun i hi=>(rr2 i hi).ext w1 S.ext;have ry3:=ry.ext w1 S.ext;have ryy3:∀ i,i<ys.length→qY h (ys.getD i default).tv.val 1 eI (ys.getD i default).ta:=fun i hi=>(ryy i hi).ext w1 S.ext;have g33:=S.ext.get w1 g3;have g73:=S.ext.get w1 g7;clear S;have S:=Hs.start w3;obtain ⟨hD,hnm⟩:∃ x,x=h:=⟨_,rfl⟩;subst hnm;all_goals (repeat' (first|(refine qc 7 ?_;refine lH S ?_;refine mv ?_)))
 (refine qo rfl rfl rfl rfl rfl ((Gg S.wf hf v' (p.wt tabs) (HC3.ext w3 S.ext) vy ys (ry3.ext w3 S.ext) (fun i hi=>(ryy3 i hi).ext w3 S.ext) (by omega) hyt).mono ?_);rintro _ h ⟨t1,rfl,f1,f2,x⟩)<;>(replace S:=S.join0 x;clear x;obtain rfl:=hT t1 f1 f2;refine mv ?_;(refine tS ?_ ?_<;>intro hc)<;>(refine mv ?_;(first|refine off ?_|refine mv ?_);(first|refine off ?_|refine mv ?_);(first|(refine off ?_;refine vl ?_;refine mv ?_;refine off ?_;refine off ?_;(refine off ?_)<;>(refine vl ?_;refine mv ?_;refine off ?_;refine off ?_;(refine off ?_)<;>(refine vl ?_;refine mv ?_;refine off ?_;refine off ?_;(first|(refine off ?_;refine vl ?_;refine mv ?_;refine off ?_;refine off ?_;(first|(refine off ?_;refine vl ?_;refine mv ?_;refine qf ?_)))))))|skip)))
 all_goals (repeat' (fail))
 all_goals (try exact absurd rfl (by assumption))
 (refine qo rfl rfl rfl rfl rfl ((kD S.wf va vb ta tb_ (rda.ext w3 S.ext) (rdb.ext w3 S.ext) (fun i hi=>(rra i hi).ext w3 S.ext) (fun i hi=>(rrb i hi).ext w3 S.ext) hlen.1 k1 hlen.2).mono ?_);rintro _ h ⟨rfl,x⟩)<;>(replace S:=S.join0 x;clear x;refine vl ?_;(iterate 3 refine mv ?_);(first|(refine cT ?_))<;>(refine vl ?_;(iterate 3 refine mv ?_);(first|(refine cT ?_))<;>(refine vl ?_;refine mv ?_;(first|(refine lH S ?_));(first|(refine lH S ?_));(skip))))
 all_goals (repeat' (fail))
 all_goals (try exact absurd rfl (by assumption))
 (refine qo rfl rfl rfl rfl rfl ((PV S.wf v' pv (p.wt tabs) p (HC3.ext w3 S.ext) (HO3.ext w3 S.ext)).mono ?_);rintro _ h ⟨⟨rfl,z⟩|⟨rfl,z⟩,x⟩)<;>(replace S:=S.join0 x;clear x;refine vl ?_;refine mv ?_;(first|refine off ?_|refine mv ?_);(first|refine off ?_|refine mv ?_);(first|(refine off ?_;refine vl ?_;refine mv ?_;refine qf ?_)|skip))
 all_goals first|exact absurd ⟨et,rfl,rfl,rfl,rfl⟩ z|skip
 all_goals (repeat' (fail))
 (refine qo rfl rfl rfl rfl rfl ((kD S.wf vy vx ys xs (ry3.ext w3 S.ext) (rx3.ext w3 S.ext) (fun i hi=>(ryy3 i hi).ext w3 S.ext) (fun i hi=>(rr3 i hi).ext w3 S.ext) (by omega) ey hyt6).mono ?_);rintro _ h ⟨rfl,x⟩)<;>(replace S:=S.join0 x;clear x;refine vl ?_;refine mv ?_;refine qf ?_)
 all_goals (repeat' (fail))
 refine qi ⟨_,rfl,?_⟩;exact ⟨rfl,(S00.join (S01.join S)).drop⟩
theorem X5 {h0:AH} (w:WfH h0) (hf:Flag.b=true) (pv:PbV) (p:Pb) (Z:PbZ h0 pv p) (sx:SlV) (xs:List Tr_) (rx:qY h0 sx.val 3 jo xs) (rr:∀ i,i<xs.length→qY h0 (xs.getD i default).tv.val 1 eI (xs.getD i default).ta) (s:List UInt8) :
 Fn Tryz.prog Xh 4 [pv.val,sx.val,str s] h0 (fun u _=>u = .bool true):=by
 have S:=Hs.start w;unfold PbV.val;refine qF (by first|rfl) Tryz.func4 rfl rfl ?_;all_goals (repeat' (first|refine qg ?_|(refine qc 0 ?_;(refine bx S ?_;clear S;intro b h S);refine mv ?_;refine qf ?_)))
 obtain ⟨b3,hnm⟩:∃ x,x=b:=⟨_,rfl⟩;subst hnm;all_goals (repeat' (first|(refine qc 1 ?_;refine lB S rfl rfl ?_)))
 (refine qo rfl rfl rfl rfl rfl ((qcD S.wf pv p (Z.ext w S.ext) (.slice none 0 0) [] (Rd.none_ _ 1) (fun i hi=>by simp at hi) (by simp)).mono ?_);rintro _ h ⟨⟨rfl,z⟩|⟨rfl,z⟩,x⟩)<;>(replace S:=S.join0 x;clear x;refine vl ?_;refine mv ?_;(first|refine off ?_|refine mv ?_);(first|(refine off ?_;refine off ?_;refine vl ?_;refine mv ?_;refine off ?_;refine off ?_;(refine off ?_)<;>((refine off ?_);refine off ?_;refine off ?_;(refine off ?_)<;>((refine off ?_);refine vl ?_;refine mv ?_;refine off ?_;refine off ?_;refine off ?_;(first|(refine off ?_;refine vl ?_;refine mv ?_;(skip))))))|skip))
 all_goals (try ((refine qo rfl rfl rfl rfl rfl ((qcQ S.wf sx.val xs (rx.ext w S.ext) (fun i hi=>(rr i hi).ext w S.ext)).mono ?_);rintro _ h ⟨⟨rfl,y⟩|⟨rfl,y⟩,x⟩)<;>(replace S:=S.join0 x;clear x;refine vl ?_;refine vl ?_;refine mv ?_;(first|refine off ?_|refine mv ?_);(first|refine off ?_|refine tl ?_);(first|refine off ?_|(first|(refine cS ?_ ?_<;>intro hc)))<;>((first|refine off ?_|refine mv ?_);(first|refine off ?_|refine mv ?_);(first|refine off ?_|refine tl ?_);(first|refine off ?_|(first|(refine cS ?_ ?_<;>intro hc)))<;>((first|refine off ?_|refine vl ?_);refine vl ?_;refine mv ?_;(first|refine off ?_|(refine lB S rfl rfl ?_));(first|refine off ?_|refine mv ?_);(first|refine off ?_|refine mv ?_);(first|(refine off ?_;refine vl ?_;refine mv ?_;(skip))|skip))))))
 all_goals (all_goals (repeat' (fail)))
 all_goals (try ((refine qo rfl rfl rfl rfl rfl ((qak S.wf hf pv p (Z.ext w S.ext) z.1 z.2.1 sx.val xs (rx.ext w S.ext) (fun i hi=>(rr i hi).ext w S.ext) y.1 y.2 s).mono ?_);rintro _ h ⟨rfl,x⟩)<;>(replace S:=S.join0 x;clear x;refine vl ?_;refine mv ?_;(skip))))
 all_goals (try ((refine qo rfl rfl rfl rfl rfl ((qaC S.wf).mono ?_);rintro _ h ⟨rfl,x⟩)<;>(replace S:=S.join0 x;clear x;refine vl ?_;refine mv ?_;refine qf ?_)))
 all_goals (all_goals (repeat' (fail)))
 all_goals (refine qi ⟨_,rfl,?_⟩)
 all_goals rfl
end Go.Proofs.Xx
namespace Go.Proofs.Xx
open Go Go.RowKit Go.Proofs
theorem AR.tripM {h:AH} {n:Nat} {r:List Value} (a:AR Tryz.prog h n 71 r):∃ x:Tr_,r=jo x∧qY h x.tv.val 1 eI x.ta:=by
 obtain ⟨n',hl,hk⟩:=a.struct1 (m:=[(0,25),(1,3),(2,3)]) (z:=3) rfl (by kernel_rfl) (by kernel_rfl);match r,hl with
 | [x0,x1,x2],_ =>
  obtain ⟨s0,l0,e0,r0,m0,c0,b0⟩:=AR.intsM (show AR Tryz.prog h n' 25 [x0] from hk (0,25) (by simp));obtain ⟨y1,e1,-⟩:=AR.int1 (k:=.i64) (show AR Tryz.prog h n' 3 [x1] from hk (1,3) (by simp)) (by kernel_rfl);obtain ⟨y2,e2,-⟩:=AR.int1 (k:=.i64) (show AR Tryz.prog h n' 3 [x2] from hk (2,3) (by simp)) (by kernel_rfl);cases e0;cases e1;cases e2
  exact ⟨⟨s0,l0,y1,y2⟩,rfl,r0⟩
theorem AR.tripsM {h:AH} {n:Nat} {r:List Value} (a:AR Tryz.prog h n 32 r):∃ (sv:SlV) (l:List Tr_),r=[sv.val]∧qY h sv.val 3 jo l∧∀ i,i<l.length→qY h (l.getD i default).tv.val 1 eI (l.getD i default).ta:=by
 obtain ⟨v,l,e,h1,h2,h3,h4⟩:=AR.slice1w (e:=71) (z:=3) jo (fun x=>qY h x.tv.val 1 eI x.ta) a (by kernel_rfl) (by kernel_rfl) (fun n cs q=>q.tripM);obtain ⟨sv,rfl⟩:=h1.isSl;exact ⟨sv,l,e,h1,h4⟩
theorem X6 [Flag] (hf:Flag.b=true) (h:AH) (us:List Value) (w:WfH h) (a:ArgsR Tryz.prog h Tryz.f4.params.toList us):Fn Tryz.prog Xh 4 us h (fun x _=>x = .bool true):=by
 rw [show Tryz.f4.params.toList=[28,32,9] by kernel_rfl] at a;obtain ⟨n0,r0,us,rfl,a0,a⟩:=a.cons_inv;obtain ⟨n1,r1,us,rfl,a1,a⟩:=a.cons_inv;obtain ⟨n2,r2,us,rfl,a2,a⟩:=a.cons_inv;obtain rfl:=a.nil_inv;obtain ⟨v,p,rfl,Z⟩:=a0.prob1;obtain ⟨sx,xs,rfl,rx,rr⟩:=a1.tripsM;obtain ⟨s,rfl,hs⟩:=AR.str1 a2 (by kernel_rfl);exact X5 w hf v p Z sx xs rx rr s
end Go.Proofs.Xx
namespace Go.Proofs.Xx
open Go Go.RowKit Go.Proofs
def KN:List Nat:=[8,235,176,323,321,300,243,67,239,124]
theorem qdj (f:FuncId) (hk:KN.all (fun n=>!Nat.beq f n)=true) (us:List Value) (h:AH):Xh f us h=none:=by
 have e:∀ n,n∈KN→Nat.beq f n=false:=fun n q=>by have:=zC8.1 hk n q;simpa using this
 unfold Xh ZC Xa XT ZV Xd Zj X0 VB VA VC withBytes jG;simp only [e 8 (by decide),e 235 (by decide),e 176 (by decide),e 323 (by decide),e 321 (by decide),e 300 (by decide),e 243 (by decide),e 67 (by decide),e 239 (by decide),e 124 (by decide)]
theorem YH {W:World} (h:W.ShapedOpen Tryz.prog):1<W.heap.size∧∃ m el fr,W.heap[0]? = some (.cells #[.int .i64 m] el fr):=by
 have h0:((begin Tryz.prog (fun _ _=>0) default).world.heap[0]?).bind Obj.row? = some (#[.int .i64 0],3):=by kernel_rfl
 obtain ⟨m,hm⟩:=cell_of_shapedOpen_int h (g:=0) (t:=3) (of_decide_eq_true (by kernel_rfl)) h0 rfl (by kernel_rfl) (by kernel_rfl) Tryz.underlying3;obtain ⟨cs,hh,hs,-⟩:=h.1 0 _ 3 (of_decide_eq_true (by kernel_rfl)) h0;refine ⟨?_,m,3,(0,0),?_⟩
 ·have h1:(((begin Tryz.prog (fun _ _=>0) default).world.heap[1]?).bind Obj.row?).isSome=true:=by kernel_rfl
  obtain ⟨⟨z,t⟩,h1⟩:=Option.isSome_iff_exists.1 h1;obtain ⟨cs,hh,-⟩:=h.1 1 z t (of_decide_eq_true (by kernel_rfl)) h1;exact (zB9.1 hh).1
 ·rw [hh];have:cs=#[.int .i64 m]:=by
   simp only [World.cell?,hh] at hm;obtain ⟨l⟩:=cs;match l,hs,hm with
   | [x],_,hm=>simp at hm;rw [hm]
   | [],hs,_=>cases hs
   | _ :: _ :: _,hs,_=>simp at hs
  rw [this]
theorem gY {W:World} (h:W.ShapedOpen Tryz.prog):∃ (k:Nat) (cc:Array Value) (el:TypeId) (fr:Nat×Nat),W.heap[k]? = some (.cells cc el fr):=by
 obtain ⟨-,m,el,fr,q⟩:=YH h;exact ⟨0,_,el,fr,q⟩
end Go.Proofs.Xx
namespace Go.Proofs.Xx
open Go Go.RowKit Go.Proofs
theorem qbK:(Tryz.prog.globals[1]?).map (·.type)=some 283:=by kernel_rfl
theorem qbI [Flag] {W:World} {x y:String×DataW Unit} {rest:List (String×DataW Unit)} (h:laidMet Tryz.prog (x :: y :: ("internal/strconv.uint64pow10", YtgehpahpnidimaaGreatDoor.Rows.laid_internal_strconv_uint64pow10) :: rest) W) (hS:W.ShapedOpen Tryz.prog) :
 Glob.ok W.heap.size W.heap:=by
 refine ⟨(YH hS).1,(YH hS).2,fun _=>?_⟩;have t:Lib.TabIs Tryz.prog W "internal/strconv.uint64pow10" .u64 Lib.pow10Tab :=
  Lib.tabIs_of_head qeb qbK (n:=20) (e:=255) (by kernel_rfl) (by kernel_rfl) (by kernel_rfl) (by kernel_rfl) (laidMet.tail (laidMet.tail h))
 unfold Lib.TabIs World.var? at t;rw [qeb] at t;simp only [Option.bind_some] at t;split at t
 ·rename_i cs el fr hc
  cases t
  exact ⟨el,fr,hc⟩
 ·cases t
section
variable {P:Program} {X:Extern} {sz:Nat} {ops:Array Oper} {os:List Oper} {R:Ks→AH→Prop}
theorem qgJ {L0:Ks} {h0:AH} {o0 o1 o2:Oper} {L1:Ks} {x0:Operand} {v0:Value} {L2:Ks} {x1 y1:Operand} {ty1 tz1:TypeId} {a1 b1:Int} {L3:Ks} {x2:Operand} {v2:Value} (w:R L3 h0) (ho0:Zh o0.op=some x0:=by exact rfl) (hg0:qm ops L0.tree o0.guard=some true:=by exact rfl) (hx0:kA L0 x0=some v0:=by exact rfl) (hp0:qB sz L0 o0.dst v0=some L1:=by exact rfl) (ho1:o1.op = .binOp .add ty1 x1 y1 tz1:=by exact rfl) (hg1:qm ops L1.tree o1.guard=some true:=by exact rfl) (hx1:kA L1 x1=some (.int .i64 a1):=by exact rfl) (hy1:kA L1 y1=some (.int .i64 b1):=by exact rfl) (hb1 : -9223372036854775808≤a1+b1∧a1+b1≤9223372036854775807:=by first|omega|grind) (hp1:qB sz L1 o1.dst (.int .i64 (a1+b1))=some L2:=by exact rfl) (ho2:Zh o2.op=some x2:=by exact rfl) (hg2:qm ops L2.tree o2.guard=some true:=by exact rfl) (hx2:kA L2 x2=some v2:=by exact rfl) (hp2:qB sz L2 o2.dst v2=some L3:=by exact rfl):KO P X sz ops [o0,o1,o2] L0 h0 R:=mv (ad (mv (qf w) ho2 hg2 hx2 hp2) ho1 hg1 hx1 hy1 hb1 hp1) ho0 hg0 hx0 hp0
theorem qgI {L0:Ks} {h0:AH} {o0 o1 o2:Oper} {L1:Ks} {x0:Operand} {v0:Value} {L2:Ks} {x1 y1:Operand} {ty1 tz1:TypeId} {a1 b1:Int} {L3:Ks} {x2:Operand} {v2:Value} (w:R L3 h0) (ho0:Zh o0.op=some x0:=by exact rfl) (hg0:qm ops L0.tree o0.guard=some true:=by exact rfl) (hx0:kA L0 x0=some v0:=by exact rfl) (hp0:qB sz L0 o0.dst v0=some L1:=by exact rfl) (ho1:o1.op = .binOp .sub ty1 x1 y1 tz1:=by exact rfl) (hg1:qm ops L1.tree o1.guard=some true:=by exact rfl) (hx1:kA L1 x1=some (.int .i64 a1):=by exact rfl) (hy1:kA L1 y1=some (.int .i64 b1):=by exact rfl) (hb1 : -9223372036854775808≤a1 - b1∧a1 - b1≤9223372036854775807:=by first|omega|grind) (hp1:qB sz L1 o1.dst (.int .i64 (a1 - b1))=some L2:=by exact rfl) (ho2:Zh o2.op=some x2:=by exact rfl) (hg2:qm ops L2.tree o2.guard=some true:=by exact rfl) (hx2:kA L2 x2=some v2:=by exact rfl) (hp2:qB sz L2 o2.dst v2=some L3:=by exact rfl):KO P X sz ops [o0,o1,o2] L0 h0 R:=mv (sb (mv (qf w) ho2 hg2 hx2 hp2) ho1 hg1 hx1 hy1 hb1 hp1) ho0 hg0 hx0 hp0
theorem qf7 {L0:Ks} {h0:AH} {o0 o1 o2 o3 o4:Oper} {L1:Ks} {x0:Operand} {v0:Value} {L2:Ks} {h2:AH} {v1:Value} {L3:Ks} {h3:AH} {v2:Value} {L4:Ks} {x3:Operand} {v3:Value} {L5:Ks} {x4:Operand} {v4:Value} (w:R L5 h3) (ho0:Zh o0.op=some x0:=by exact rfl) (hg0:qm ops L0.tree o0.guard=some true:=by exact rfl) (hx0:kA L0 x0=some v0:=by exact rfl) (hp0:qB sz L0 o0.dst v0=some L1:=by exact rfl) (hg1:qm ops L1.tree o1.guard=some true:=by exact rfl) (ha1:zC P L1.tree h0 o1.op=some (.val v1 h2):=by exact rfl) (hp1:qB sz L1 o1.dst v1=some L2:=by exact rfl) (hg2:qm ops L2.tree o2.guard=some true:=by exact rfl) (ha2:zC P L2.tree h2 o2.op=some (.val v2 h3):=by exact rfl) (hp2:qB sz L2 o2.dst v2=some L3:=by exact rfl) (ho3:Zh o3.op=some x3:=by exact rfl) (hg3:qm ops L3.tree o3.guard=some true:=by exact rfl) (hx3:kA L3 x3=some v3:=by exact rfl) (hp3:qB sz L3 o3.dst v3=some L4:=by exact rfl) (ho4:Zh o4.op=some x4:=by exact rfl) (hg4:qm ops L4.tree o4.guard=some true:=by exact rfl) (hx4:kA L4 x4=some v4:=by exact rfl) (hp4:qB sz L4 o4.dst v4=some L5:=by exact rfl):KO P X sz ops [o0,o1,o2,o3,o4] L0 h0 R:=mv (vl (vl (mv (mv (qf w) ho4 hg4 hx4 hp4) ho3 hg3 hx3 hp3) hg2 ha2 hp2) hg1 ha1 hp1) ho0 hg0 hx0 hp0
theorem qgn {L0:Ks} {h0:AH} {o0 o1 o2 o3:Oper} {L1:Ks} {x0:Operand} {v0:Value} {L2:Ks} {x1:Operand} {v1:Value} {L3:Ks} {x2 y2:Operand} {ty2 tz2:TypeId} {a2 b2:Int} {L4:Ks} {x3:Operand} {v3:Value} (w:R L4 h0) (ho0:Zh o0.op=some x0:=by exact rfl) (hg0:qm ops L0.tree o0.guard=some true:=by exact rfl) (hx0:kA L0 x0=some v0:=by exact rfl) (hp0:qB sz L0 o0.dst v0=some L1:=by exact rfl) (ho1:Zh o1.op=some x1:=by exact rfl) (hg1:qm ops L1.tree o1.guard=some true:=by exact rfl) (hx1:kA L1 x1=some v1:=by exact rfl) (hp1:qB sz L1 o1.dst v1=some L2:=by exact rfl) (ho2:o2.op = .binOp .sub ty2 x2 y2 tz2:=by exact rfl) (hg2:qm ops L2.tree o2.guard=some true:=by exact rfl) (hx2:kA L2 x2=some (.int .i64 a2):=by exact rfl) (hy2:kA L2 y2=some (.int .i64 b2):=by exact rfl) (hb2 : -9223372036854775808≤a2 - b2∧a2 - b2≤9223372036854775807:=by first|omega|grind) (hp2:qB sz L2 o2.dst (.int .i64 (a2 - b2))=some L3:=by exact rfl) (ho3:Zh o3.op=some x3:=by exact rfl) (hg3:qm ops L3.tree o3.guard=some true:=by exact rfl) (hx3:kA L3 x3=some v3:=by exact rfl) (hp3:qB sz L3 o3.dst v3=some L4:=by exact rfl):KO P X sz ops [o0,o1,o2,o3] L0 h0 R:=mv (mv (sb (mv (qf w) ho3 hg3 hx3 hp3) ho2 hg2 hx2 hy2 hb2 hp2) ho1 hg1 hx1 hp1) ho0 hg0 hx0 hp0
theorem qgX {L0:Ks} {h0:AH} {o0 o1:Oper} {L1:Ks} {x0:Operand} {v0:Value} {L2:Ks} {x1:Operand} {v1:Value} (w:R L2 h0) (ho0:Zh o0.op=some x0:=by exact rfl) (hg0:qm ops L0.tree o0.guard=some true:=by exact rfl) (hx0:kA L0 x0=some v0:=by exact rfl) (hp0:qB sz L0 o0.dst v0=some L1:=by exact rfl) (ho1:Zh o1.op=some x1:=by exact rfl) (hg1:qm ops L1.tree o1.guard=some true:=by exact rfl) (hx1:kA L1 x1=some v1:=by exact rfl) (hp1:qB sz L1 o1.dst v1=some L2:=by exact rfl):KO P X sz ops [o0,o1] L0 h0 R:=mv (mv (qf w) ho1 hg1 hx1 hp1) ho0 hg0 hx0 hp0
theorem qgY {L0:Ks} {h0:AH} {o0 o1:Oper} {L1:Ks} {x0 y0:Operand} {ty0 tz0:TypeId} {a0 b0:Int} {L2:Ks} {x1:Operand} {v1:Value} (w:R L2 h0) (ho0:o0.op = .binOp .add ty0 x0 y0 tz0:=by exact rfl) (hg0:qm ops L0.tree o0.guard=some true:=by exact rfl) (hx0:kA L0 x0=some (.int .i64 a0):=by exact rfl) (hy0:kA L0 y0=some (.int .i64 b0):=by exact rfl) (hb0 : -9223372036854775808≤a0+b0∧a0+b0≤9223372036854775807:=by first|omega|grind) (hp0:qB sz L0 o0.dst (.int .i64 (a0+b0))=some L1:=by exact rfl) (ho1:Zh o1.op=some x1:=by exact rfl) (hg1:qm ops L1.tree o1.guard=some true:=by exact rfl) (hx1:kA L1 x1=some v1:=by exact rfl) (hp1:qB sz L1 o1.dst v1=some L2:=by exact rfl):KO P X sz ops [o0,o1] L0 h0 R:=ad (mv (qf w) ho1 hg1 hx1 hp1) ho0 hg0 hx0 hy0 hb0 hp0
theorem qgU {L0:Ks} {h0:AH} {o0 o1:Oper} {L1:Ks} {h1:AH} {v0:Value} {L2:Ks} {x1:Operand} {v1:Value} (w:R L2 h1) (hg0:qm ops L0.tree o0.guard=some true:=by exact rfl) (ha0:zC P L0.tree h0 o0.op=some (.val v0 h1):=by exact rfl) (hp0:qB sz L0 o0.dst v0=some L1:=by exact rfl) (ho1:Zh o1.op=some x1:=by exact rfl) (hg1:qm ops L1.tree o1.guard=some true:=by exact rfl) (hx1:kA L1 x1=some v1:=by exact rfl) (hp1:qB sz L1 o1.dst v1=some L2:=by exact rfl):KO P X sz ops [o0,o1] L0 h0 R:=vl (mv (qf w) ho1 hg1 hx1 hp1) hg0 ha0 hp0
theorem qgW {L0:Ks} {h0:AH} {o0 o1:Oper} {L1:Ks} {x0:Operand} {v0:Value} {L2:Ks} {h2:AH} {v1:Value} (w:R L2 h2) (ho0:Zh o0.op=some x0:=by exact rfl) (hg0:qm ops L0.tree o0.guard=some true:=by exact rfl) (hx0:kA L0 x0=some v0:=by exact rfl) (hp0:qB sz L0 o0.dst v0=some L1:=by exact rfl) (hg1:qm ops L1.tree o1.guard=some true:=by exact rfl) (ha1:zC P L1.tree h0 o1.op=some (.val v1 h2):=by exact rfl) (hp1:qB sz L1 o1.dst v1=some L2:=by exact rfl):KO P X sz ops [o0,o1] L0 h0 R:=mv (vl (qf w) hg1 ha1 hp1) ho0 hg0 hx0 hp0
theorem qgH {L0:Ks} {h0:AH} {o0 o1 o2 o3:Oper} {L1:Ks} {x0:Operand} {v0:Value} {L2:Ks} {h2:AH} {v1:Value} {L3:Ks} {h3:AH} {v2:Value} {L4:Ks} {h4:AH} {v3:Value} (w:KO P X sz ops os L4 h4 R) (ho0:Zh o0.op=some x0:=by exact rfl) (hg0:qm ops L0.tree o0.guard=some true:=by exact rfl) (hx0:kA L0 x0=some v0:=by exact rfl) (hp0:qB sz L0 o0.dst v0=some L1:=by exact rfl) (hg1:qm ops L1.tree o1.guard=some true:=by exact rfl) (ha1:zC P L1.tree h0 o1.op=some (.val v1 h2):=by exact rfl) (hp1:qB sz L1 o1.dst v1=some L2:=by exact rfl) (hg2:qm ops L2.tree o2.guard=some true:=by exact rfl) (ha2:zC P L2.tree h2 o2.op=some (.val v2 h3):=by exact rfl) (hp2:qB sz L2 o2.dst v2=some L3:=by exact rfl) (hg3:qm ops L3.tree o3.guard=some true:=by exact rfl) (ha3:zC P L3.tree h3 o3.op=some (.val v3 h4):=by exact rfl) (hp3:qB sz L3 o3.dst v3=some L4:=by exact rfl):KO P X sz ops (o0 :: o1 :: o2 :: o3 :: os) L0 h0 R:=mv (vl (vl (vl (w) hg3 ha3 hp3) hg2 ha2 hp2) hg1 ha1 hp1) ho0 hg0 hx0 hp0
theorem qgV {L0:Ks} {h0:AH} {o0 o1 o2:Oper} {L1:Ks} {x0:Operand} {v0:Value} {L2:Ks} {h2:AH} {v1:Value} {L3:Ks} {h3:AH} {v2:Value} (w:KO P X sz ops os L3 h3 R) (ho0:Zh o0.op=some x0:=by exact rfl) (hg0:qm ops L0.tree o0.guard=some true:=by exact rfl) (hx0:kA L0 x0=some v0:=by exact rfl) (hp0:qB sz L0 o0.dst v0=some L1:=by exact rfl) (hg1:qm ops L1.tree o1.guard=some true:=by exact rfl) (ha1:zC P L1.tree h0 o1.op=some (.val v1 h2):=by exact rfl) (hp1:qB sz L1 o1.dst v1=some L2:=by exact rfl) (hg2:qm ops L2.tree o2.guard=some true:=by exact rfl) (ha2:zC P L2.tree h2 o2.op=some (.val v2 h3):=by exact rfl) (hp2:qB sz L2 o2.dst v2=some L3:=by exact rfl):KO P X sz ops (o0 :: o1 :: o2 :: os) L0 h0 R:=mv (vl (vl (w) hg2 ha2 hp2) hg1 ha1 hp1) ho0 hg0 hx0 hp0
theorem kmn {L0:Ks} {h0:AH} {o0:Oper} {L1:Ks} {x0:Operand} {v0:Value} (w:R L1 h0) (ho0:Zh o0.op=some x0:=by exact rfl) (hg0:qm ops L0.tree o0.guard=some true:=by exact rfl) (hx0:kA L0 x0=some v0:=by exact rfl) (hp0:qB sz L0 o0.dst v0=some L1:=by exact rfl):KO P X sz ops [o0] L0 h0 R:=mv (qf w) ho0 hg0 hx0 hp0
theorem kvn {L0:Ks} {h0:AH} {o0:Oper} {L1:Ks} {h1:AH} {v0:Value} (w:R L1 h1) (hg0:qm ops L0.tree o0.guard=some true:=by exact rfl) (ha0:zC P L0.tree h0 o0.op=some (.val v0 h1):=by exact rfl) (hp0:qB sz L0 o0.dst v0=some L1:=by exact rfl):KO P X sz ops [o0] L0 h0 R:=vl (qf w) hg0 ha0 hp0
theorem kmm {L0:Ks} {h0:AH} {o0 o1:Oper} {L1:Ks} {x0:Operand} {v0:Value} {L2:Ks} {x1:Operand} {v1:Value} (w:KO P X sz ops os L2 h0 R) (ho0:Zh o0.op=some x0:=by exact rfl) (hg0:qm ops L0.tree o0.guard=some true:=by exact rfl) (hx0:kA L0 x0=some v0:=by exact rfl) (hp0:qB sz L0 o0.dst v0=some L1:=by exact rfl) (ho1:Zh o1.op=some x1:=by exact rfl) (hg1:qm ops L1.tree o1.guard=some true:=by exact rfl) (hx1:kA L1 x1=some v1:=by exact rfl) (hp1:qB sz L1 o1.dst v1=some L2:=by exact rfl):KO P X sz ops (o0 :: o1 :: os) L0 h0 R:=mv (mv (w) ho1 hg1 hx1 hp1) ho0 hg0 hx0 hp0
end
end Go.Proofs.Xx
