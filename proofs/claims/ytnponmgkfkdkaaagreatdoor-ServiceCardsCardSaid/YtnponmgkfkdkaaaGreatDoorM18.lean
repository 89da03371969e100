/-
  Charts.
-/
import Derived.Test.YtnponmgkfkdkaaaGreatDoorM17
import Derived.Test.YtnponmgkfkdkaaaGreatDoorM13
import Derived.Test.YtnponmgkfkdkaaaGreatDoorM6
import Derived.Test.YtnponmgkfkdkaaaGreatDoorM4
import Derived.Test.YtnponmgkfkdkaaaGreatDoorM8
import Derived.Test.YtnponmgkfkdkaaaGreatDoorRows
import Derived.Lib.LaidTab
import Derived.Stop.LaidErr
import Derived.Shelf.Vars
import Derived.Test.YtnponmgkfkdkaaaGreatDoorM14
set_option linter.unusedSimpArgs false
set_option linter.unusedVariables false
set_option linter.unusedSectionVars false
set_option maxRecDepth 100000
set_option maxHeartbeats 4000000
namespace Go.Proofs.Xx
open Go Go.Proofs
variable [Flag]
theorem qce {h0:AH} (w:WfH h0) (hf:Flag.b=true) (pv:PbV) (p:Pb) (H:PbOk h0 pv p) (sq:SlV) (q:List Int) (rq:zl h0 sq.val 1 eI q) (hq:q.length≤1000000) (t:Int) :
 Fn Tryz.prog Xh 24 [pv.val,sq.val,.int .i64 t] h0 (fun u h'=>∃ s,u=str s∧(PO p→PartOk p q→0≤t→t<p.tabs.length→s=QQ p q t.toNat)∧(¬ (PO p∧PartOk p q∧0≤t∧t<p.tabs.length)→s=[])∧Hs h0 h' []):=by
 have S:=Hs.start w;have hr:=H.tab.rd;have hl:=H.tab.len;have hgl:pv.gs.length=p.us.length:=H.rol.len;have rg:zl h0 pv.vg.val 9 eG pv.gs:=H.rol.rg;unfold PbV.val;refine qA (by first|rfl) Tryz.func24 rfl rfl ?_;all_goals (repeat' (first|refine qg ?_|(refine qc 0 ?_;(refine bx S ?_;clear S;intro b h S);refine mv ?_;refine qf ?_)))
 obtain ⟨b3,hnm⟩:∃ x,x=b:=⟨_,rfl⟩;subst hnm;all_goals (repeat' (first|refine qg ?_|refine qh rfl ?_|(refine qc 1 ?_;refine mv ?_;(first|(refine cS ?_ ?_<;>intro hc))<;>(refine mv ?_;(first|refine off ?_|refine mv ?_);(first|refine off ?_|(refine vl ?_));(first|refine off ?_|(refine lB S rfl rfl ?_));(first|refine off ?_|(refine jc S ?_));(first|refine off ?_|(first|(refine cS ?_ ?_<;>intro hc)))<;>(refine vl ?_;refine mv ?_;(first|refine off ?_|(refine lB S rfl rfl ?_));(first|refine off ?_|refine mv ?_);(first|(refine off ?_;refine off ?_;refine vl ?_;refine qf ?_)|skip))))))
 all_goals (try ((refine qm rfl rfl rfl rfl rfl ((XH S.wf pv p (H.ext w S.ext) sq.val q (rq.ext w S.ext) (by omega)).mono ?_);rintro _ h ⟨⟨rfl,z⟩|⟨rfl,z⟩,x⟩)<;>(replace S:=S.qx x;clear x;refine vl ?_;refine vl ?_;refine qf ?_)))
 all_goals (all_goals (repeat' (first|refine qg ?_|refine qh rfl ?_|refine qi ?_|(refine qc 2 ?_;refine mv ?_;refine qf ?_))))
 all_goals first
  | (refine qj ⟨_,rfl,?_⟩;exact ⟨[],rfl,fun _ _ _ _=>by omega,fun _=>rfl,S.drop⟩)
  | (refine qj ⟨_,rfl,?_⟩;exact ⟨[],rfl,fun a b _ _=>absurd ⟨a,b⟩ z,fun _=>rfl,S.drop⟩)
  | skip
 obtain ⟨hP,hQ⟩:=z;obtain ⟨n,rfl⟩:=zH3 (show 0≤t by omega);have hn:n<p.tabs.length:=by omega
 have hql:=hQ.len;have h64:p.us.length≤64:=hP.rl.l64;have hxn:p.tabs.getD (n:Int).toNat default=tb p.tabs n:=rfl;have hnt:(tb p.tabs n).name.length≤12:=(hP.tabs.nm hn).2.1;have ht24:=zO (tb p.tabs n);have hgm:∀ j,j<p.us.length→(pv.gs.getD j default).name=QK p j:=fun j hj=>by unfold QK;rw [zA0,← (hP.gst H hj).1]
 all_goals (repeat' (first|refine qg ?_|(refine qc 3 ?_;(refine al S ?_;clear S;intro b h S);refine qf ?_)))
 obtain ⟨b7,hnm⟩:∃ x,x=b:=⟨_,rfl⟩;subst hnm;replace S:Hs h0 h [bst b7 (.pointer none) (.slice none 0 0),.blk b3 pv.cs 28]:=S;have S:Hs h0 h [wo (.slice none 0 0) [],bst b7 (.pointer none) (.slice none 0 0),.blk b3 pv.cs 28]:=S.ZF;have S:=(show Hs h0 h [bst b7 (.pointer none) (.slice none 0 0),wo (.slice none 0 0) [],.blk b3 pv.cs 28] from S.pick)
 all_goals (repeat' (first|(refine qc 4 ?_;refine vl ?_;refine lB S rfl rfl ?_;refine mv ?_;refine zT S ?_;refine fB S ?_;refine zQ S ?_;refine tc ?_;refine tc ?_)))
 rw [hxn];have hb0:([]:List UInt8).length+([116,97,98,108,101,32] ++ (tb p.tabs n).name ++ [10]).length≤1000000:=by simp only [zB2,zC4,List.length_nil];omega
 (refine qm rfl rfl rfl rfl rfl ((jH ([116,97,98,108,101,32] ++ (tb p.tabs n).name ++ [10]) S (.inl rfl) hb0).mono ?_);rintro _ h ⟨v1,S2⟩)<;>(replace S:=S2;clear S2;refine qf ?_)
 have eh:[] ++ ([116,97,98,108,101,32] ++ (tb p.tabs n).name ++ [10])=wTable ++ [32] ++ (tb p.tabs n).name ++ [10]:=by unfold wTable;simp
 rw [eh] at S;have hdl:(wTable ++ [32] ++ (tb p.tabs n).name ++ [10]).length≤30:=by rw [← eh];simp only [zB2,zC4,List.length_nil];omega
 have hdp:0<(wTable ++ [32] ++ (tb p.tabs n).name ++ [10]).length:=by rw [← eh];simp only [zB2,zC4,List.length_nil];omega
 have hcT:QQ p q n=(wTable ++ [32] ++ (tb p.tabs n).name ++ [10]) ++ JQ p (JK p q n) (JK p q n).length:=rfl;generalize wTable ++ [32] ++ (tb p.tabs n).name ++ [10]=hd at *
 all_goals (repeat' (first|refine qg ?_|(refine qc 5 ?_;refine lB S rfl rfl ?_;refine mv ?_;refine mv ?_)))
 (refine qm rfl rfl rfl rfl rfl ((qaO S.wf pv p (H.ext w S.ext) sq q (rq.ext w S.ext) hq (n:Int)).mono ?_);rintro vl_ h ⟨l,l1,-,x⟩)<;>(replace S:=S.QD x;clear x;refine Py S rfl rfl ?_;refine mv ?_;refine qf ?_)
 have hlg:=l1 hP hQ (by omega) (by omega);rw [zA0] at hlg;have hll:l.length≤24:=by rw [hlg,PL];omega
 have hlb:∀ x∈l,-1≤x∧x<p.us.length:=fun x hx=>by
  rw [hlg] at hx;unfold JK at hx;obtain ⟨k,-,rfl⟩:=zF1.1 hx;have:=qda (q:=q) (y:=sumT p.tabs n+k);omega
 have hcs:=yM hP H (l:=l) (by omega) fun x hx=>(hlb x hx).2;rw [← hlg] at hcT;have S:=(show Hs h0 h [bst b7 (.pointer (some ⟨b7,0,none⟩)) v1,wo v1 hd,.sl vl_ 3 1 eI l,.blk b3 pv.cs 28] from S.pick)
 have S:Hs h0 h [bst b7 (.pointer (some ⟨b7,0,none⟩)) v1,wo v1 (hd ++ JQ p l 0),.sl vl_ 3 1 eI l,.blk b3 pv.cs 28]:=by
  rw [show JQ p l 0=[] from rfl,zD7];exact S
 all_goals (repeat' (refine ql ?_))
 refine qB (σ:=Nat×Value) (fun (k,v) h'=>Hs h0 h' [bst b7 (.pointer (some ⟨b7,0,none⟩)) v,wo v (hd ++ JQ p l k),.sl vl_ 3 1 eI l,.blk b3 pv.cs 28]∧k≤l.length) (fun (k,v)=>l.length - k) (fun (k,v)=>[(3,.pointer (some ⟨b3,0,none⟩)),(7,.pointer (some ⟨b7,0,none⟩)),(37,vl_),(38,.int .i64 l.length),(39,.int .i64 k)]) (0,v1) qw ?_ ?_
 ·exact ⟨S,zB0 _⟩
 clear S;rintro ⟨k,v⟩ h ⟨S,g1⟩;have hck:=hcs k g1;all_goals (repeat' (first|refine qg ?_|refine qh rfl ?_|refine qi ?_|refine qy ?_|refine ql ?_|(refine qc 6 ?_;(first|(refine cS ?_ ?_<;>intro hc))<;>(refine qf ?_))))
 ·have hk:k<l.length:=by omega
  have hx0:l.getD (k:Int).toNat default=l.getD k default:=rfl;have hbx:=hlb _ (qK hk);have hsn:=qa5 (p:=p) (l:=l) (n:=k);have hcl:=yN hP H (k:=k) (by omega) hbx.2;have hdk:=Zj 8 k (by omega);all_goals (repeat' (first|refine qg ?_|(refine qc 7 ?_;refine mv ?_;refine qR S rfl rfl ?_;refine zu S rfl rfl ?_;refine mv ?_;refine mv ?_;refine qf ?_)))
  rw [hx0];generalize l.getD k default=y at *
  all_goals (repeat' (first|(refine qc 8 ?_;refine mv ?_)))
  (refine qm rfl rfl rfl rfl rfl ((PH S.wf hf (k:Int) (by omega)).mono ?_);rintro _ h ⟨rfl,x⟩)<;>(replace S:=S.qx x;clear x;refine tc ?_)
  rw [zA0];have hb1:(hd ++ JQ p l k).length+(Zo k ++ [32]).length≤1000000:=by simp only [zB2,zC4,List.length_nil];omega
  all_goals (repeat' (fail))
  (refine qm rfl rfl rfl rfl rfl ((jH (Zo k ++ [32]) S (.inr rfl) hb1).mono ?_);rintro _ h ⟨v2,S2⟩)<;>(replace S:=S2;clear S2;refine qf ?_)
  all_goals (repeat' (first|refine qg ?_|refine qh rfl ?_|(refine qc 9 ?_;refine mv ?_;(first|(refine cS ?_ ?_<;>intro hc))<;>(refine qf ?_))))
  ·have hb2:(hd ++ JQ p l k ++ (Zo k ++ [32])).length+([45,10]:List UInt8).length≤1000000:=by simp only [zB2,zC4,List.length_nil] at hb1 ⊢;omega
   all_goals (repeat' (first|(refine qc 10 ?_;skip)))
   (refine qm rfl rfl rfl rfl rfl ((jH [45,10] S (.inr rfl) hb2).mono ?_);rintro _ h ⟨v3,S2⟩)<;>(replace S:=S2;clear S2;refine qf ?_)
   have e:hd ++ JQ p l k ++ (Zo k ++ [32]) ++ [45,10]=hd ++ JQ p l (k+1):=by
    rw [hsn];unfold vY;rw [if_pos (by assumption)];simp
   rw [e] at S;all_goals (repeat' (first|(refine qc 12 ?_;refine ad ?_;refine mv ?_;refine qf ?_)))
   refine ⟨(k+1,v3),?_,?_,qw⟩
   ·show l.length - (k+1)<l.length - k;omega
   ·exact ⟨S,by (try dsimp only);omega⟩
  ·obtain ⟨g,rfl⟩:=zH3 (show 0≤y by omega);have hxg:pv.gs.getD (g:Int).toNat default=pv.gs.getD g default:=rfl;have hgn:=hgm g (by omega);have hn12:(QK p g).length≤12:=(hP.gst H (show g<p.us.length by omega)).2.1.2.1;have hb2:(hd ++ JQ p l k ++ (Zo k ++ [32])).length+(QK p g ++ [10]).length≤1000000:=by simp only [zB2,zC4,List.length_nil] at hb1 ⊢;omega
   all_goals (repeat' (first|(refine qc 11 ?_;refine vl ?_;refine lB S rfl rfl ?_;refine mv ?_;refine zT S ?_;refine fB S ?_;refine zQ S ?_;refine tc ?_)))
   rw [hxg,hgn];(refine qm rfl rfl rfl rfl rfl ((jH (QK p g ++ [10]) S (.inr rfl) hb2).mono ?_);rintro _ h ⟨v3,S2⟩)<;>(replace S:=S2;clear S2;refine qf ?_)
   have e:hd ++ JQ p l k ++ (Zo k ++ [32]) ++ (QK p g ++ [10])=hd ++ JQ p l (k+1):=by
    rw [hsn];unfold vY;rw [if_neg (by assumption)];simp
   rw [e] at S;all_goals (repeat' (first|(refine qc 12 ?_;refine ad ?_;refine mv ?_;refine qf ?_)))
   refine ⟨(k+1,v3),?_,?_,qw⟩
   ·show l.length - (k+1)<l.length - k;omega
   ·exact ⟨S,by (try dsimp only);omega⟩
 ·obtain rfl:k=l.length:=by omega
  rw [← hcT] at S;have hpos:0<(QQ p q n).length∧(QQ p q n).length≤1000000:=by rw [hcT,zB2];omega
  all_goals (repeat' (first|(refine qc 13 ?_;skip)))
  (refine qm rfl rfl rfl rfl rfl ((xe S hpos).mono ?_);rintro _ h ⟨rfl,S2⟩)<;>(replace S:=S2;clear S2;refine mv ?_;refine qf ?_)
  all_goals (repeat' (fail))
  refine qj ⟨_,rfl,?_⟩;exact ⟨_,rfl,fun _ _ _ _=>rfl,fun c=>absurd ⟨hP,hQ,by omega,by omega⟩ c,S.drop⟩
theorem qcp {h0:AH} (w:WfH h0) (pv:PbV) (p:Pb) (H:PbOk h0 pv p) (hP:PO p) (vq:Value) (q:List Int) (rq:zl h0 vq 1 eI q) (hQ:PartOk p q) (n:Nat) (hn:n<p.tabs.length) :
 Fn Tryz.prog Xh 52 [pv.val,vq,.int .i64 n] h0 (fun u h'=>u=str (QQ p q n)∧Hs h0 h' []):=by
 have S:=Hs.start w;have hr:=H.tab.rd;have hl:=H.tab.len;have hgl:pv.gs.length=p.us.length:=H.rol.len;have rg:zl h0 pv.vg.val 9 eG pv.gs:=H.rol.rg;have hql:=hQ.len;have h64:p.us.length≤64:=hP.rl.l64;have hxn:p.tabs.getD (n:Int).toNat default=tb p.tabs n:=rfl;have hnt:(tb p.tabs n).name.length≤12:=(hP.tabs.nm hn).2.1;have ht24:=zO (tb p.tabs n);have hgm:∀ j,j<p.us.length→(pv.gs.getD j default).name=QK p j:=fun j hj=>by unfold QK;rw [zA0,← (hP.gst H hj).1]
 unfold PbV.val;refine qA (by first|rfl) Tryz.func52 rfl rfl ?_;all_goals (repeat' (first|refine qg ?_|(refine qc 0 ?_;(refine bx S ?_;clear S;intro b h S);refine mv ?_;refine qf ?_)))
 obtain ⟨b3,hnm⟩:∃ x,x=b:=⟨_,rfl⟩;subst hnm;(repeat (refine qg ?_));refine qc 1 ?_;(refine vl ?_);refine lB S rfl rfl ?_;refine mv ?_;refine zT S ?_;refine fB S ?_;refine zQ S ?_;rw [hxn];refine bsn (α:=List UInt8) (z:=1) eS [wTable,(tb p.tabs n).name] S ?_;clear S;intro u h S;(skip);have hw2:∀ u∈[wTable,(tb p.tabs n).name],u.length≤100:=fun u hu=>by
  simp at hu;rcases hu with rfl|rfl
  ·exact (by decide:wTable.length≤100)
  ·exact zD0 hnt (by omega)
 (refine qm rfl rfl rfl rfl rfl ((Za S.wf u _ (Rd.jZ S .here) (by simp) hw2).mono ?_);rintro _ h ⟨rfl,x⟩)<;>(replace S:=S.qx x;clear x;refine mv ?_;refine qf ?_)
 all_goals (repeat' (refine qg ?_))
 replace S:Hs h0 h [.blk b3 pv.cs 28]:=S.tail;have eh:Zz [wTable,(tb p.tabs n).name] ++ [10]=wTable ++ [32] ++ (tb p.tabs n).name ++ [10]:=by simp [Zz]
 rw [eh];have hdl:(wTable ++ [32] ++ (tb p.tabs n).name ++ [10]).length≤30:=by
  have:wTable.length=5:=rfl;simp only [zB2,zC4,List.length_nil];omega
 have hcT:QQ p q n=(wTable ++ [32] ++ (tb p.tabs n).name ++ [10]) ++ JQ p (JK p q n) (JK p q n).length:=rfl;generalize wTable ++ [32] ++ (tb p.tabs n).name ++ [10]=hd at *
 all_goals (repeat' (first|(refine qc 2 ?_;refine lB S rfl rfl ?_;refine mv ?_;refine mv ?_)))
 (refine qm rfl rfl rfl rfl rfl ((qaH S.wf pv p (H.ext w S.ext) hP vq q (rq.ext w S.ext) (by omega) n hn).mono ?_);rintro vl_ h x)<;>(replace S:=S.QD x;clear x;refine mv ?_;refine qf ?_)
 obtain ⟨l,hlg⟩:∃ l,l=JK p q n:=⟨_,rfl⟩
 rw [← hlg] at S hcT;have hll:l.length≤24:=by rw [hlg,PL];omega
 have hlb:∀ x∈l,-1≤x∧x<p.us.length:=fun x hx=>by
  rw [hlg] at hx;unfold JK at hx;obtain ⟨k,-,rfl⟩:=zF1.1 hx;have:=qda (q:=q) (y:=sumT p.tabs n+k);omega
 have hcs:=yM hP H (l:=l) (by omega) fun x hx=>(hlb x hx).2;all_goals (repeat' (first|refine qg ?_|refine ql ?_|(refine qc 3 ?_;refine mv ?_;refine qf ?_)))
 refine qB (σ:=Nat×List UInt8) (fun (k,s) h'=>Hs h0 h' [.sl vl_ 3 1 eI l,.blk b3 pv.cs 28]∧k≤l.length∧s=hd ++ JQ p l k) (fun (k,s)=>l.length - k) (fun (k,s)=>[(3,.pointer (some ⟨b3,0,none⟩)),(7,str s),(8,vl_),(9,.int .i64 k)]) (0,hd) qw ?_ ?_
 ·exact ⟨S,zB0 _,by rw [show JQ p l 0=[] from rfl,zD7]⟩
 clear S;rintro ⟨k,s⟩ h ⟨S,g1,g2⟩;have hck:=hcs k g1;have hsl:s.length≤800:=by rw [g2,zB2];omega
 all_goals (repeat' (first|refine qg ?_|refine qh rfl ?_|refine qi ?_|refine qy ?_|refine ql ?_|(refine qc 4 ?_;refine mv ?_;refine mv ?_;refine Py S rfl rfl ?_;(first|(refine cS ?_ ?_<;>intro hc))<;>(refine qf ?_))))
 ·have hk:k<l.length:=by omega
  have hx0:l.getD (k:Int).toNat default=l.getD k default:=rfl;have hbx:=hlb _ (qK hk);have hsn:=qa5 (p:=p) (l:=l) (n:=k);have hcl:=yN hP H (k:=k) (by omega) hbx.2;have hdk:=Zj 8 k (by omega);all_goals (repeat' (first|refine qg ?_|(refine qc 6 ?_;refine mv ?_;refine qf ?_)))
  (repeat (refine qg ?_));first|refine zL (σ:=List UInt8) (fun nm h'=>Hs h0 h' [.sl vl_ 3 1 eI l,.blk b3 pv.cs 28]∧Zz [Zo k,nm] ++ [10]=vY p k (l.getD k default)∧nm.length≤12) (fun nm=>[(3,.pointer (some ⟨b3,0,none⟩)),(7,str s),(8,vl_),(9,.int .i64 k),(10,str nm)]) ?_ ?_
  ·all_goals (repeat' (first|refine qh rfl ?_|refine qi ?_|(refine qc 7 ?_;refine mv ?_;refine mv ?_;refine qR S rfl rfl ?_;refine zu S rfl rfl ?_;(first|(refine cS ?_ ?_<;>intro hc))<;>(refine qf ?_))))
   ·obtain ⟨g,hg⟩:=zH3 (show 0≤l.getD k default by rw [← hx0];assumption);have hxg:pv.gs.getD (g:Int).toNat default=pv.gs.getD g default:=rfl;have hgn:=hgm g (by omega);have hn12:(QK p g).length≤12:=(hP.gst H (show g<p.us.length by omega)).2.1.2.1;have hlu:(l.getD (k:Int).toNat default).toNat<p.us.length:=by rw [hx0];omega
    all_goals (repeat' (first|(refine qF 8 ?_;refine vl ?_;refine lB S rfl rfl ?_;refine mv ?_;refine mv ?_;refine qR S rfl rfl ?_;refine zu S rfl rfl ?_;refine zT S ?_;refine fB S ?_;refine zQ S ?_;refine mv ?_;refine qf ?_)))
    refine ⟨QK p g,⟨S,?_,hn12⟩,?_⟩
    ·unfold vY;rw [if_neg (by omega),hg];simp [Zz]
    ·rw [← hgn,← hxg,← hg,← hx0];exact qw
   ·refine ⟨[45],⟨S,?_,by decide⟩,(qw)⟩;unfold vY;rw [if_pos (by omega)];simp [Zz]
  clear S;rintro nm h ⟨S,n1,n2⟩;all_goals (repeat' (first|(refine qc 9 ?_;refine mv ?_;refine mv ?_)))
  (refine qm rfl rfl rfl rfl rfl ((yJ S.wf (z:=(k:Int)) k rfl (by omega)).mono ?_);rintro _ h ⟨rfl,x⟩)<;>(replace S:=S.qx x;clear x;refine mv ?_)
  refine bsn (α:=List UInt8) (z:=1) eS [Zo k,nm] S ?_;clear S;intro u h S;(skip);have hw3:∀ u∈[Zo k,nm],u.length≤100:=fun u hu=>by
   simp at hu;rcases hu with rfl|rfl<;>omega
  (refine qm rfl rfl rfl rfl rfl ((Za S.wf u _ (Rd.jZ S .here) (by simp) hw3).mono ?_);rintro _ h ⟨rfl,x⟩)<;>(replace S:=S.qx x;clear x;refine tc ?_;refine mv ?_;refine qf ?_)
  rw [n1];all_goals (repeat' (first|(refine qc 5 ?_;refine mv ?_;refine ad ?_;refine mv ?_;refine qf ?_)))
  replace S:Hs h0 h [.sl vl_ 3 1 eI l,.blk b3 pv.cs 28]:=S.tail;refine ⟨(k+1,s ++ vY p k (l.getD k default)),?_,?_,qw⟩
  ·show l.length - (k+1)<l.length - k;omega
  ·exact ⟨S,by (try dsimp only);omega,by (try dsimp only);rw [g2,hsn,zF2]⟩
 ·obtain rfl:k=l.length:=by omega
  rw [← hcT] at g2;subst g2;all_goals (repeat' (first|(refine qc 10 ?_;refine mv ?_;refine mv ?_;refine qf ?_)))
  refine qj ⟨_,rfl,?_⟩;exact ⟨rfl,S.drop⟩
end Go.Proofs.Xx
namespace Go.Proofs.Xx
open Go Go.Proofs
section
variable {l m:List Tab} (h:l.map (·.toC)=m.map (·.toC))
include h
theorem qez (i:Nat):zB (tb l i)=zB (tb m i):=by
 funext x y
 unfold zB;rw [show (tb l i).shape=(tb m i).shape from congrArg TabC.shape (xm h i),show (tb l i).A=(tb m i).A from congrArg TabC.A (xm h i),show (tb l i).B=(tb m i).B from congrArg TabC.B (xm h i)]
theorem qhe:ve zB l=ve zB m:=by
 funext a b
 unfold ve;simp only [GV h,qez h]
theorem qhg:P9 l=P9 m:=by
 funext q s
 unfold P9 Yw;rw [qhe h,JB h,Xm h]
theorem pY:zW l=zW m:=by
 funext i k
 unfold zW;rw [Vz h]
theorem gZ:YQ l=YQ m:=by funext s;unfold YQ;rw [qhM h]
theorem qbv:xC l=xC m:=by funext s;unfold xC;rw [gZ h,JB h]
theorem qbQ {us:List Gu} {ts:List Ti} {cl:List Int} {ru:List Ru}:jl ⟨l,us,ts,cl,ru⟩=jl ⟨m,us,ts,cl,ru⟩:=by
 funext q g
 unfold jl Y6 ZJ;simp only [pY h,gZ h,qbv h,qhg h]
theorem qew {us:List Gu} {ts:List Ti} {cl:List Int} {ru:List Ru}:jV ⟨l,us,ts,cl,ru⟩=jV ⟨m,us,ts,cl,ru⟩:=by
 funext q
 unfold jV;simp only [qbQ h,JB h,Xm h]
theorem qdW {us:List Gu} {ts:List Ti} {cl:List Int} {ru:List Ru}:zh ⟨l,us,ts,cl,ru⟩=zh ⟨m,us,ts,cl,ru⟩:=by
 funext q x
 unfold zh QK;simp only [pY h,gZ h,qbv h]
theorem qeu {us:List Gu} {ts:List Ti} {cl:List Int} {ru:List Ru}:QQ ⟨l,us,ts,cl,ru⟩=QQ ⟨m,us,ts,cl,ru⟩:=by
 funext q t
 have e:JK ⟨l,us,ts,cl,ru⟩ q t=JK ⟨m,us,ts,cl,ru⟩ q t:=by
  unfold JK;simp only [YH h,JB h]
 unfold QQ;rw [e];simp only [Vz h];rfl
end
structure CdW (p:Pb) (q:List Int) (g t:Int) (c a n s:List UInt8):Prop where
 no:¬ (PO p∧PartOk p q)→c=[]∧a=[]∧n=[]∧s=[]
 al:PO p→PartOk p q→a=jV p q
 nm:PO p→PartOk p q→∃ l,NmO p l∧n=l.flatMap (zh p q)
 c1:PO p→PartOk p q→0≤g→g<q.length→0≤q.getD g.toNat default→c=jl p q g.toNat
 c0:¬ (0≤g∧g<q.length∧0≤q.getD g.toNat default)→c=[]
 s1:PO p→PartOk p q→0≤t→t<p.tabs.length→s=QQ p q t.toNat
 s0:¬ (0≤t∧t<p.tabs.length)→s=[]
variable [Flag]
theorem qcE {h0:AH} (w:WfH h0) (hf:Flag.b=true) (pv:PbV) (p:Pb) (Z:PbZ h0 pv p) (F5:p.tabs.length≤5) (F:qag p 20) (vq:Value) (q:List Int) (rq:zl h0 vq 1 eI q) (hq:q.length≤30) (g t:Int) :
 Fn Tryz.prog Xh 10 [pv.val,vq,.int .i64 g,.int .i64 t] h0 (fun u h'=>u = .bool true∧Hs h0 h' []):=by
 have S:=Hs.start w;unfold PbV.val;refine qA (by first|rfl) Tryz.func10 rfl rfl ?_;all_goals (repeat' (first|refine qg ?_|(refine qc 0 ?_;(refine bx S ?_;clear S;intro b h S);refine mv ?_;refine qf ?_)))
 obtain ⟨b3,hnm⟩:∃ x,x=b:=⟨_,rfl⟩;subst hnm;all_goals (repeat' (first|(refine qc 1 ?_;refine lB S rfl rfl ?_)))
 (refine qm rfl rfl rfl rfl rfl ((qg8 S.wf pv p ((Z.ext w S.ext).fit F)).mono ?_);rintro _ h ⟨v',tabs,rfl,et,eu,x⟩)<;>(replace S:=S.join x;clear x;refine mv ?_)
 (refine qm rfl rfl rfl rfl rfl ((qcQ S.wf vq q (rq.ext w S.ext) (by omega)).mono ?_);rintro vl_ h x)<;>(replace S:=S.QD x;clear x;(refine al S ?_;clear S;intro b h S);(first|(refine sB S rfl rfl ?_;clear S;intro h S));refine mv ?_;refine qf ?_)
 all_goals (repeat' (refine qg ?_))
 replace S:Hs h0 h [.blk b v'.cs 28,.sl vl_ 3 1 eI q,.sl v'.vt.val 93 7 eT tabs,xW WB tabs,.sl v'.vg.val 45 9 eG v'.gs,tgO v'.gs,.sl v'.vi.val 198 3 Qy p.ts,.sl v'.vc.val 3 1 eI p.cl,.sl v'.vr.val 158 6 Xv p.ru,.blk b3 pv.cs 28]:=S;obtain ⟨sl,rfl⟩:=S.sV vl_;have w1:=S.wf;have g3:=Hs.gB (b:=b3) S;have g7:=Hs.gB (b:=b) S;have rl:=Rd.jZ S (.there .here);have HC:=qgy (rs:=[.blk b3 pv.cs 28]) (show Hs h0 h (pbL v' (p.wt tabs) ++ [.blk b3 pv.cs 28]) from S.tail.tail) et eu Z F;have HO:=(Z.ext w S.ext).ok F;have MO:=Z.m F;have rq2:=rq.ext w S.ext;have S00:=S;clear S;have S:=Hs.start w1;obtain ⟨hB,hnm⟩:∃ x,x=h:=⟨_,rfl⟩;subst hnm;have rt2:zl hB pv.vt.val 7 eT p.tabs:=HO.tab.rd;have hlen:=Xm et;have hPO:PO (p.wt tabs)↔PO p:=qjC et;have hPA:PartOk (p.wt tabs) q↔PartOk p q:=qgA et;have hCT:jl (p.wt tabs)=jl p:=qbQ et;have hCS:jV (p.wt tabs)=jV p:=qew et;have hNL:zh (p.wt tabs)=zh p:=qdW et;have hCH:QQ (p.wt tabs)=QQ p:=qeu et;all_goals (repeat' (first|refine qg ?_|(refine qc 2 ?_;(iterate 4 refine mv ?_);refine qf ?_)))
 (repeat (refine qg ?_));first|refine zL (σ:=List UInt8×List UInt8×List UInt8×List UInt8) (fun (c,a,n,s) h'=>Hs hB h' []∧CdW p q g t c a n s) (fun (c,a,n,s)=>[(1,vq),(2,.int .i64 g),(3,.int .i64 t),(4,.pointer (some ⟨b3,0,none⟩)),(9,.pointer (some ⟨b,0,none⟩)),(10,sl.val),(11,str c),(12,str a),(13,str n),(14,str s)]) ?_ ?_
 ·all_goals (repeat' (first|(refine qc 3 ?_;refine lH S ?_;refine mv ?_)))
  (refine qm rfl rfl rfl rfl rfl ((qej S.wf pv p HO MO vq q rq2 (by omega)).mono ?_);rintro _ h ⟨i,e,rfl,hk,x⟩)<;>(replace S:=S.qx x;clear x;(first|(refine cS ?_ ?_<;>intro hc))<;>(refine qf ?_))
  all_goals have hpo:=hk.part
  all_goals have hne0:¬ e=0→¬ (PO p∧PartOk p q):=fun a z=>a (hpo.2 z)
  all_goals (repeat' (first|refine qg ?_|refine qh rfl ?_|refine qi ?_))
  ·obtain ⟨hP,hQ⟩:=hpo.1 (by assumption);have hpq:¬ ¬ (PO p∧PartOk p q):=fun c=>c ⟨hP,hQ⟩;(repeat (refine qg ?_));refine Zy (id:=4) [(3,(0,1))] [some (b3)] ?_;refine qp ?_;(first|(refine lH S ?_<;>refine qf ⟨⟨by (first|exact True.intro),rfl⟩,?_⟩));refine qp ?_;(first|(refine mv ?_<;>refine qf ⟨⟨by (first|exact True.intro),rfl⟩,?_⟩));((refine qp ?_;first|refine qm rfl rfl rfl rfl rfl ((qcq S.wf pv p (HO.ext w1 S.ext) hP vq q (rq2.ext w1 S.ext) hQ).mono ?_));rintro _ h ⟨rfl,x⟩)<;>((refine qf ⟨⟨True.intro,?_⟩,?_⟩;(focus ((show keepsX _ _ _ _ _;simp only [keepsX];(repeat' (first|exact True.intro|refine And.intro ?_ ?_));all_goals (intro hw;first|exact x.ext.old _ (S.bY (by assumption) (by assumption)))))));replace S:=S.qx x;clear x;refine qp ?_;(first|(refine lH S ?_<;>refine qf ⟨⟨by (first|exact Or.inr rfl),rfl⟩,?_⟩));refine qp ?_;(first|(refine mv ?_<;>refine qf ⟨⟨by (first|exact True.intro),rfl⟩,?_⟩)))
   ((refine qp ?_;first|refine qm rfl rfl rfl rfl rfl ((qcl S.wf pv p (HO.ext w1 S.ext) hP vq q (rq2.ext w1 S.ext) hQ).mono ?_));rintro _ h ⟨ln,hn,rfl,x⟩)<;>((refine qf ⟨⟨True.intro,?_⟩,?_⟩;(focus ((show keepsX _ _ _ _ _;simp only [keepsX];(repeat' (first|exact True.intro|refine And.intro ?_ ?_));all_goals (intro hw;first|exact absurd hw (by decide +kernel))))));replace S:=S.qx x;clear x;refine qp ?_;(first|(refine mv ?_<;>refine qf ⟨⟨by (first|exact True.intro),rfl⟩,?_⟩));refine qp ?_;(first|(refine mv ?_<;>refine qf ⟨⟨by (first|exact True.intro),rfl⟩,?_⟩));refine Zm ?_)
   (repeat (refine qg ?_));first|refine zL (σ:=List UInt8) (fun c h'=>Hs hB h' []∧(0≤g→g<q.length→0≤q.getD g.toNat default→c=jl p q g.toNat)∧(¬ (0≤g∧g<q.length∧0≤q.getD g.toNat default)→c=[])) (fun c=>[(1,vq),(2,.int .i64 g),(3,.int .i64 t),(4,.pointer (some ⟨b3,0,none⟩)),(9,.pointer (some ⟨b,0,none⟩)),(10,sl.val),(11,str c),(12,str (jV p q)),(13,str (ln.flatMap (zh p q))),(14,str [])]) ?_ ?_
   ·all_goals (repeat' (first|refine qh rfl ?_|refine qi ?_|(refine qc 5 ?_;refine mv ?_;(first|(refine cS ?_ ?_<;>intro hc))<;>(refine mv ?_;(first|refine off ?_|refine mv ?_);(first|refine off ?_|refine mv ?_);(first|refine off ?_|(refine jc S ?_));(first|refine off ?_|(first|(refine cS ?_ ?_<;>intro hc)))<;>(refine vl ?_;refine qf ?_)))))
    all_goals first
     | exact ⟨[],⟨S,fun _ _ _=>(by omega),fun _=>rfl⟩,(qw)⟩
     | skip
    obtain ⟨g',rfl⟩:=zH3 (show 0≤g by omega);all_goals (repeat' (first|(refine qc 6 ?_;refine lH S ?_;refine mv ?_;refine mv ?_)))
    (refine qm rfl rfl rfl rfl rfl ((pR S.wf pv p (HO.ext w1 S.ext) hP vq q (rq2.ext w1 S.ext) hQ g' (by omega)).mono ?_);rintro _ h ⟨rfl,x⟩)<;>(replace S:=S.qx x;clear x;refine mv ?_;refine qf ?_)
    all_goals (repeat' (fail))
    refine ⟨_,⟨S,fun _ _ z=>?_,fun z=>?_⟩,(qw)⟩
    ·rw [zA0] at z ⊢;rw [if_neg (by omega)]
    ·rw [zA0] at z;rw [if_pos (by omega)]
   clear S;rintro c h ⟨S,c1,c2⟩;all_goals (repeat' (first|refine qg ?_|refine qh rfl ?_|refine qi ?_|(refine qc 7 ?_;refine mv ?_;(first|(refine cS ?_ ?_<;>intro hc))<;>(refine mv ?_;(first|refine off ?_|refine mv ?_);(first|refine off ?_|(refine vl ?_));(first|refine off ?_|(refine lH S ?_));(first|refine off ?_|(refine jc S ?_));(first|refine off ?_|(first|(refine cS ?_ ?_<;>intro hc)))<;>(refine vl ?_;refine qf ?_)))))
   all_goals first
    | exact ⟨(c,jV p q,ln.flatMap (zh p q),[]),⟨S,⟨fun z=>absurd ⟨hP,hQ⟩ z,fun _ _=>rfl,fun _ _=>⟨ln,hn,rfl⟩,fun _ _=>c1,c2,fun _ _ _ _=>(by omega),fun _=>rfl⟩⟩,(qw)⟩
    | skip
   obtain ⟨t',rfl⟩:=zH3 (show 0≤t by omega);all_goals (repeat' (first|(refine qc 8 ?_;refine lH S ?_;refine mv ?_;refine mv ?_)))
   (refine qm rfl rfl rfl rfl rfl ((qcp S.wf pv p (HO.ext w1 S.ext) hP vq q (rq2.ext w1 S.ext) hQ t' (by omega)).mono ?_);rintro _ h ⟨rfl,x⟩)<;>(replace S:=S.qx x;clear x;refine mv ?_;refine qf ?_)
   all_goals (repeat' (fail))
   exact ⟨(c,jV p q,ln.flatMap (zh p q),QQ p q t'),⟨S,⟨fun z=>absurd ⟨hP,hQ⟩ z,fun _ _=>rfl,fun _ _=>⟨ln,hn,rfl⟩,fun _ _=>c1,c2,fun _ _ _ _=>rfl,fun z=>absurd (show 0≤(t':Int)∧(t':Int)<p.tabs.length by omega) z⟩⟩,(qw)⟩
  ·have hne:=hne0 (by assumption);exact ⟨([],[],[],[]),⟨S,⟨fun _=>⟨rfl,rfl,rfl,rfl⟩,fun a b=>absurd ⟨a,b⟩ hne,fun a b=>absurd ⟨a,b⟩ hne,fun a b=>absurd ⟨a,b⟩ hne,fun _=>rfl,fun a b=>absurd ⟨a,b⟩ hne,fun _=>rfl⟩⟩,(qw)⟩
 clear S;rintro ⟨c,a,n,s⟩ h ⟨S,W⟩;have kc:∀ c',(PO (p.wt tabs)→PartOk (p.wt tabs) q→0≤g→g<q.length→0≤q.getD g.toNat default→c'=jl (p.wt tabs) q g.toNat)→(¬ (PO (p.wt tabs)∧PartOk (p.wt tabs) q∧0≤g∧g<q.length∧0≤q.getD g.toNat default)→c'=[])→c=c':=fun c' k1 k2=>by
  rw [hPO,hPA,hCT] at k1;rw [hPO,hPA] at k2;by_cases z:PO p∧PartOk p q
  ·by_cases y:0≤g∧g<q.length∧0≤q.getD g.toNat default
   ·rw [k1 z.1 z.2 y.1 y.2.1 y.2.2,W.c1 z.1 z.2 y.1 y.2.1 y.2.2]
   ·rw [k2 (fun x=>y x.2.2),W.c0 y]
  ·rw [k2 (fun x=>z ⟨x.1,x.2.1⟩),(W.no z).1]
 have ka:∀ c',(PO (p.wt tabs)→PartOk (p.wt tabs) q→c'=jV (p.wt tabs) q)→(¬ (PO (p.wt tabs)∧PartOk (p.wt tabs) q)→c'=[])→a=c':=fun c' k1 k2=>by
  rw [hPO,hPA,hCS] at k1;rw [hPO,hPA] at k2;by_cases z:PO p∧PartOk p q
  ·rw [k1 z.1 z.2,W.al z.1 z.2]
  ·rw [k2 z,(W.no z).2.1]
 have kn:∀ c',(PO (p.wt tabs)→PartOk (p.wt tabs) q→∃ l,NmO (p.wt tabs) l∧c'=l.flatMap (zh (p.wt tabs) q))→(¬ (PO (p.wt tabs)∧PartOk (p.wt tabs) q)→c'=[])→n=c':=fun c' k1 k2=>by
  rw [hPO,hPA,hNL] at k1;rw [hPO,hPA] at k2;by_cases z:PO p∧PartOk p q
  ·obtain ⟨l1,a1,rfl⟩:=k1 z.1 z.2;obtain ⟨l2,a2,e2⟩:=W.nm z.1 z.2;rw [e2,NmO.uniq (p:=p) a2 a1]
  ·rw [k2 z,(W.no z).2.2.1]
 have ks:∀ c',(PO (p.wt tabs)→PartOk (p.wt tabs) q→0≤t→t<(p.wt tabs).tabs.length→c'=QQ (p.wt tabs) q t.toNat)→(¬ (PO (p.wt tabs)∧PartOk (p.wt tabs) q∧0≤t∧t<(p.wt tabs).tabs.length)→c'=[])→s=c':=fun c' k1 k2=>by
  rw [show (p.wt tabs).tabs.length=p.tabs.length from hlen,hPO,hPA,hCH] at k1;rw [show (p.wt tabs).tabs.length=p.tabs.length from hlen,hPO,hPA] at k2;by_cases z:PO p∧PartOk p q
  ·by_cases y:0≤t∧t<p.tabs.length
   ·rw [k1 z.1 z.2 y.1 y.2,W.s1 z.1 z.2 y.1 y.2]
   ·rw [k2 (fun x=>y x.2.2),W.s0 y]
  ·rw [k2 (fun x=>z ⟨x.1,x.2.1⟩),(W.no z).2.2.2]
 all_goals (repeat' (first|refine qg ?_|(refine qc 9 ?_;refine lH S ?_;refine mv ?_;refine mv ?_)))
 (refine qm rfl rfl rfl rfl rfl ((qcg S.wf hf v' (p.wt tabs) (HC.ext w1 S.ext) sl.val q (rl.ext w1 S.ext) (by omega) g).mono ?_);rintro _ h ⟨c',rfl,f1,f2,x⟩)<;>(replace S:=S.qx x;clear x;obtain rfl:=kc c' f1 f2;refine mv ?_;(refine tS ?_ ?_<;>intro hc)<;>(refine mv ?_;(first|refine off ?_|(refine lH S ?_));(first|refine off ?_|refine mv ?_);(first|(refine off ?_;refine off ?_;(refine off ?_)<;>(refine vl ?_;refine mv ?_;refine off ?_;refine off ?_;(first|(refine off ?_;refine off ?_;(refine off ?_)<;>(refine vl ?_;refine mv ?_;refine off ?_;refine off ?_;refine off ?_;(first|(refine off ?_;refine off ?_;(refine off ?_)<;>(refine vl ?_;refine mv ?_;refine off ?_;refine off ?_;refine off ?_;refine off ?_;(first|(refine off ?_;refine vl ?_;refine mv ?_;refine qf ?_))))))))))|skip)))
 all_goals (repeat' (fail))
 all_goals (try exact absurd rfl (by assumption))
 (refine qm rfl rfl rfl rfl rfl ((qcf S.wf hf v' (p.wt tabs) (HC.ext w1 S.ext) sl q (rl.ext w1 S.ext) (by omega)).mono ?_);rintro _ h ⟨a',rfl,f1,f2,x⟩)<;>(replace S:=S.qx x;clear x;obtain rfl:=ka a' f1 f2;refine mv ?_;(first|(refine tS ?_ ?_<;>intro hc))<;>(refine vl ?_;refine mv ?_;(first|refine off ?_|(refine lH S ?_));(first|refine off ?_|refine mv ?_);(first|(refine off ?_;refine off ?_;(refine off ?_)<;>(refine vl ?_;refine mv ?_;refine off ?_;refine off ?_;refine off ?_;(first|(refine off ?_;refine off ?_;(refine off ?_)<;>(refine vl ?_;refine mv ?_;refine off ?_;refine off ?_;refine off ?_;refine off ?_;(first|(refine off ?_;refine vl ?_;refine mv ?_;refine qf ?_)))))))|skip)))
 all_goals (repeat' (fail))
 all_goals (try exact absurd rfl (by assumption))
 (refine qm rfl rfl rfl rfl rfl ((qca S.wf hf v' (p.wt tabs) (HC.ext w1 S.ext) sl.val q (rl.ext w1 S.ext) (by omega)).mono ?_);rintro _ h ⟨n',rfl,f1,f2,x⟩)<;>(replace S:=S.qx x;clear x;obtain rfl:=kn n' f1 f2;refine mv ?_;(first|(refine tS ?_ ?_<;>intro hc))<;>(refine vl ?_;refine mv ?_;(first|refine off ?_|(refine lH S ?_));(first|refine off ?_|refine mv ?_);(first|refine off ?_|refine mv ?_);(first|(refine off ?_;refine off ?_;(refine off ?_)<;>(refine vl ?_;refine mv ?_;refine off ?_;refine off ?_;refine off ?_;refine off ?_;(first|(refine off ?_;refine vl ?_;refine mv ?_;refine qf ?_))))|skip)))
 all_goals (repeat' (fail))
 all_goals (try exact absurd rfl (by assumption))
 (refine qm rfl rfl rfl rfl rfl ((qce S.wf hf v' (p.wt tabs) (HC.ext w1 S.ext) sl q (rl.ext w1 S.ext) (by omega) t).mono ?_);rintro _ h ⟨s',rfl,f1,f2,x⟩)<;>(replace S:=S.qx x;clear x;obtain rfl:=ks s' f1 f2;refine mv ?_;(first|(refine tS ?_ ?_<;>intro hc))<;>(refine vl ?_;refine mv ?_;(first|refine off ?_|(refine lH S ?_));(first|refine off ?_|(refine lH S ?_));(first|refine off ?_|refine mv ?_);(first|refine off ?_|refine mv ?_);(first|(refine off ?_;refine vl ?_;refine mv ?_;refine qf ?_)|skip)))
 all_goals (repeat' (fail))
 all_goals (try exact absurd rfl (by assumption))
 (refine qm rfl rfl rfl rfl rfl ((qd1 S.wf v' pv (p.wt tabs) p (HC.ext w1 S.ext) (HO.ext w1 S.ext) ⟨et,rfl,rfl,rfl,rfl⟩ sl.val vq q q (rl.ext w1 S.ext) (rq2.ext w1 S.ext) rfl (by omega)).mono ?_);rintro _ h ⟨rfl,x⟩)<;>(replace S:=S.qx x;clear x;refine vl ?_;refine mv ?_;refine qf ?_)
 all_goals (repeat' (fail))
 refine qj ⟨_,rfl,?_⟩;exact ⟨rfl,(S00.join S).drop⟩
theorem YO {h0:AH} (w:WfH h0) (hf:Flag.b=true) (pv:PbV) (p:Pb) (Z:PbZ h0 pv p) (sq:SlV) (q:List Int) (rq:zl h0 sq.val 1 eI q) (g t:Int) :
 Fn Tryz.prog Xh 4 [pv.val,sq.val,.int .i64 g,.int .i64 t] h0 (fun u _=>u = .bool true):=by
 have S:=Hs.start w;unfold PbV.val;refine qA (by first|rfl) Tryz.func4 rfl rfl ?_;all_goals (repeat' (first|refine qg ?_|(refine qc 0 ?_;(refine bx S ?_;clear S;intro b h S);refine mv ?_;refine qf ?_)))
 obtain ⟨b3,hnm⟩:∃ x,x=b:=⟨_,rfl⟩;subst hnm;all_goals (repeat' (first|(refine qc 1 ?_;refine lB S rfl rfl ?_;refine mv ?_;(refine one 1 S ?_;clear S;intro u h S))))
 have ru:zl h u 1 qfu [⟨sq,q⟩]:=(show zl h u 1 Xw [[sq.val]] from Rd.jZ S .here)
 have hone:∀ i,i<[(⟨sq,q⟩:Gy)].length→zl h ([(⟨sq,q⟩:Gy)].getD i default).sv.val 1 eI ([(⟨sq,q⟩:Gy)].getD i default).r:=fun i hi=>by
  obtain rfl:i=0:=by simp at hi;exact hi
  exact rq.ext w S.ext
 (refine qm rfl rfl rfl rfl rfl ((qfc S.wf pv p (Z.ext w S.ext) u [⟨sq,q⟩] ru hone (by simp)).mono ?_);rintro _ h ⟨⟨rfl,z⟩|⟨rfl,z⟩,x⟩)<;>(replace S:=S.qx x;clear x;refine vl ?_;refine mv ?_;(first|refine off ?_|(refine lB S rfl rfl ?_));(first|refine off ?_|refine mv ?_);(first|refine off ?_|refine mv ?_);(first|refine off ?_|refine mv ?_);(first|(refine off ?_;refine vl ?_;refine mv ?_;(skip))|skip))
 all_goals (try ((refine qm rfl rfl rfl rfl rfl ((qcE S.wf hf pv p (Z.ext w S.ext) z.1 z.2.1 sq.val q (rq.ext w S.ext) (z.2.2 0 (by simp)) g t).mono ?_);rintro _ h ⟨rfl,x⟩)<;>(replace S:=S.qx x;clear x;refine vl ?_;refine mv ?_;(skip))))
 all_goals (try ((refine qm rfl rfl rfl rfl rfl ((qcV S.wf).mono ?_);rintro _ h ⟨rfl,x⟩)<;>(replace S:=S.qx x;clear x;refine vl ?_;refine mv ?_;refine qf ?_)))
 all_goals (all_goals (repeat' (fail)))
 all_goals (refine qj ⟨_,rfl,?_⟩)
 all_goals rfl
end Go.Proofs.Xx
namespace Go.Proofs.Xx
open Go Go.RowKit Go.Proofs
theorem YP [Flag] (hf:Flag.b=true) (h:AH) (us:List Value) (w:WfH h) (a:ArgsR Tryz.prog h Tryz.f4.params.toList us):Fn Tryz.prog Xh 4 us h (fun x _=>x = .bool true):=by
 rw [show Tryz.f4.params.toList=[28,25,3,3] by kernel_rfl] at a;obtain ⟨n0,r0,us,rfl,a0,a⟩:=a.cons_inv;obtain ⟨n1,r1,us,rfl,a1,a⟩:=a.cons_inv;obtain ⟨n2,r2,us,rfl,a2,a⟩:=a.cons_inv;obtain ⟨n3,r3,us,rfl,a3,a⟩:=a.cons_inv;obtain rfl:=a.jB;obtain ⟨v,p,rfl,Z⟩:=a0.qh0;obtain ⟨sq,q,rfl,rq,lq,cq,bq⟩:=a1.qgb;obtain ⟨x,rfl,hx⟩:=a2.int64;obtain ⟨y,rfl,hy⟩:=a3.int64;exact YO w hf v p Z sq q rq x y
end Go.Proofs.Xx
namespace Go.Proofs.Xx
open Go Go.RowKit Go.Proofs
def KN:List Nat:=[9,280,186,378,375,364,243,65,247,127]
theorem qfM (f:FuncId) (hk:KN.all (fun n=>!Nat.beq f n)=true) (us:List Value) (h:AH):Xh f us h=none:=by
 have e:∀ n,n∈KN→Nat.beq f n=false:=fun n q=>by have:=zC8.1 hk n q;simpa using this
 unfold Xh Jd Xa J9 Jw Xd ZP X0 WR WQ WS withBytes Qg;simp only [e 9 (by decide),e 280 (by decide),e 186 (by decide),e 378 (by decide),e 375 (by decide),e 364 (by decide),e 243 (by decide),e 65 (by decide),e 247 (by decide),e 127 (by decide)]
theorem VA {W:World} (h:W.ShapedOpen Tryz.prog):1<W.heap.size∧∃ m el fr,W.heap[0]? = some (.cells #[.int .i64 m] el fr):=by
 have h0:((begin Tryz.prog (fun _ _=>0) default).world.heap[0]?).bind Obj.row? = some (#[.int .i64 0],3):=by kernel_rfl
 obtain ⟨m,hm⟩:=cell_of_shapedOpen_int h (g:=0) (t:=3) (of_decide_eq_true (by kernel_rfl)) h0 rfl (by kernel_rfl) (by kernel_rfl) Tryz.underlying3;obtain ⟨cs,hh,hs,-⟩:=h.1 0 _ 3 (of_decide_eq_true (by kernel_rfl)) h0;refine ⟨?_,m,3,(0,0),?_⟩
 ·have h1:(((begin Tryz.prog (fun _ _=>0) default).world.heap[1]?).bind Obj.row?).isSome=true:=by kernel_rfl
  obtain ⟨⟨z,t⟩,h1⟩:=Option.isSome_iff_exists.1 h1;obtain ⟨cs,hh,-⟩:=h.1 1 z t (of_decide_eq_true (by kernel_rfl)) h1;exact (zB9.1 hh).1
 ·rw [hh];have:cs=#[.int .i64 m]:=by
   simp only [World.cell?,hh] at hm;obtain ⟨l⟩:=cs;match l,hs,hm with
   | [x],_,hm=>simp at hm;rw [hm]
   | [],hs,_=>cases hs
   | _ :: _ :: _,hs,_=>simp at hs
  rw [this]
theorem PX {W:World} (h:W.ShapedOpen Tryz.prog):∃ (k:Nat) (cc:Array Value) (el:TypeId) (fr:Nat×Nat),W.heap[k]? = some (.cells cc el fr):=by
 obtain ⟨-,m,el,fr,q⟩:=VA h;exact ⟨0,_,el,fr,q⟩
end Go.Proofs.Xx
namespace Go.Proofs.Xx
open Go Go.RowKit Go.Proofs
theorem qeg:(Tryz.prog.globals[1]?).map (·.type)=some 310:=by kernel_rfl
theorem qee [Flag] {W:World} {x y:String×DataW Unit} {rest:List (String×DataW Unit)} (h:laidMet Tryz.prog (x :: y :: ("internal/strconv.uint64pow10", YtnponmgkfkdkaaaGreatDoor.Rows.laid_internal_strconv_uint64pow10) :: rest) W) (hS:W.ShapedOpen Tryz.prog) :
 Glob.ok W.heap.size W.heap:=by
 refine ⟨(VA hS).1,(VA hS).2,fun _=>?_⟩;have t:Lib.TabIs Tryz.prog W "internal/strconv.uint64pow10" .u64 Lib.pow10Tab :=
  Lib.tabIs_of_head qgR qeg (n:=20) (e:=183) (by kernel_rfl) (by kernel_rfl) (by kernel_rfl) (by kernel_rfl) (laidMet.tail (laidMet.tail h))
 unfold Lib.TabIs World.var? at t;rw [qgR] at t;simp only [Option.bind_some] at t;split at t
 ·rename_i cs el fr hc
  cases t
  exact ⟨el,fr,hc⟩
 ·cases t
section
variable {P:Program} {X:Extern} {sz:Nat} {ops:Array Oper} {os:List Oper} {R:Ks→AH→Prop}
theorem qjL {L0:Ks} {h0:AH} {o0 o1 o2:Oper} {L1:Ks} {x0:Operand} {v0:Value} {L2:Ks} {x1 y1:Operand} {ty1 tz1:TypeId} {a1 b1:Int} {L3:Ks} {x2:Operand} {v2:Value} (w:R L3 h0) (ho0:ZO o0.op=some x0:=by exact rfl) (hg0:qo ops L0.tree o0.guard=some true:=by exact rfl) (hx0:kA L0 x0=some v0:=by exact rfl) (hp0:qG sz L0 o0.dst v0=some L1:=by exact rfl) (ho1:o1.op = .binOp .add ty1 x1 y1 tz1:=by exact rfl) (hg1:qo ops L1.tree o1.guard=some true:=by exact rfl) (hx1:kA L1 x1=some (.int .i64 a1):=by exact rfl) (hy1:kA L1 y1=some (.int .i64 b1):=by exact rfl) (hb1 : -9223372036854775808≤a1+b1∧a1+b1≤9223372036854775807:=by first|omega|grind) (hp1:qG sz L1 o1.dst (.int .i64 (a1+b1))=some L2:=by exact rfl) (ho2:ZO o2.op=some x2:=by exact rfl) (hg2:qo ops L2.tree o2.guard=some true:=by exact rfl) (hx2:kA L2 x2=some v2:=by exact rfl) (hp2:qG sz L2 o2.dst v2=some L3:=by exact rfl):KO P X sz ops [o0,o1,o2] L0 h0 R:=mv (ad (mv (qf w) ho2 hg2 hx2 hp2) ho1 hg1 hx1 hy1 hb1 hp1) ho0 hg0 hx0 hp0
theorem qjK {L0:Ks} {h0:AH} {o0 o1 o2:Oper} {L1:Ks} {x0:Operand} {v0:Value} {L2:Ks} {x1 y1:Operand} {ty1 tz1:TypeId} {a1 b1:Int} {L3:Ks} {x2:Operand} {v2:Value} (w:R L3 h0) (ho0:ZO o0.op=some x0:=by exact rfl) (hg0:qo ops L0.tree o0.guard=some true:=by exact rfl) (hx0:kA L0 x0=some v0:=by exact rfl) (hp0:qG sz L0 o0.dst v0=some L1:=by exact rfl) (ho1:o1.op = .binOp .sub ty1 x1 y1 tz1:=by exact rfl) (hg1:qo ops L1.tree o1.guard=some true:=by exact rfl) (hx1:kA L1 x1=some (.int .i64 a1):=by exact rfl) (hy1:kA L1 y1=some (.int .i64 b1):=by exact rfl) (hb1 : -9223372036854775808≤a1 - b1∧a1 - b1≤9223372036854775807:=by first|omega|grind) (hp1:qG sz L1 o1.dst (.int .i64 (a1 - b1))=some L2:=by exact rfl) (ho2:ZO o2.op=some x2:=by exact rfl) (hg2:qo ops L2.tree o2.guard=some true:=by exact rfl) (hx2:kA L2 x2=some v2:=by exact rfl) (hp2:qG sz L2 o2.dst v2=some L3:=by exact rfl):KO P X sz ops [o0,o1,o2] L0 h0 R:=mv (sb (mv (qf w) ho2 hg2 hx2 hp2) ho1 hg1 hx1 hy1 hb1 hp1) ho0 hg0 hx0 hp0
theorem qi5 {L0:Ks} {h0:AH} {o0 o1 o2 o3 o4:Oper} {L1:Ks} {x0:Operand} {v0:Value} {L2:Ks} {h2:AH} {v1:Value} {L3:Ks} {h3:AH} {v2:Value} {L4:Ks} {x3:Operand} {v3:Value} {L5:Ks} {x4:Operand} {v4:Value} (w:R L5 h3) (ho0:ZO o0.op=some x0:=by exact rfl) (hg0:qo ops L0.tree o0.guard=some true:=by exact rfl) (hx0:kA L0 x0=some v0:=by exact rfl) (hp0:qG sz L0 o0.dst v0=some L1:=by exact rfl) (hg1:qo ops L1.tree o1.guard=some true:=by exact rfl) (ha1:zX P L1.tree h0 o1.op=some (.val v1 h2):=by exact rfl) (hp1:qG sz L1 o1.dst v1=some L2:=by exact rfl) (hg2:qo ops L2.tree o2.guard=some true:=by exact rfl) (ha2:zX P L2.tree h2 o2.op=some (.val v2 h3):=by exact rfl) (hp2:qG sz L2 o2.dst v2=some L3:=by exact rfl) (ho3:ZO o3.op=some x3:=by exact rfl) (hg3:qo ops L3.tree o3.guard=some true:=by exact rfl) (hx3:kA L3 x3=some v3:=by exact rfl) (hp3:qG sz L3 o3.dst v3=some L4:=by exact rfl) (ho4:ZO o4.op=some x4:=by exact rfl) (hg4:qo ops L4.tree o4.guard=some true:=by exact rfl) (hx4:kA L4 x4=some v4:=by exact rfl) (hp4:qG sz L4 o4.dst v4=some L5:=by exact rfl):KO P X sz ops [o0,o1,o2,o3,o4] L0 h0 R:=mv (vl (vl (mv (mv (qf w) ho4 hg4 hx4 hp4) ho3 hg3 hx3 hp3) hg2 ha2 hp2) hg1 ha1 hp1) ho0 hg0 hx0 hp0
theorem qjn {L0:Ks} {h0:AH} {o0 o1 o2 o3:Oper} {L1:Ks} {x0:Operand} {v0:Value} {L2:Ks} {x1:Operand} {v1:Value} {L3:Ks} {x2 y2:Operand} {ty2 tz2:TypeId} {a2 b2:Int} {L4:Ks} {x3:Operand} {v3:Value} (w:R L4 h0) (ho0:ZO o0.op=some x0:=by exact rfl) (hg0:qo ops L0.tree o0.guard=some true:=by exact rfl) (hx0:kA L0 x0=some v0:=by exact rfl) (hp0:qG sz L0 o0.dst v0=some L1:=by exact rfl) (ho1:ZO o1.op=some x1:=by exact rfl) (hg1:qo ops L1.tree o1.guard=some true:=by exact rfl) (hx1:kA L1 x1=some v1:=by exact rfl) (hp1:qG sz L1 o1.dst v1=some L2:=by exact rfl) (ho2:o2.op = .binOp .sub ty2 x2 y2 tz2:=by exact rfl) (hg2:qo ops L2.tree o2.guard=some true:=by exact rfl) (hx2:kA L2 x2=some (.int .i64 a2):=by exact rfl) (hy2:kA L2 y2=some (.int .i64 b2):=by exact rfl) (hb2 : -9223372036854775808≤a2 - b2∧a2 - b2≤9223372036854775807:=by first|omega|grind) (hp2:qG sz L2 o2.dst (.int .i64 (a2 - b2))=some L3:=by exact rfl) (ho3:ZO o3.op=some x3:=by exact rfl) (hg3:qo ops L3.tree o3.guard=some true:=by exact rfl) (hx3:kA L3 x3=some v3:=by exact rfl) (hp3:qG sz L3 o3.dst v3=some L4:=by exact rfl):KO P X sz ops [o0,o1,o2,o3] L0 h0 R:=mv (mv (sb (mv (qf w) ho3 hg3 hx3 hp3) ho2 hg2 hx2 hy2 hb2 hp2) ho1 hg1 hx1 hp1) ho0 hg0 hx0 hp0
theorem qj2 {L0:Ks} {h0:AH} {o0 o1:Oper} {L1:Ks} {x0:Operand} {v0:Value} {L2:Ks} {x1:Operand} {v1:Value} (w:R L2 h0) (ho0:ZO o0.op=some x0:=by exact rfl) (hg0:qo ops L0.tree o0.guard=some true:=by exact rfl) (hx0:kA L0 x0=some v0:=by exact rfl) (hp0:qG sz L0 o0.dst v0=some L1:=by exact rfl) (ho1:ZO o1.op=some x1:=by exact rfl) (hg1:qo ops L1.tree o1.guard=some true:=by exact rfl) (hx1:kA L1 x1=some v1:=by exact rfl) (hp1:qG sz L1 o1.dst v1=some L2:=by exact rfl):KO P X sz ops [o0,o1] L0 h0 R:=mv (mv (qf w) ho1 hg1 hx1 hp1) ho0 hg0 hx0 hp0
theorem qj3 {L0:Ks} {h0:AH} {o0 o1:Oper} {L1:Ks} {x0 y0:Operand} {ty0 tz0:TypeId} {a0 b0:Int} {L2:Ks} {x1:Operand} {v1:Value} (w:R L2 h0) (ho0:o0.op = .binOp .add ty0 x0 y0 tz0:=by exact rfl) (hg0:qo ops L0.tree o0.guard=some true:=by exact rfl) (hx0:kA L0 x0=some (.int .i64 a0):=by exact rfl) (hy0:kA L0 y0=some (.int .i64 b0):=by exact rfl) (hb0 : -9223372036854775808≤a0+b0∧a0+b0≤9223372036854775807:=by first|omega|grind) (hp0:qG sz L0 o0.dst (.int .i64 (a0+b0))=some L1:=by exact rfl) (ho1:ZO o1.op=some x1:=by exact rfl) (hg1:qo ops L1.tree o1.guard=some true:=by exact rfl) (hx1:kA L1 x1=some v1:=by exact rfl) (hp1:qG sz L1 o1.dst v1=some L2:=by exact rfl):KO P X sz ops [o0,o1] L0 h0 R:=ad (mv (qf w) ho1 hg1 hx1 hp1) ho0 hg0 hx0 hy0 hb0 hp0
theorem qjZ {L0:Ks} {h0:AH} {o0 o1:Oper} {L1:Ks} {h1:AH} {v0:Value} {L2:Ks} {x1:Operand} {v1:Value} (w:R L2 h1) (hg0:qo ops L0.tree o0.guard=some true:=by exact rfl) (ha0:zX P L0.tree h0 o0.op=some (.val v0 h1):=by exact rfl) (hp0:qG sz L0 o0.dst v0=some L1:=by exact rfl) (ho1:ZO o1.op=some x1:=by exact rfl) (hg1:qo ops L1.tree o1.guard=some true:=by exact rfl) (hx1:kA L1 x1=some v1:=by exact rfl) (hp1:qG sz L1 o1.dst v1=some L2:=by exact rfl):KO P X sz ops [o0,o1] L0 h0 R:=vl (mv (qf w) ho1 hg1 hx1 hp1) hg0 ha0 hp0
theorem qj1 {L0:Ks} {h0:AH} {o0 o1:Oper} {L1:Ks} {x0:Operand} {v0:Value} {L2:Ks} {h2:AH} {v1:Value} (w:R L2 h2) (ho0:ZO o0.op=some x0:=by exact rfl) (hg0:qo ops L0.tree o0.guard=some true:=by exact rfl) (hx0:kA L0 x0=some v0:=by exact rfl) (hp0:qG sz L0 o0.dst v0=some L1:=by exact rfl) (hg1:qo ops L1.tree o1.guard=some true:=by exact rfl) (ha1:zX P L1.tree h0 o1.op=some (.val v1 h2):=by exact rfl) (hp1:qG sz L1 o1.dst v1=some L2:=by exact rfl):KO P X sz ops [o0,o1] L0 h0 R:=mv (vl (qf w) hg1 ha1 hp1) ho0 hg0 hx0 hp0
theorem qjJ {L0:Ks} {h0:AH} {o0 o1 o2 o3:Oper} {L1:Ks} {x0:Operand} {v0:Value} {L2:Ks} {h2:AH} {v1:Value} {L3:Ks} {h3:AH} {v2:Value} {L4:Ks} {h4:AH} {v3:Value} (w:KO P X sz ops os L4 h4 R) (ho0:ZO o0.op=some x0:=by exact rfl) (hg0:qo ops L0.tree o0.guard=some true:=by exact rfl) (hx0:kA L0 x0=some v0:=by exact rfl) (hp0:qG sz L0 o0.dst v0=some L1:=by exact rfl) (hg1:qo ops L1.tree o1.guard=some true:=by exact rfl) (ha1:zX P L1.tree h0 o1.op=some (.val v1 h2):=by exact rfl) (hp1:qG sz L1 o1.dst v1=some L2:=by exact rfl) (hg2:qo ops L2.tree o2.guard=some true:=by exact rfl) (ha2:zX P L2.tree h2 o2.op=some (.val v2 h3):=by exact rfl) (hp2:qG sz L2 o2.dst v2=some L3:=by exact rfl) (hg3:qo ops L3.tree o3.guard=some true:=by exact rfl) (ha3:zX P L3.tree h3 o3.op=some (.val v3 h4):=by exact rfl) (hp3:qG sz L3 o3.dst v3=some L4:=by exact rfl):KO P X sz ops (o0 :: o1 :: o2 :: o3 :: os) L0 h0 R:=mv (vl (vl (vl (w) hg3 ha3 hp3) hg2 ha2 hp2) hg1 ha1 hp1) ho0 hg0 hx0 hp0
theorem qj0 {L0:Ks} {h0:AH} {o0 o1 o2:Oper} {L1:Ks} {x0:Operand} {v0:Value} {L2:Ks} {h2:AH} {v1:Value} {L3:Ks} {h3:AH} {v2:Value} (w:KO P X sz ops os L3 h3 R) (ho0:ZO o0.op=some x0:=by exact rfl) (hg0:qo ops L0.tree o0.guard=some true:=by exact rfl) (hx0:kA L0 x0=some v0:=by exact rfl) (hp0:qG sz L0 o0.dst v0=some L1:=by exact rfl) (hg1:qo ops L1.tree o1.guard=some true:=by exact rfl) (ha1:zX P L1.tree h0 o1.op=some (.val v1 h2):=by exact rfl) (hp1:qG sz L1 o1.dst v1=some L2:=by exact rfl) (hg2:qo ops L2.tree o2.guard=some true:=by exact rfl) (ha2:zX P L2.tree h2 o2.op=some (.val v2 h3):=by exact rfl) (hp2:qG sz L2 o2.dst v2=some L3:=by exact rfl):KO P X sz ops (o0 :: o1 :: o2 :: os) L0 h0 R:=mv (vl (vl (w) hg2 ha2 hp2) hg1 ha1 hp1) ho0 hg0 hx0 hp0
theorem kmn {L0:Ks} {h0:AH} {o0:Oper} {L1:Ks} {x0:Operand} {v0:Value} (w:R L1 h0) (ho0:ZO o0.op=some x0:=by exact rfl) (hg0:qo ops L0.tree o0.guard=some true:=by exact rfl) (hx0:kA L0 x0=some v0:=by exact rfl) (hp0:qG sz L0 o0.dst v0=some L1:=by exact rfl):KO P X sz ops [o0] L0 h0 R:=mv (qf w) ho0 hg0 hx0 hp0
theorem kvn {L0:Ks} {h0:AH} {o0:Oper} {L1:Ks} {h1:AH} {v0:Value} (w:R L1 h1) (hg0:qo ops L0.tree o0.guard=some true:=by exact rfl) (ha0:zX P L0.tree h0 o0.op=some (.val v0 h1):=by exact rfl) (hp0:qG sz L0 o0.dst v0=some L1:=by exact rfl):KO P X sz ops [o0] L0 h0 R:=vl (qf w) hg0 ha0 hp0
theorem kmm {L0:Ks} {h0:AH} {o0 o1:Oper} {L1:Ks} {x0:Operand} {v0:Value} {L2:Ks} {x1:Operand} {v1:Value} (w:KO P X sz ops os L2 h0 R) (ho0:ZO o0.op=some x0:=by exact rfl) (hg0:qo ops L0.tree o0.guard=some true:=by exact rfl) (hx0:kA L0 x0=some v0:=by exact rfl) (hp0:qG sz L0 o0.dst v0=some L1:=by exact rfl) (ho1:ZO o1.op=some x1:=by exact rfl) (hg1:qo ops L1.tree o1.guard=some true:=by exact rfl) (hx1:kA L1 x1=some v1:=by exact rfl) (hp1:qG sz L1 o1.dst v1=some L2:=by exact rfl):KO P X sz ops (o0 :: o1 :: os) L0 h0 R:=mv (mv (w) ho1 hg1 hx1 hp1) ho0 hg0 hx0 hp0
end
end Go.Proofs.Xx
