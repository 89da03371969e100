/-
  The reference's plates,tables that are served,loads.
-/
import Derived.Test.YtnponmgkfkdkaaaGreatDoorM11
import Derived.Test.YtnponmgkfkdkaaaGreatDoorM9
import Derived.Test.YtnponmgkfkdkaaaGreatDoorM10
set_option linter.unusedSimpArgs false
set_option linter.unusedVariables false
set_option linter.unusedSectionVars false
set_option maxRecDepth 100000
set_option maxHeartbeats 4000000
namespace Go.Proofs.Xx
open Go Go.Proofs
theorem pK {l:List Tab} {q:List Int} {t:Nat}:∀ i,i≤q.length→((zT l q t i).length:Int)=(((q.take i).map (tOf l)).count (t:Int):Nat)
 | 0,_=>by simp [zT]
 | i+1,h=>by
  have ih:=pK (l:=l) (q:=q) (t:=t) i (by omega);rw [zT,ZK (show i<q.length by omega),zC9,List.count_append];split
  ·rename_i z
   rw [List.map_cons,List.map_nil,z.2,zB2];simp only [List.count_singleton_self,List.length_singleton];omega
  ·rename_i z
   have:List.count (t:Int) ([q.getD i default].map (tOf l))=0:=List.count_eq_zero_of_not_mem (by
    simp only [List.map_cons,List.map_nil,zB5];intro e;by_cases hp:0≤q.getD i default
    ·exact z ⟨hp,e.symm⟩
    ·have:=gz (l:=l) (s:=q.getD i default) (by omega);omega)
   rw [this];omega
theorem Ko {p:Pb} {q:List Int} {t:Nat} (ht:t<p.tabs.length):((zT p.tabs q t q.length).length:Int)=(zS p q).getD t default:=by
 unfold zS;rw [yS ht,pK q.length (zA3 _),zD4]
variable [Flag]
theorem qaS {h0:AH} (w:WfH h0) (pv:PbV) (p:Pb) (H:PbOk h0 pv p) (hv:ValidL p.tabs) (vq:Value) (q:List Int) (rq:zC h0 vq 1 eI q) (hq:q.length≤1000000) (hqb:∀ x∈q,-1≤x∧x≤1000000) :
 Fn Tryz.prog Xh 38 [pv.val,vq] h0 (fun u h'=>Hs h0 h' [.sl u 3 1 eI (zS p q)]):=by
 have S:=Hs.start w;have hr:=H.tab.rd;have hl:=H.tab.len;have hpl:=Zk (p:=p) (q:=q);unfold PbV.val;refine qL (by first|rfl) Tryz.func38 rfl rfl ?_;all_goals (repeat' (first|refine qg ?_|(refine qc 0 ?_;(refine bx S ?_;clear S;intro b h S);refine mv ?_;refine qf ?_)))
 obtain ⟨b2,hnm⟩:∃ x,x=b:=⟨_,rfl⟩;subst hnm;all_goals (repeat' (first|refine qg ?_|refine qj ?_|(refine qc 1 ?_;refine mv ?_;refine qf ?_)|(refine qc 2 ?_;refine mv ?_;refine qf ?_)))
 replace S:Hs h0 _ [.sl (.slice none 0 0) 3 1 eI [],.blk b2 pv.cs 28]:=S.Xg;refine qH (σ:=Nat×Value) (fun (i,v5) h'=>Hs h0 h' [.sl v5 3 1 eI ((zS p q).take i),.blk b2 pv.cs 28]∧i≤p.tabs.length) (fun (i,v5)=>p.tabs.length - i) (fun (i,v5)=>[(1,vq),(2,.pointer (some ⟨b2,0,none⟩)),(5,v5),(6,.int .i64 i)]) (0,.slice none 0 0) qx ?_ ?_
 ·exact ⟨S,zB0 _⟩
 clear S;rintro ⟨i,v5⟩ h ⟨S,g1⟩;have htl:((zS p q).take i).length≤1000:=by simp;omega
 all_goals (repeat' (first|refine qg ?_|refine qh rfl ?_|refine qi ?_|refine qC ?_|refine qj ?_|(refine qc 3 ?_;refine mv ?_;refine vl ?_;refine lB S rfl rfl ?_;refine jf S ?_;(first|(refine cS ?_ ?_<;>intro hc))<;>(refine qf ?_))))
 ·have hi:i<p.tabs.length:=by omega
  have hsl:=JF (l:=p.tabs) (q:=q) (t:=i) q.length;have e1:=Ko (p:=p) (q:=q) hi;have e2:(zS p q).take (i+1)=(zS p q).take i ++ [(zS p q).getD i default]:=ZK (by omega);all_goals (repeat' (first|(refine qc 5 ?_;refine mv ?_;refine lB S rfl rfl ?_;refine mv ?_;refine mv ?_)))
  (refine qw rfl rfl rfl rfl rfl ((Y7 S.wf pv p (H.ext w S.ext) hv vq q (rq.ext w S.ext) hq hqb (i:Int)).mono ?_);rintro u h x)<;>(replace S:=S.jm x;clear x;refine xe S rfl rfl ?_;(refine one 1 S ?_;clear S;intro u h S))
  refine app (y0:=((zT p.tabs q i q.length).length:Int)) S rfl rfl ?_;clear S;intro v h S;refine mv ?_;refine qf ?_;rw [e1,← e2] at S;all_goals (repeat' (first|(refine qc 4 ?_;refine mv ?_;refine ad ?_;refine mv ?_;refine qf ?_)))
  refine ⟨(i+1,v),?_,?_,qx⟩
  ·show p.tabs.length - (i+1)<p.tabs.length - i;omega
  ·exact ⟨S.pick,by (try dsimp only);omega⟩
 ·obtain rfl:i=p.tabs.length:=by omega
  rw [zF8 (by omega)] at S;all_goals (repeat' (first|(refine qc 6 ?_;refine mv ?_;refine mv ?_;refine qf ?_)))
  refine qo ⟨_,rfl,?_⟩;exact S.only .here
theorem qaR {h0:AH} (w:WfH h0) (pv:PbV) (p:Pb) (H:PbOk h0 pv p) (hv:ValidL p.tabs) (vq:Value) (q:List Int) (rq:zC h0 vq 1 eI q) (hq:q.length≤1000000) (hqb:∀ x∈q,-1≤x∧x≤1000000) :
 Fn Tryz.prog Xh 99 [pv.val,vq] h0 (fun u h'=>Hs h0 h' [.sl u 3 1 eI (srv (zS p q))]):=by
 have S:=Hs.start w;have hr:=H.tab.rd;have hl:=H.tab.len;have hpl:=Zk (p:=p) (q:=q);unfold PbV.val;refine qL (by first|rfl) Tryz.func99 rfl rfl ?_;all_goals (repeat' (first|refine qg ?_|(refine qc 0 ?_;(refine bx S ?_;clear S;intro b h S);refine mv ?_;refine qf ?_)))
 obtain ⟨b2,hnm⟩:∃ x,x=b:=⟨_,rfl⟩;subst hnm;all_goals (repeat' (first|refine qg ?_|refine qj ?_|(refine qc 1 ?_;refine mv ?_;refine qf ?_)|(refine qc 2 ?_;refine mv ?_;refine qf ?_)))
 replace S:Hs h0 _ [.sl (.slice none 0 0) 3 1 eI [],.blk b2 pv.cs 28]:=S.Xg;refine qH (σ:=Nat×Value) (fun (i,v5) h'=>Hs h0 h' [.sl v5 3 1 eI (Xb (zS p q) i),.blk b2 pv.cs 28]∧i≤p.tabs.length) (fun (i,v5)=>p.tabs.length - i) (fun (i,v5)=>[(1,vq),(2,.pointer (some ⟨b2,0,none⟩)),(5,v5),(6,.int .i64 i)]) (0,.slice none 0 0) qx ?_ ?_
 ·exact ⟨S,zB0 _⟩
 clear S;rintro ⟨i,v5⟩ h ⟨S,g1⟩;have htl:=(XG (pl:=zS p q) (n:=i)).2;all_goals (repeat' (first|refine qg ?_|refine qh rfl ?_|refine qi ?_|refine qC ?_|refine qj ?_|(refine qc 3 ?_;refine mv ?_;refine vl ?_;refine lB S rfl rfl ?_;refine jf S ?_;(first|(refine cS ?_ ?_<;>intro hc))<;>(refine qf ?_))))
 ·have hi:i<p.tabs.length:=by omega
  have hsl:=JF (l:=p.tabs) (q:=q) (t:=i) q.length;have e1:=Ko (p:=p) (q:=q) hi;all_goals (repeat' (first|(refine qc 5 ?_;refine lB S rfl rfl ?_;refine mv ?_;refine mv ?_)))
  (refine qw rfl rfl rfl rfl rfl ((Y7 S.wf pv p (H.ext w S.ext) hv vq q (rq.ext w S.ext) hq hqb (i:Int)).mono ?_);rintro u h x)<;>(replace S:=S.jm x;clear x;refine xe S rfl rfl ?_;(first|(refine cS ?_ ?_<;>intro hc))<;>(refine qf ?_))
  all_goals (repeat' (first|refine qh rfl ?_|refine qi ?_|(refine qc 6 ?_;refine mv ?_;refine mv ?_;(refine one 1 S ?_;clear S;intro u h S))))
  ·refine app (y0:=(i:Int)) S rfl rfl ?_;clear S;intro v h S;refine mv ?_;refine qf ?_;all_goals (repeat' (first|(refine qc 4 ?_;refine mv ?_;refine ad ?_;refine mv ?_;refine qf ?_)))
   refine ⟨(i+1,v),?_,?_,qx⟩
   ·show p.tabs.length - (i+1)<p.tabs.length - i;omega
   ·refine ⟨?_,by (try dsimp only);omega⟩;rw [Xb,if_pos (by omega)];exact S.pick
  ·all_goals (repeat' (first|(refine qc 4 ?_;refine mv ?_;refine ad ?_;refine mv ?_;refine qf ?_)))
   refine ⟨(i+1,v5),?_,?_,qx⟩
   ·show p.tabs.length - (i+1)<p.tabs.length - i;omega
   ·refine ⟨?_,by (try dsimp only);omega⟩;rw [Xb,if_neg (by omega)];exact S.pick
 ·obtain rfl:i=p.tabs.length:=by omega
  all_goals (repeat' (first|(refine qc 7 ?_;refine mv ?_;refine mv ?_;refine qf ?_)))
  refine qo ⟨_,rfl,?_⟩;unfold srv;rw [hpl];exact S.only .here
end Go.Proofs.Xx
namespace Go.Proofs.Xx
open Go Go.Proofs
end Go.Proofs.Xx
namespace Go.Proofs.Xx
def qkv (n:Nat):Nat→List Int→List (List Int)
 | 0,done=>[done]
 | k+1,done=>(List.range n).flatMap fun w:Nat=>qkv n k (done ++ [(w:Int)])
abbrev nI (g:List Nat):List Int:=g.map fun w:Nat=>(w:Int)
def exW (u w x:Nat):Nat:=if x=u then w else if x=w then u else x
def qjl (n:Nat):Nat→Nat→List Nat
 | 0,_=>[]
 | j+1,k=>qjl n j (k / n) ++ [k % n]
end Go.Proofs.Xx
namespace Go.Proofs.Xx
variable [Flag]
theorem Srt.out {a i:Nat} {m n:List (List UInt8)} (h:Srt jE a i m) (e:∀ k,a≤k→k<i→n.getD k default=m.getD k default):Srt jE a i n:=fun p q h1 h2 h3=>by
 rw [e p h1 (by omega),e q (by omega) h3];exact h p q h1 h2 h3
end Go.Proofs.Xx
namespace Go.Proofs.Xx
open Go Go.Proofs
variable [Flag]
end Go.Proofs.Xx
namespace Go.Proofs.Xx
open Go Go.Proofs
def MpRd {α:Type} (h:AH) (b:Nat) (enc:α→Value) (l:List (List UInt8×α)):Prop:=∃ es clock,h.get b=some (.map es clock)∧es.map (fun e=>(e.1,e.2.1))=l.map (fun p=>(Value.string ⟨p.1.toArray⟩,enc p.2))
theorem MpRd.ext {α:Type} {h h':AH} {b:Nat} {enc:α→Value} {l:List (List UInt8×α)} (r:MpRd h b enc l) (w:WfH h) (x:Ext h h'):MpRd h' b enc l:=by
 obtain ⟨es,clock,h1,h2⟩:=r;exact ⟨es,clock,x.get w h1,h2⟩
section
variable {P:Program} {X:Extern} {sz:Nat} {L:Ks} {h h0:AH} {rs:List Rs} {ops:Array Oper} {os:List Oper} {o:Oper} {R:Ks→AH→Prop}
end
structure BkAt (h:AH) (p:Nat) (r:Rl) (s:BkS):Prop where
 bk:h.get p=some (.cells [s.vg.val,s.vt.val,.map (some s.m)] 329 none false)
 rg:zC h s.vg.val 9 eG s.gs
 rt:zC h s.vt.val 3 QG r.ts
 mp:MpRd h s.m (.int .i64) s.mp
 tg:∀ i,i<s.gs.length→zC h (s.gs.getD i default).tv.val 1 eS (s.gs.getD i default).tg
 us:s.gs.map (·.toGu)=r.us
 at_:AtOk s.mp r.us
def BkRd (h:AH) (p:Nat) (r:Rl):Prop:=∃ s,BkAt h p r s
theorem BkRd.ext {h h':AH} {p:Nat} {r:Rl} (b:BkRd h p r) (w:WfH h) (x:Ext h h'):BkRd h' p r:=by
 obtain ⟨s,b⟩:=b;exact ⟨s,x.get w b.bk,b.rg.ext w x,b.rt.ext w x,b.mp.ext w x,fun i hi=>(b.tg i hi).ext w x,b.us,b.at_⟩
theorem BkAt.len {h:AH} {p:Nat} {r:Rl} {s:BkS} (b:BkAt h p r s):s.gs.length=r.us.length:=by rw [← b.us];simp
theorem BkAt.g {h:AH} {p:Nat} {r:Rl} {s:BkS} (b:BkAt h p r s) {i:Nat} (hi:i<s.gs.length):(s.gs.getD i default).toGu=r.us.getD i default:=by rw [← b.us,jc hi]
def SS (l:List (List UInt8)):Prop:=∀ i j,i<j→j<l.length→jE (l.getD i default) (l.getD j default)
theorem qei {l:List (List UInt8)} (h:l.Nodup) {i j:Nat} (hij:i<j) (hj:j<l.length):l.getD i default≠l.getD j default:=by
 rw [zA2,zA2,zA4 hj,zA4 (show i<l.length by omega)];exact zD2.1 h i j (by omega) hj hij
theorem SS.of {l l':List (List UInt8)} (s:Sw 0 l.length l l') (h:Srt jE 0 l.length l') (hn:l.Nodup):SS l':=fun i j hij hj=>by
 have hl:=s.len;have hn':l'.Nodup:=s.perm.nodup_iff.2 hn;have h1:=h i j (zB0 _) hij (by omega);rcases qg4 h1 with q|q
 ·exact absurd q (qei hn' hij hj)
 ·exact q
theorem SS.nodup {l:List (List UInt8)} (h:SS l):l.Nodup:=by
 rw [List.nodup_iff_pairwise_ne,zD2];intro i j hi hj hij;have:=h i j hij hj;rw [zA2,zA2,zA4 hj,zA4 hi] at this;exact qdU this
def adj (r:Rl) (k:Int) (n x:List UInt8):Prop:=∃ t∈r.ts,t.k=k∧((t.a=n∧t.b=x)∨(t.b=n∧t.a=x))
theorem adj.symm {r:Rl} {k:Int} {n x:List UInt8} (h:adj r k n x):adj r k x n:=by
 obtain ⟨t,h1,h2,h3⟩:=h;exact ⟨t,h1,h2,h3.elim (fun q=>.inr ⟨q.2,q.1⟩) (fun q=>.inl ⟨q.2,q.1⟩)⟩
def qkL (k:Int) (n:List UInt8) (t:Ti):List (List UInt8):=if t.k≠k then [] else if t.a=n then [t.b] else if t.b=n then [t.a] else []
theorem Yb {α:Type} [DecidableEq α]:∀ {l m:List α},l.Nodup→(∀ x∈l,x∈m)→l.length≤m.length
 | [],m,_,_=>zB0 _
 | x :: l,m,h,hs=>by
  have hx:=hs x (by simp);have h2:=List.nodup_cons.1 h;have:=Yb (l:=l) (m:=m.erase x) h2.2 fun y hy=>by
   rw [List.mem_erase_of_ne (show y≠x from fun e=>h2.1 (by rw [← e];exact hy))];exact hs y (by simp [hy])
  rw [List.length_erase_of_mem hx] at this;have:0<m.length:=List.length_pos_of_mem hx;rw [zC4];omega
variable [Flag]
end Go.Proofs.Xx
namespace Go.Proofs.Xx
open Go Go.Proofs
section
variable {P:Program} {X:Extern} {sz:Nat} {L:Ks} {h h0:AH} {rs:List Rs} {ops:Array Oper} {os:List Oper} {o:Oper} {R:Ks→AH→Prop}
theorem bE {L1 L2:Ks} {x y:Operand} {ty ty2:TypeId} {a b:Bool} (w1:a=b→KO P X sz ops os L1 h R) (w2:¬ a=b→KO P X sz ops os L2 h R) (ho:o.op = .binOp .eql ty x y ty2:=by exact rfl) (hg:qp ops L.tree o.guard=some true:=by exact rfl) (hx:kA L x=some (.bool a):=by exact rfl) (hy:kA L y=some (.bool b):=by exact rfl) (hu:P.underlying ty=some .bool:=by exact rfl)
 (hp1:qJ sz L o.dst (.bool true)=some L1:=by exact rfl) (hp2:qJ sz L o.dst (.bool false)=some L2:=by exact rfl):KO P X sz ops (o :: os) L h R:=by
 by_cases p:a=b
 ·subst p;exact jD ho hg hx hy (v:=.bool true) (by cases a<;>simp [QO,hu]) hp1 (w1 rfl)
 ·exact jD ho hg hx hy (v:=.bool false) (by cases a<;>cases b<;>first|exact absurd rfl p|simp [QO,hu]) hp2 (w2 p)
end
theorem Yf {α:Type} [Inhabited α] {l m:List α} (hl:l.length=m.length) (h:∀ i,i<l.length→l.getD i default=m.getD i default):l=m:=by
 apply List.ext_getElem hl
 intro i h1 h2;have:=h i h1;rwa [zA2,zA2,zA4 h1,zA4 h2] at this
theorem qik (a b:Ti):(zA ⟨a.a.toArray⟩ ⟨b.a.toArray⟩ && (zA ⟨a.b.toArray⟩ ⟨b.b.toArray⟩ && (a.k == b.k && true)))=true↔a=b:=by
 rw [jP,jP];cases a;cases b
 simp
theorem Star.snoc {h:AH} {r:Rs} {fp:Fp} (hr:r.ok h fp):∀ {l:List Rs} {U:Fp},Star h l U→(∀ b,fp b→¬ U b)→Star h (l ++ [r]) (fun b=>U b∨fp b)
 | [],U,_,_=>⟨fp,hr,fun b hb=>.inr hb,trivial⟩
 | x :: l,U,⟨fx,h1,h2,h3⟩,hd=>⟨fx,h1,fun b hb=>.inl (h2 b hb),(Star.snoc hr h3 fun b hb q=>hd b hb q.1).mono fun b hb=>by
  rcases hb with hb|hb
  ·exact ⟨.inl hb.1,hb.2⟩
  ·exact ⟨.inr hb,fun q=>hd b hb (h2 b q)⟩⟩
abbrev qfy (g:Z5):Rs:=.sl g.tv.val 9 1 eS g.tg
abbrev tgO (gs:List Z5):Rs:=.any (fun h fp=>Star h (gs.map qfy) fp)
theorem Hs.qg1 {h0 h:AH} {rs:List Rs} {gs:List Z5} {g:Z5} (S:Hs h0 h (.sl g.tv.val 9 1 eS g.tg :: tgO gs :: rs)):Hs h0 h (tgO (gs ++ [g]) :: rs):=by
 obtain ⟨f1,k1,k2,f2,k3,k4,k5⟩:=S.sep;refine ⟨S.ext,fun b=>f2 b∨f1 b,fun h' q=>?_,fun b hb=>?_,k5.mono fun b hb=>⟨trivial,fun q=>?_⟩⟩
 ·rw [zC9];exact Star.snoc (k1.local fun b hb=>q b (.inr hb)) (k3 h' fun b hb=>q b (.inl hb)) fun b hb q=>(k4 b q).2.2.2 hb
 ·rcases hb with hb|hb
  ·exact ⟨(k4 b hb).1,(k4 b hb).2.1,trivial⟩
  ·exact k2 b hb
 ·rcases q with q|q
  ·exact hb.2 q
  ·exact hb.1.2 q
theorem Star.get {h:AH} {r:Rs}:∀ {l:List Rs} {U:Fp},Star h l U→r∈l→∃ fp,r.ok h fp
 | x :: l,U,⟨fx,h1,h2,h3⟩,hr=>by
  rcases zE7.1 hr with rfl|hr
  ·exact ⟨fx,h1⟩
  ·exact Star.get h3 hr
abbrev qkN (v:RlV) (ts:List Ti):List Rs:=[.sl v.vg.val 45 9 eG v.gs,.sl v.vt.val 198 3 QG ts,tgO v.gs]
variable [Flag]
theorem Kr {h0:AH} (w:WfH h0) (v u:Value) (l m:List (List UInt8)) (rv:zC h0 v 1 eS l) (ru:zC h0 u 1 eS m) (hl:l.length≤9223372036854775807) (hm:m.length≤9223372036854775807):Fn Tryz.prog Xh 319 [v,u] h0 (fun x h'=>qZ x (l=m)∧Hs h0 h' []):=by
 have S:=Hs.start w;refine qL (by first|rfl) Tryz.func319 rfl rfl ?_;all_goals (repeat' (first|refine qg ?_|refine qh rfl ?_|refine qi ?_|refine qj ?_|(refine qc 0 ?_;refine mv ?_;refine qf ?_)|(refine qc 1 ?_;refine mv ?_;refine jf S ?_;refine mv ?_;refine jf S ?_;(first|(refine cS ?_ ?_<;>intro hc))<;>(refine qf ?_))|(refine qc 2 ?_;refine mv ?_;refine qf ?_)|(refine qc 3 ?_;refine mv ?_;refine qf ?_)))
 ·refine qo ⟨_,rfl,?_⟩;exact ⟨.inr ⟨rfl,fun q=>by subst q;exact hc rfl⟩,S⟩
 ·refine qH (σ:=Nat) (fun i h'=>Hs h0 h' []∧i≤l.length∧∀ j,j<i→l.getD j default=m.getD j default) (fun i=>l.length - i) (fun i=>[(0,v),(1,u),(5,.int .i64 i)]) 0 qx ?_ ?_
  ·exact ⟨S,zB0 _,fun j hj=>absurd hj (zB7 _)⟩
  clear S;rintro i h ⟨S,g1,g2⟩;all_goals (repeat' (first|refine qg ?_|refine qh rfl ?_|refine qi ?_|refine qC ?_|refine qj ?_|(refine qc 4 ?_;refine mv ?_;refine mv ?_;refine jf S ?_;(first|(refine cS ?_ ?_<;>intro hc))<;>(refine qf ?_))|(refine qc 5 ?_;refine mv ?_;refine ad ?_;refine mv ?_;refine qf ?_)|(refine qM 6 ?_;refine mv ?_;refine mv ?_;refine jF S ?_;refine jk S ?_;refine mv ?_;refine mv ?_;refine jF S ?_;refine jk S ?_;(refine tS ?_ ?_<;>intro hc)<;>(refine qf ?_))|(refine qc 7 ?_;refine mv ?_;refine qf ?_)|(refine qc 8 ?_;refine mv ?_;refine qf ?_)))
  all_goals (try simp only [zA0] at *)
  ·refine ⟨i+1,?_,?_,qx⟩
   ·show l.length - (i+1)<l.length - i;omega
   ·exact ⟨S,by omega,Qj g2 hc⟩
  ·refine qo ⟨_,rfl,?_⟩;exact ⟨.inr ⟨rfl,fun q=>by subst q;exact hc rfl⟩,S⟩
  ·refine qo ⟨_,rfl,?_⟩;exact ⟨.inl ⟨rfl,Yf (by omega) fun j hj=>g2 j (by omega)⟩,S⟩
theorem pU {h0:AH} (w:WfH h0) (v u:Value) (l m:List Ti) (rv:zC h0 v 3 QG l) (ru:zC h0 u 3 QG m) (hl:l.length≤9223372036854775807) (hm:m.length≤9223372036854775807):Fn Tryz.prog Xh 159 [v,u] h0 (fun x h'=>qZ x (l=m)∧Hs h0 h' []):=by
 have S:=Hs.start w;refine qL (by first|rfl) Tryz.func159 rfl rfl ?_;all_goals (repeat' (first|refine qg ?_|refine qh rfl ?_|refine qi ?_|refine qj ?_|(refine qc 0 ?_;refine mv ?_;refine qf ?_)|(refine qc 1 ?_;refine mv ?_;refine jf S ?_;refine mv ?_;refine jf S ?_;(first|(refine cS ?_ ?_<;>intro hc))<;>(refine qf ?_))|(refine qc 2 ?_;refine mv ?_;refine qf ?_)|(refine qc 3 ?_;refine mv ?_;refine qf ?_)))
 ·refine qo ⟨_,rfl,?_⟩;exact ⟨.inr ⟨rfl,fun q=>by subst q;exact hc rfl⟩,S⟩
 ·refine qH (σ:=Nat) (fun i h'=>Hs h0 h' []∧i≤l.length∧∀ j,j<i→l.getD j default=m.getD j default) (fun i=>l.length - i) (fun i=>[(0,v),(1,u),(5,.int .i64 i)]) 0 qx ?_ ?_
  ·exact ⟨S,zB0 _,fun j hj=>absurd hj (zB7 _)⟩
  clear S;rintro i h ⟨S,g1,g2⟩;all_goals (repeat' (first|refine qg ?_|refine qh rfl ?_|refine qi ?_|refine qC ?_|refine qj ?_|(refine qc 4 ?_;refine mv ?_;refine mv ?_;refine jf S ?_;(first|(refine cS ?_ ?_<;>intro hc))<;>(refine qf ?_))|(refine qc 5 ?_;refine mv ?_;refine ad ?_;refine mv ?_;refine qf ?_)|(refine qM 6 ?_;refine mv ?_;refine mv ?_;refine jF S ?_;refine jk S ?_;refine mv ?_;refine mv ?_;refine jF S ?_;refine jk S ?_;(refine gE ?_ ?_<;>intro hc)<;>(refine qf ?_))|(refine qc 7 ?_;refine mv ?_;refine qf ?_)|(refine qc 8 ?_;refine mv ?_;refine qf ?_)))
  all_goals (try simp only [zA0] at *)
  ·refine ⟨i+1,?_,?_,qx⟩
   ·show l.length - (i+1)<l.length - i;omega
   ·exact ⟨S,by omega,Qj g2 ((qik _ _).1 hc)⟩
  ·refine qo ⟨_,rfl,?_⟩;exact ⟨.inr ⟨rfl,fun q=>by subst q;rw [(qik _ _).2 rfl] at hc;cases hc⟩,S⟩
  ·refine qo ⟨_,rfl,?_⟩;exact ⟨.inl ⟨rfl,Yf (by omega) fun j hj=>g2 j (by omega)⟩,S⟩
theorem Ku {h0:AH} (w:WfH h0) (g k:Z5) (rg:zC h0 g.tv.val 1 eS g.tg) (rk:zC h0 k.tv.val 1 eS k.tg) (hg:g.tg.length≤9223372036854775807) (hk:k.tg.length≤9223372036854775807):Fn Tryz.prog Xh 237 [gV g,gV k] h0 (fun x h'=>qZ x (g.toGu=k.toGu)∧Hs h0 h' []):=by
 have S:=Hs.start w;obtain ⟨⟨n1,n2,n3,n4,n5,n6,n7,n8,n9⟩,n10⟩:=g;obtain ⟨⟨m1,m2,m3,m4,m5,m6,m7,m8,m9⟩,m10⟩:=k;unfold gV;dsimp only at *;refine qL (by first|rfl) Tryz.func237 rfl rfl ?_;all_goals (repeat' (first|refine qg ?_|(refine qc 0 ?_;(refine bx S ?_;clear S;intro b h S);(refine bx S ?_;clear S;intro b h S);refine mv ?_;refine qf ?_)|(refine qc 1 ?_;refine vl ?_;refine lB S rfl rfl ?_;refine vl ?_;refine lB S rfl rfl ?_;(refine tS ?_ ?_<;>intro hc)<;>(refine mv ?_;(first|refine off ?_|(refine vl ?_));(first|refine off ?_|(refine lB S rfl rfl ?_));(first|refine off ?_|(refine vl ?_));(first|refine off ?_|(refine lB S rfl rfl ?_));(first|refine off ?_|(refine tS ?_ ?_<;>intro hc))<;>(refine vl ?_;refine mv ?_;(first|refine off ?_|(refine vl ?_));(first|refine off ?_|(refine lB S rfl rfl ?_));(first|refine off ?_|(refine vl ?_));(first|refine off ?_|(refine lB S rfl rfl ?_));(first|refine off ?_|(refine tS ?_ ?_<;>intro hc))<;>(refine vl ?_;refine mv ?_;(first|refine off ?_|(refine vl ?_));(first|refine off ?_|(refine lB S rfl rfl ?_));(first|refine off ?_|(refine vl ?_));(first|refine off ?_|(refine lB S rfl rfl ?_));(first|refine off ?_|(first|(refine cS ?_ ?_<;>intro hc)))<;>(refine vl ?_;refine mv ?_;(first|refine off ?_|(refine vl ?_));(first|refine off ?_|(refine lB S rfl rfl ?_));(first|refine off ?_|(refine vl ?_));(first|refine off ?_|(refine lB S rfl rfl ?_));(first|refine off ?_|(first|(refine cS ?_ ?_<;>intro hc)))<;>(refine vl ?_;refine mv ?_;(first|refine off ?_|(refine vl ?_));(first|refine off ?_|(refine lB S rfl rfl ?_));(first|refine off ?_|(refine vl ?_));(first|refine off ?_|(refine lB S rfl rfl ?_));(first|refine off ?_|(refine tS ?_ ?_<;>intro hc))<;>(refine vl ?_;refine mv ?_;(first|refine off ?_|(refine vl ?_));(first|refine off ?_|(refine lB S rfl rfl ?_));(first|refine off ?_|(refine vl ?_));(first|refine off ?_|(refine lB S rfl rfl ?_));(first|refine off ?_|(refine bE ?_ ?_<;>intro hc))<;>(refine vl ?_;refine mv ?_;(first|refine off ?_|(refine vl ?_));(first|refine off ?_|(refine lB S rfl rfl ?_));(first|refine off ?_|(refine vl ?_));(first|refine off ?_|(refine lB S rfl rfl ?_));(first|refine off ?_|(refine bE ?_ ?_<;>intro hc))<;>(refine vl ?_;refine mv ?_;(first|refine off ?_|(refine vl ?_));(first|refine off ?_|(refine lB S rfl rfl ?_));(first|refine off ?_|(refine vl ?_));(first|refine off ?_|(refine lB S rfl rfl ?_));(first|(refine off ?_;refine vl ?_;refine mv ?_;refine qf ?_)|skip))))))))))))
 ·(refine qw rfl rfl rfl rfl rfl ((Kr S.wf n10.val m10.val n9 m9 (rg.ext w S.ext) (rk.ext w S.ext) hg hk).mono ?_);rintro _ h ⟨⟨rfl,z⟩|⟨rfl,z⟩,x⟩)<;>(replace S:=S.qE x;clear x;refine vl ?_;refine mv ?_;refine qf ?_)
  ·all_goals (repeat' (fail))
   refine qo ⟨_,rfl,?_⟩;refine ⟨.inl ⟨rfl,?_⟩,S.drop⟩;simp only [Gu.mk.injEq];exact ⟨by assumption,by assumption,by assumption,by assumption,by assumption,by assumption,by assumption,by assumption,z⟩
  ·all_goals (repeat' (fail))
   refine qo ⟨_,rfl,?_⟩;refine ⟨.inr ⟨rfl,fun q=>?_⟩,S.drop⟩;simp only [Gu.mk.injEq] at q;exact z q.2.2.2.2.2.2.2.2
 all_goals
  refine qo ⟨_,rfl,?_⟩;refine ⟨.inr ⟨rfl,fun q=>?_⟩,S.drop⟩;simp only [Gu.mk.injEq] at q;exact absurd (by first|exact q.1|exact q.2.1|exact q.2.2.1|exact q.2.2.2.1|exact q.2.2.2.2.1|exact q.2.2.2.2.2.1|exact q.2.2.2.2.2.2.1|exact q.2.2.2.2.2.2.2.1) hc
theorem vN {h0:AH} (w:WfH h0) (v u:Value) (gs ks:List Z5) (rv:zC h0 v 9 eG gs) (ru:zC h0 u 9 eG ks) (tv:∀ i,i<gs.length→zC h0 (gs.getD i default).tv.val 1 eS (gs.getD i default).tg∧(gs.getD i default).tg.length≤9223372036854775807) (tu:∀ i,i<ks.length→zC h0 (ks.getD i default).tv.val 1 eS (ks.getD i default).tg∧(ks.getD i default).tg.length≤9223372036854775807) (hl:gs.length≤9223372036854775807) (hm:ks.length≤9223372036854775807) :
 Fn Tryz.prog Xh 158 [v,u] h0 (fun x h'=>qZ x (gs.map (·.toGu)=ks.map (·.toGu))∧Hs h0 h' []):=by
 have S:=Hs.start w;refine qL (by first|rfl) Tryz.func158 rfl rfl ?_;all_goals (repeat' (first|refine qg ?_|refine qh rfl ?_|refine qi ?_|refine qj ?_|(refine qc 0 ?_;refine mv ?_;refine qf ?_)|(refine qc 1 ?_;refine mv ?_;refine jf S ?_;refine mv ?_;refine jf S ?_;(first|(refine cS ?_ ?_<;>intro hc))<;>(refine qf ?_))|(refine qc 2 ?_;refine mv ?_;refine qf ?_)|(refine qc 3 ?_;refine mv ?_;refine qf ?_)))
 ·refine qo ⟨_,rfl,?_⟩;exact ⟨.inr ⟨rfl,fun q=>by have:=congrArg List.length q;simp at this;omega⟩,S⟩
 ·refine qH (σ:=Nat) (fun i h'=>Hs h0 h' []∧i≤gs.length∧∀ j,j<i→(gs.getD j default).toGu=(ks.getD j default).toGu) (fun i=>gs.length - i) (fun i=>[(0,v),(1,u),(5,.int .i64 i)]) 0 qx ?_ ?_
  ·exact ⟨S,zB0 _,fun j hj=>absurd hj (zB7 _)⟩
  clear S;rintro i h ⟨S,g1,g2⟩;all_goals (repeat' (first|refine qg ?_|refine qh rfl ?_|refine qi ?_|refine qC ?_|refine qj ?_|(refine qc 4 ?_;refine mv ?_;refine mv ?_;refine jf S ?_;(first|(refine cS ?_ ?_<;>intro hc))<;>(refine qf ?_))|(refine qc 8 ?_;refine mv ?_;refine qf ?_)))
  ·have e1:=tv i (by omega);have e2:=tu i (by omega);all_goals (repeat' (first|(refine qM 6 ?_;refine mv ?_;refine mv ?_;refine jF S ?_;refine jk S ?_;refine mv ?_;refine mv ?_;refine jF S ?_;refine jk S ?_)))
   simp only [zA0];(refine qw rfl rfl rfl rfl rfl ((Ku S.wf (gs.getD i default) (ks.getD i default) (e1.1.ext w S.ext) (e2.1.ext w S.ext) e1.2 e2.2).mono ?_);rintro _ h ⟨⟨rfl,z⟩|⟨rfl,z⟩,x⟩)<;>(replace S:=S.qE x;clear x;refine vl ?_;refine qf ?_)
   ·all_goals (repeat' (first|refine qh rfl ?_|refine qi ?_|(refine qc 5 ?_;refine mv ?_;refine ad ?_;refine mv ?_;refine qf ?_)))
    refine ⟨i+1,?_,?_,qx⟩
    ·show gs.length - (i+1)<gs.length - i;omega
    ·exact ⟨S,by omega,Qj g2 z⟩
   ·all_goals (repeat' (first|refine qg ?_|refine qh rfl ?_|(refine qc 7 ?_;refine mv ?_;refine qf ?_)))
    refine qo ⟨_,rfl,?_⟩;refine ⟨.inr ⟨rfl,fun q=>z ?_⟩,S⟩;rw [← jc (f:=fun g:Z5=>g.toGu) (show i<gs.length by omega),← jc (f:=fun g:Z5=>g.toGu) (show i<ks.length by omega),q]
  ·refine qo ⟨_,rfl,?_⟩;refine ⟨.inl ⟨rfl,Yf (by simp;omega) fun j hj=>?_⟩,S⟩;simp at hj;rw [jc (by omega),jc (by omega)];exact g2 j (by omega)
end Go.Proofs.Xx
namespace Go.Proofs.Xx
open Go Go.Proofs
structure TabC where
 name:List UInt8
 shape:Int
 A:Int
 B:Int
 opn:List Int
 X:Int
 Y:Int
instance:Inhabited TabC:=⟨⟨[],0,0,0,[],0,0⟩⟩
abbrev Tab.toC (t:Tab):TabC:=⟨t.name,t.shape,t.A,t.B,t.opn,t.X,t.Y⟩
theorem G9 {l m:List Tab} (h:l.map (·.toC)=m.map (·.toC)) (i:Nat):(tb l i).toC=(tb m i).toC:=by
 have hl:l.length=m.length:=by have:=congrArg List.length h;simpa using this
 unfold tb;rcases zA7 i l.length with r|r
 ·have e:=congrArg (fun x=>x[i]?) h;simp only [zH8] at e;rw [zA4 r,zA4 (by omega)] at e;rw [zA2,zA2,zA4 r,zA4 (by omega)];exact Option.some.inj e
 ·rw [zA2,zA2,zG5 r,zG5 (by omega)]
section
variable {l m:List Tab} (h:l.map (·.toC)=m.map (·.toC))
include h
theorem Ve:l.length=m.length:=by have:=congrArg List.length h;simpa using this
theorem KC (i:Nat):(tb l i).name=(tb m i).name:=congrArg TabC.name (G9 h i)
theorem X_c (i:Nat):(tb l i).X=(tb m i).X:=congrArg TabC.X (G9 h i)
theorem Y_c (i:Nat):(tb l i).Y=(tb m i).Y:=congrArg TabC.Y (G9 h i)
theorem WV (i:Nat):zl (tb l i)=zl (tb m i):=by
 unfold zl;rw [show (tb l i).shape=(tb m i).shape from congrArg TabC.shape (G9 h i),show (tb l i).A=(tb m i).A from congrArg TabC.A (G9 h i),show (tb l i).B=(tb m i).B from congrArg TabC.B (G9 h i)]
theorem qjn (i:Nat):chk (tb l i)=chk (tb m i):=by
 unfold chk qdl;rw [KC h,WV h,X_c h,Y_c h,show (tb l i).opn=(tb m i).opn from congrArg TabC.opn (G9 h i)]
theorem xA:sumT l=sumT m:=by
 funext k
 induction k with
 | zero=>rfl
 | succ k ih=>rw [sumT,sumT,ih,WV h]
theorem qjk:kH l=kH m:=by funext k;unfold kH;simp only [KC h]
theorem qhu:Zu l=Zu m:=by funext k;unfold Zu;rw [qjn h,qjk h]
theorem xx:ValidL l↔ValidL m:=by unfold ValidL;rw [qhu h,Ve h]
theorem qhs:Jw l=Jw m:=by funext n;unfold Jw;simp only [KC h,Ve h]
theorem qij:tix l=tix m:=by
 funext n
 have e:∀ l:List Tab,tix l n=(l.map (·.toC)).findIdx fun t=>decide (t.name=n):=fun l=>by unfold tix;rw [List.findIdx_map];rfl
 rw [e,e,h]
theorem qdv:WhereI l=WhereI m:=by
 funext s i k
 unfold WhereI;simp only [xA h,WV h,Ve h,xx h]
theorem qdE:tOf l=tOf m:=by
 funext s
 unfold tOf;rw [qdv h]
theorem qgu {us:List Gu} {ts:List Ti} {cl:List Int} {ru:List Ru} {r:Ru}:wP ⟨l,us,ts,cl,ru⟩ r=wP ⟨m,us,ts,cl,ru⟩ r:=by
 have e:∀ k:Kd,k.err ⟨l,us,ts,cl,ru⟩ r=k.err ⟨m,us,ts,cl,ru⟩ r:=fun k=>by
  have e1:k.ut l r=k.ut m r:=by unfold Kd.ut;rw [qhs h]
  have e2:k.most l r=k.most m r:=by unfold Kd.most;rw [qij h,WV h]
  classical
  unfold Kd.err;show (if _ then _ else if _ then _ else if _ then _ else if _ then _ else if _ then _ else if k.ut l r then _ else if _∧(_∨k.most l r<_) then _ else _)=_
  rw [e1,e2]
 unfold wP;rw [e]
theorem qjP {us:List Gu} {ts:List Ti} {cl:List Int} {ru:List Ru}:PO ⟨l,us,ts,cl,ru⟩↔PO ⟨m,us,ts,cl,ru⟩:=by
 constructor
 ·rintro ⟨h1,h2,h3,h4,h5,h6⟩;exact ⟨(xx h).1 h1,h2,h3,by have:=h4;simp only [xA h,Ve h] at this;exact this,fun r hr=>by rw [← qgu h];exact h5 r hr,h6⟩
 ·rintro ⟨h1,h2,h3,h4,h5,h6⟩;exact ⟨(xx h).2 h1,h2,h3,by simp only [xA h,Ve h];exact h4,fun r hr=>by rw [qgu h];exact h5 r hr,h6⟩
theorem qd9 {us:List Gu} {ts:List Ti} {cl:List Int} {ru:List Ru} {q:List Int}:PartOk ⟨l,us,ts,cl,ru⟩ q↔PartOk ⟨m,us,ts,cl,ru⟩ q:=by
 constructor
 ·rintro ⟨h1,h2,h3⟩;exact ⟨h1,by have:=h2;simp only [xA h,Ve h] at this;exact this,h3⟩
 ·rintro ⟨h1,h2,h3⟩;exact ⟨h1,by simp only [xA h,Ve h];exact h2,h3⟩
theorem qhc {us:List Gu} {ts:List Ti} {cl:List Int} {ru:List Ru} {q:List Int}:zS ⟨l,us,ts,cl,ru⟩ q=zS ⟨m,us,ts,cl,ru⟩ q:=by
 unfold zS;simp only [qdE h,Ve h]
end
variable [Flag]
theorem qhF {h0:AH} (w:WfH h0) (v:Value) (l:List (List UInt8)) (hr:zC h0 v 1 eS l) (hl:l.length≤8796093021952):Fn Tryz.prog Xh 233 [v] h0 (fun u h'=>Hs h0 h' [.sl u 9 1 eS l]):=by
 have S:=Hs.start w;refine qL (by first|rfl) Tryz.func233 rfl rfl ?_;all_goals (repeat' (first|refine qg ?_|refine qj ?_|(refine qc 0 ?_;refine mv ?_;refine qf ?_)|(refine qc 1 ?_;refine mv ?_;refine qf ?_)|(refine qc 2 ?_;refine mv ?_;refine qf ?_)))
 have S:=S.Xg (e:=9) (z:=1) (enc:=eS);refine qH (σ:=Nat×Value) (fun (i,v3) h'=>Hs h0 h' [.sl v3 9 1 eS (l.take i)]∧i≤l.length) (fun (i,v3)=>l.length - i) (fun (i,v3)=>[(0,v),(3,v3),(4,.int .i64 i)]) (0,.slice none 0 0) qx ?_ ?_
 ·exact ⟨S,zB0 _⟩
 clear S;rintro ⟨i,v3⟩ h ⟨S,g1⟩;have htl:(l.take i).length≤8796093021952:=by simp;omega
 all_goals (repeat' (first|refine qg ?_|refine qh rfl ?_|refine qi ?_|refine qC ?_|refine qj ?_|(refine qc 3 ?_;refine mv ?_;refine mv ?_;refine jf S ?_;(first|(refine cS ?_ ?_<;>intro hc))<;>(refine qf ?_))))
 ·have hil:i<l.length:=by omega
  all_goals (repeat' (first|(refine qc 5 ?_;(iterate 3 refine mv ?_);refine jF S ?_;refine jk S ?_;(refine one 1 S ?_;clear S;intro u h S))))
  simp only [zA0] at *;refine app (y0:=l.getD i default) S rfl rfl ?_;clear S;intro v3 h S;(refine mv ?_;refine qf ?_);all_goals (repeat' (first|(refine qc 4 ?_;refine mv ?_;refine ad ?_;refine mv ?_;refine qf ?_)))
  refine ⟨(i+1,v3),?_,?_,qx⟩
  ·show l.length - (i+1)<l.length - i;omega
  ·refine ⟨?_,by (try dsimp only);omega⟩;dsimp only;rw [zM hil];exact S
 ·obtain rfl:i=l.length:=by omega
  rw [zD4] at S;all_goals (repeat' (first|(refine qc 6 ?_;refine mv ?_;refine mv ?_;refine qf ?_)))
  refine qo ⟨_,rfl,?_⟩;exact S
theorem qhG {h0:AH} (w:WfH h0) (v:Value) (l:List Ti) (hr:zC h0 v 3 QG l) (hl:l.length*40≤140737488351232):Fn Tryz.prog Xh 93 [v] h0 (fun u h'=>Hs h0 h' [.sl u 198 3 QG l]):=by
 have S:=Hs.start w;refine qL (by first|rfl) Tryz.func93 rfl rfl ?_;all_goals (repeat' (first|refine qg ?_|refine qj ?_|(refine qc 0 ?_;refine mv ?_;refine qf ?_)|(refine qc 1 ?_;refine mv ?_;refine qf ?_)|(refine qc 2 ?_;refine mv ?_;refine qf ?_)))
 have S:=S.Xg (e:=198) (z:=3) (enc:=QG);refine qH (σ:=Nat×Value) (fun (i,v3) h'=>Hs h0 h' [.sl v3 198 3 QG (l.take i)]∧i≤l.length) (fun (i,v3)=>l.length - i) (fun (i,v3)=>[(0,v),(3,v3),(4,.int .i64 i)]) (0,.slice none 0 0) qx ?_ ?_
 ·exact ⟨S,zB0 _⟩
 clear S;rintro ⟨i,v3⟩ h ⟨S,g1⟩;have htl:(l.take i).length=i:=by simp;omega
 all_goals (repeat' (first|refine qg ?_|refine qh rfl ?_|refine qi ?_|refine qC ?_|refine qj ?_|(refine qc 3 ?_;refine mv ?_;refine mv ?_;refine jf S ?_;(first|(refine cS ?_ ?_<;>intro hc))<;>(refine qf ?_))))
 ·have hil:i<l.length:=by omega
  all_goals (repeat' (first|(refine qc 5 ?_;(iterate 3 refine mv ?_);refine jF S ?_;refine jk S ?_;(refine one 3 S ?_;clear S;intro u h S))))
  simp only [zA0] at *;refine app (y0:=l.getD i default) S rfl rfl ?_;clear S;intro v3 h S;(refine mv ?_;refine qf ?_);all_goals (repeat' (first|(refine qc 4 ?_;refine mv ?_;refine ad ?_;refine mv ?_;refine qf ?_)))
  refine ⟨(i+1,v3),?_,?_,qx⟩
  ·show l.length - (i+1)<l.length - i;omega
  ·refine ⟨?_,by (try dsimp only);omega⟩;dsimp only;rw [zM hil];exact S
 ·obtain rfl:i=l.length:=by omega
  rw [zD4] at S;all_goals (repeat' (first|(refine qc 6 ?_;refine mv ?_;refine mv ?_;refine qf ?_)))
  refine qo ⟨_,rfl,?_⟩;exact S
theorem qhI {h0:AH} (w:WfH h0) (g:Z5) (rd:zC h0 g.tv.val 1 eS g.tg) (hl:g.tg.length≤8796093021952):Fn Tryz.prog Xh 155 [gV g] h0 (fun u h'=>∃ tv:SlV,u=gV { g with tv:=tv }∧Hs h0 h' [.sl tv.val 9 1 eS g.tg]):=by
 have S:=Hs.start w;obtain ⟨⟨n1,n2,n3,n4,n5,n6,n7,n8,n9⟩,n10⟩:=g;unfold gV;dsimp only at *;refine qL (by first|rfl) Tryz.func155 rfl rfl ?_;all_goals (repeat' (first|refine qg ?_|(refine qc 0 ?_;(refine bx S ?_;clear S;intro b h S);(refine al S ?_;clear S;intro b h S);refine qf ?_)))
 obtain ⟨b1,hnm⟩:∃ x,x=b:=⟨_,rfl⟩;subst hnm;all_goals (repeat' (first|(refine qc 1 ?_;refine vl ?_;refine lB S rfl rfl ?_)))
 (refine qw rfl rfl rfl rfl rfl ((qhF S.wf n10.val n9 (rd.ext w S.ext) hl).mono ?_);rintro v h x)<;>(replace S:=S.jm x;clear x;obtain ⟨tv,rfl⟩:=S.sV v;refine vl ?_;(first|(refine sB S rfl rfl ?_;clear S;intro h S));refine qf ?_)
 all_goals (repeat' (first|refine qg ?_|(refine qc 2 ?_;refine lB S rfl rfl ?_;(first|(refine sB S rfl rfl ?_;clear S;intro h S));refine qf ?_)))
 refine qo ⟨_,JI S rfl (by first|exact .there .here) (by exact rfl) (by exact rfl),?_⟩;exact ⟨tv,rfl,S.only .here⟩
theorem qf2 {h0:AH} (w:WfH h0) (v:Value) (l:List Z5) (hr:zC h0 v 9 eG l) (ht:∀ i,i<l.length→zC h0 (l.getD i default).tv.val 1 eS (l.getD i default).tg∧(l.getD i default).tg.length≤8796093021952) (hl:l.length*112≤140737488351232):Fn Tryz.prog Xh 92 [v] h0 (fun u h'=>∃ (vg:SlV) (gs:List Z5),u=vg.val∧gs.map (·.toGu)=l.map (·.toGu)∧Hs h0 h' [tgO gs,.sl vg.val 45 9 eG gs]):=by
 have S:=Hs.start w;refine qL (by first|rfl) Tryz.func92 rfl rfl ?_;all_goals (repeat' (first|refine qg ?_|refine qj ?_|(refine qc 0 ?_;refine mv ?_;refine qf ?_)|(refine qc 1 ?_;refine mv ?_;refine qf ?_)|(refine qc 2 ?_;refine mv ?_;refine qf ?_)))
 have S:=((S.Xg (e:=45) (z:=9) (enc:=eG))).anyS (p:=fun h fp=>Star h (([]:List Z5).map qfy) fp) fun h'=>trivial;replace S:Hs h0 h0 [tgO [],.sl (SlV.val ⟨none,0,0⟩) 45 9 eG []]:=S;refine qH (σ:=Nat×SlV×List Z5) (fun (i,vg,gs) h'=>Hs h0 h' [tgO gs,.sl vg.val 45 9 eG gs]∧i≤l.length∧gs.map (·.toGu)=(l.take i).map (·.toGu)) (fun (i,vg,gs)=>l.length - i) (fun (i,vg,gs)=>[(0,v),(3,vg.val),(4,.int .i64 i)]) (0,⟨none,0,0⟩,[]) qx ?_ ?_
 ·exact ⟨S,zB0 _,rfl⟩
 clear S;rintro ⟨i,vg,gs⟩ h ⟨S,g1,g2⟩;have hgs:gs.length=i:=by have:=congrArg List.length g2;simp at this;omega
 all_goals (repeat' (first|refine qg ?_|refine qh rfl ?_|refine qi ?_|refine qC ?_|refine qj ?_|(refine qc 3 ?_;refine mv ?_;refine mv ?_;refine jf S ?_;(first|(refine cS ?_ ?_<;>intro hc))<;>(refine qf ?_))))
 ·have hil:i<l.length:=by omega
  all_goals (repeat' (first|(refine qc 5 ?_;(iterate 3 refine mv ?_);refine jF S ?_;refine jk S ?_)))
  simp only [zA0];(refine qw rfl rfl rfl rfl rfl ((qhI S.wf (l.getD i default) ((ht i hil).1.ext w S.ext) (ht i hil).2).mono ?_);rintro _ h ⟨tv,rfl,x⟩)<;>(replace S:=S.jm x;clear x;(refine one 9 S ?_;clear S;intro u h S))
  refine app (y0:={ l.getD i default with tv:=tv }) S rfl rfl ?_;clear S;intro v3 h S;obtain ⟨vg',rfl⟩:=S.sV v3;(refine mv ?_;refine qf ?_);all_goals (repeat' (first|(refine qc 4 ?_;refine mv ?_;refine ad ?_;refine mv ?_;refine qf ?_)))
  refine ⟨(i+1,vg',gs ++ [{ l.getD i default with tv:=tv }]),?_,?_,qx⟩
  ·show l.length - (i+1)<l.length - i;omega
  ·replace S:Hs h0 h (.sl vg'.val 45 9 eG (gs ++ [{ l.getD i default with tv:=tv }]) :: .sl tv.val 9 1 eS (l.getD i default).tg :: tgO gs :: []):=S;have S:=(show Hs h0 h (.sl tv.val 9 1 eS (l.getD i default).tg :: tgO gs :: .sl vg'.val 45 9 eG (gs ++ [{ l.getD i default with tv:=tv }]) :: []) from S.pick)
   refine ⟨Hs.qg1 (g:={ l.getD i default with tv:=tv }) S,by (try dsimp only);omega,?_⟩;dsimp only;rw [zM (by omega),zC9,zC9,g2];rfl
 ·obtain rfl:i=l.length:=by omega
  rw [zD4] at g2;all_goals (repeat' (first|(refine qc 6 ?_;refine mv ?_;refine mv ?_;refine qf ?_)))
  refine qo ⟨_,rfl,?_⟩;exact ⟨vg,gs,rfl,g2,S⟩
theorem qeN {h0:AH} (w:WfH h0) (v:Value) (l:List Int) (hr:zC h0 v 1 eI l) (hl:l.length*8≤140737488351232):Fn Tryz.prog Xh 94 [v] h0 (fun u h'=>Hs h0 h' [.sl u 3 1 eI l]):=by
 have S:=Hs.start w;refine qL (by first|rfl) Tryz.func94 rfl rfl ?_;all_goals (repeat' (first|refine qg ?_|refine qj ?_|(refine qc 0 ?_;refine mv ?_;refine qf ?_)|(refine qc 1 ?_;refine mv ?_;refine qf ?_)|(refine qc 2 ?_;refine mv ?_;refine qf ?_)))
 have S:=S.Xg (e:=3) (z:=1) (enc:=eI);refine qH (σ:=Nat×Value) (fun (i,v3) h'=>Hs h0 h' [.sl v3 3 1 eI (l.take i)]∧i≤l.length) (fun (i,v3)=>l.length - i) (fun (i,v3)=>[(0,v),(3,v3),(4,.int .i64 i)]) (0,.slice none 0 0) qx ?_ ?_
 ·exact ⟨S,zB0 _⟩
 clear S;rintro ⟨i,v3⟩ h ⟨S,g1⟩;have htl:(l.take i).length=i:=by simp;omega
 all_goals (repeat' (first|refine qg ?_|refine qh rfl ?_|refine qi ?_|refine qC ?_|refine qj ?_|(refine qc 3 ?_;refine mv ?_;refine mv ?_;refine jf S ?_;(first|(refine cS ?_ ?_<;>intro hc))<;>(refine qf ?_))))
 ·have hil:i<l.length:=by omega
  all_goals (repeat' (first|(refine qc 5 ?_;(iterate 3 refine mv ?_);refine jF S ?_;refine jk S ?_;(refine one 1 S ?_;clear S;intro u h S))))
  simp only [zA0] at *;refine app (y0:=l.getD i default) S rfl rfl ?_;clear S;intro v3 h S;(refine mv ?_;refine qf ?_);all_goals (repeat' (first|(refine qc 4 ?_;refine mv ?_;refine ad ?_;refine mv ?_;refine qf ?_)))
  refine ⟨(i+1,v3),?_,?_,qx⟩
  ·show l.length - (i+1)<l.length - i;omega
  ·refine ⟨?_,by (try dsimp only);omega⟩;dsimp only;rw [zM hil];exact S
 ·obtain rfl:i=l.length:=by omega
  rw [zD4] at S;all_goals (repeat' (first|(refine qc 6 ?_;refine mv ?_;refine mv ?_;refine qf ?_)))
  refine qo ⟨_,rfl,?_⟩;exact S
theorem qf1 {h0:AH} (w:WfH h0) (v:Value) (l:List Ru) (hr:zC h0 v 6 XR l) (hl:l.length*72≤140737488351232):Fn Tryz.prog Xh 95 [v] h0 (fun u h'=>Hs h0 h' [.sl u 158 6 XR l]):=by
 have S:=Hs.start w;refine qL (by first|rfl) Tryz.func95 rfl rfl ?_;all_goals (repeat' (first|refine qg ?_|refine qj ?_|(refine qc 0 ?_;refine mv ?_;refine qf ?_)|(refine qc 1 ?_;refine mv ?_;refine qf ?_)|(refine qc 2 ?_;refine mv ?_;refine qf ?_)))
 have S:=S.Xg (e:=158) (z:=6) (enc:=XR);refine qH (σ:=Nat×Value) (fun (i,v3) h'=>Hs h0 h' [.sl v3 158 6 XR (l.take i)]∧i≤l.length) (fun (i,v3)=>l.length - i) (fun (i,v3)=>[(0,v),(3,v3),(4,.int .i64 i)]) (0,.slice none 0 0) qx ?_ ?_
 ·exact ⟨S,zB0 _⟩
 clear S;rintro ⟨i,v3⟩ h ⟨S,g1⟩;have htl:(l.take i).length=i:=by simp;omega
 all_goals (repeat' (first|refine qg ?_|refine qh rfl ?_|refine qi ?_|refine qC ?_|refine qj ?_|(refine qc 3 ?_;refine mv ?_;refine mv ?_;refine jf S ?_;(first|(refine cS ?_ ?_<;>intro hc))<;>(refine qf ?_))))
 ·have hil:i<l.length:=by omega
  all_goals (repeat' (first|(refine qc 5 ?_;(iterate 3 refine mv ?_);refine jF S ?_;refine jk S ?_;(refine one 6 S ?_;clear S;intro u h S))))
  simp only [zA0] at *;refine app (y0:=l.getD i default) S rfl rfl ?_;clear S;intro v3 h S;(refine mv ?_;refine qf ?_);all_goals (repeat' (first|(refine qc 4 ?_;refine mv ?_;refine ad ?_;refine mv ?_;refine qf ?_)))
  refine ⟨(i+1,v3),?_,?_,qx⟩
  ·show l.length - (i+1)<l.length - i;omega
  ·refine ⟨?_,by (try dsimp only);omega⟩;dsimp only;rw [zM hil];exact S
 ·obtain rfl:i=l.length:=by omega
  rw [zD4] at S;all_goals (repeat' (first|(refine qc 6 ?_;refine mv ?_;refine mv ?_;refine qf ?_)))
  refine qo ⟨_,rfl,?_⟩;exact S
abbrev WJ (t:Tab):Rs:=.sl t.os.val 3 1 eI t.opn
theorem qf0 {h0:AH} (w:WfH h0) (t:Tab) (rd:zC h0 t.os.val 1 eI t.opn) (hl:t.opn.length*8≤140737488351232):Fn Tryz.prog Xh 154 [J8 t] h0 (fun u h'=>∃ os:SlV,u=J8 { t with os:=os }∧Hs h0 h' [.sl os.val 3 1 eI t.opn]):=by
 have S:=Hs.start w;obtain ⟨n1,n2,n3,n4,n5,n6,n7,n8⟩:=t;dsimp only at *;refine qL (by first|rfl) Tryz.func154 rfl rfl ?_;all_goals (repeat' (first|refine qg ?_|(refine qc 0 ?_;(refine bx S ?_;clear S;intro b h S);(refine al S ?_;clear S;intro b h S);refine qf ?_)))
 obtain ⟨b1,hnm⟩:∃ x,x=b:=⟨_,rfl⟩;subst hnm;all_goals (repeat' (first|(refine qc 1 ?_;refine vl ?_;refine lB S rfl rfl ?_)))
 (refine qw rfl rfl rfl rfl rfl ((qeN S.wf n5.val n6 (rd.ext w S.ext) hl).mono ?_);rintro v h x)<;>(replace S:=S.jm x;clear x;obtain ⟨os,rfl⟩:=S.sV v;refine vl ?_;(first|(refine sB S rfl rfl ?_;clear S;intro h S));refine qf ?_)
 all_goals (repeat' (first|refine qg ?_|(refine qc 2 ?_;refine lB S rfl rfl ?_;(first|(refine sB S rfl rfl ?_;clear S;intro h S));refine qf ?_)))
 refine qo ⟨_,JI S rfl (by first|exact .there .here) (by exact rfl) (by exact rfl),?_⟩;exact ⟨os,rfl,S.only .here⟩
theorem qeM {h0:AH} (w:WfH h0) (v:Value) (l:List Tab) (hr:zC h0 v 7 eT l) (ht:∀ i,i<l.length→zC h0 (l.getD i default).os.val 1 eI (l.getD i default).opn∧(l.getD i default).opn.length*8≤140737488351232) (hl:l.length*80≤140737488351232) :
 Fn Tryz.prog Xh 91 [v] h0 (fun u h'=>∃ (vt:SlV) (ts:List Tab),u=vt.val∧ts.map (·.toC)=l.map (·.toC)∧Hs h0 h' [xZ WJ ts,.sl vt.val 93 7 eT ts]):=by
 have S:=Hs.start w;refine qL (by first|rfl) Tryz.func91 rfl rfl ?_;all_goals (repeat' (first|refine qg ?_|refine qj ?_|(refine qc 0 ?_;refine mv ?_;refine qf ?_)|(refine qc 1 ?_;refine mv ?_;refine qf ?_)|(refine qc 2 ?_;refine mv ?_;refine qf ?_)))
 have S:=((S.Xg (e:=93) (z:=7) (enc:=eT))).qiG (f:=WJ);replace S:Hs h0 h0 [xZ WJ [],.sl (SlV.val ⟨none,0,0⟩) 93 7 eT []]:=S;refine qH (σ:=Nat×SlV×List Tab) (fun (i,vt,ts) h'=>Hs h0 h' [xZ WJ ts,.sl vt.val 93 7 eT ts]∧i≤l.length∧ts.map (·.toC)=(l.take i).map (·.toC)) (fun (i,vt,ts)=>l.length - i) (fun (i,vt,ts)=>[(0,v),(3,vt.val),(4,.int .i64 i)]) (0,⟨none,0,0⟩,[]) qx ?_ ?_
 ·exact ⟨S,zB0 _,rfl⟩
 clear S;rintro ⟨i,vt,ts⟩ h ⟨S,g1,g2⟩;have hgs:ts.length=i:=by have:=congrArg List.length g2;simp at this;omega
 all_goals (repeat' (first|refine qg ?_|refine qh rfl ?_|refine qi ?_|refine qC ?_|refine qj ?_|(refine qc 3 ?_;refine mv ?_;refine mv ?_;refine jf S ?_;(first|(refine cS ?_ ?_<;>intro hc))<;>(refine qf ?_))))
 ·have hil:i<l.length:=by omega
  all_goals (repeat' (first|(refine qc 5 ?_;(iterate 3 refine mv ?_);refine jF S ?_;refine jk S ?_)))
  simp only [zA0];(refine qw rfl rfl rfl rfl rfl ((qf0 S.wf (l.getD i default) ((ht i hil).1.ext w S.ext) (ht i hil).2).mono ?_);rintro _ h ⟨os,rfl,x⟩)<;>(replace S:=S.jm x;clear x;(refine one 7 S ?_;clear S;intro u h S))
  refine app (y0:={ l.getD i default with os:=os }) S rfl rfl ?_;clear S;intro v3 h S;obtain ⟨vt',rfl⟩:=S.sV v3;(refine mv ?_;refine qf ?_);all_goals (repeat' (first|(refine qc 4 ?_;refine mv ?_;refine ad ?_;refine mv ?_;refine qf ?_)))
  refine ⟨(i+1,vt',ts ++ [{ l.getD i default with os:=os }]),?_,?_,qx⟩
  ·show l.length - (i+1)<l.length - i;omega
  ·replace S:Hs h0 h (.sl vt'.val 93 7 eT (ts ++ [{ l.getD i default with os:=os }]) :: .sl os.val 3 1 eI (l.getD i default).opn :: xZ WJ ts :: []):=S;have S:=(show Hs h0 h (.sl os.val 3 1 eI (l.getD i default).opn :: xZ WJ ts :: .sl vt'.val 93 7 eT (ts ++ [{ l.getD i default with os:=os }]) :: []) from S.pick)
   refine ⟨Hs.qiH (f:=WJ) (g:={ l.getD i default with os:=os }) S,by (try dsimp only);omega,?_⟩;dsimp only;rw [zM (by omega),zC9,zC9,g2];rfl
 ·obtain rfl:i=l.length:=by omega
  rw [zD4] at g2;all_goals (repeat' (first|(refine qc 6 ?_;refine mv ?_;refine mv ?_;refine qf ?_)))
  refine qo ⟨_,rfl,?_⟩;exact ⟨vt,ts,rfl,g2,S⟩
end Go.Proofs.Xx
namespace Go.Proofs.Xx
open Go Go.Proofs
variable [Flag]
theorem Wl {h0:AH} (w:WfH h0) (v u:Value) (l m:List Int) (rv:zC h0 v 1 eI l) (ru:zC h0 u 1 eI m) (hl:l.length≤9223372036854775807) (hm:m.length≤9223372036854775807):Fn Tryz.prog Xh 108 [v,u] h0 (fun x h'=>qZ x (l=m)∧Hs h0 h' []):=by
 have S:=Hs.start w;refine qL (by first|rfl) Tryz.func108 rfl rfl ?_;all_goals (repeat' (first|refine qg ?_|refine qh rfl ?_|refine qi ?_|refine qj ?_|(refine qc 0 ?_;refine mv ?_;refine qf ?_)|(refine qc 1 ?_;refine mv ?_;refine jf S ?_;refine mv ?_;refine jf S ?_;(first|(refine cS ?_ ?_<;>intro hc))<;>(refine qf ?_))|(refine qc 2 ?_;refine mv ?_;refine qf ?_)|(refine qc 3 ?_;refine mv ?_;refine qf ?_)))
 ·refine qo ⟨_,rfl,?_⟩;exact ⟨.inr ⟨rfl,fun q=>by subst q;omega⟩,S⟩
 ·refine qH (σ:=Nat) (fun i h'=>Hs h0 h' []∧i≤l.length∧∀ j,j<i→l.getD j default=m.getD j default) (fun i=>l.length - i) (fun i=>[(0,v),(1,u),(5,.int .i64 i)]) 0 qx ?_ ?_
  ·exact ⟨S,zB0 _,fun j hj=>absurd hj (zB7 _)⟩
  clear S;rintro i h ⟨S,g1,g2⟩;all_goals (repeat' (first|refine qg ?_|refine qh rfl ?_|refine qi ?_|refine qC ?_|refine qj ?_|(refine qc 4 ?_;refine mv ?_;refine mv ?_;refine jf S ?_;(first|(refine cS ?_ ?_<;>intro hc))<;>(refine qf ?_))|(refine qc 5 ?_;refine mv ?_;refine ad ?_;refine mv ?_;refine qf ?_)|(refine qM 6 ?_;refine mv ?_;refine mv ?_;refine jF S ?_;refine jk S ?_;refine mv ?_;refine mv ?_;refine jF S ?_;refine jk S ?_;(first|(refine cS ?_ ?_<;>intro hc))<;>(refine qf ?_))|(refine qc 7 ?_;refine mv ?_;refine qf ?_)|(refine qc 8 ?_;refine mv ?_;refine qf ?_)))
  all_goals (try simp only [zA0] at *)
  ·refine qo ⟨_,rfl,?_⟩;exact ⟨.inr ⟨rfl,fun q=>by subst q;exact hc rfl⟩,S⟩
  ·refine ⟨i+1,?_,?_,qx⟩
   ·show l.length - (i+1)<l.length - i;omega
   ·exact ⟨S,by omega,Qj g2 (by omega)⟩
  ·refine qo ⟨_,rfl,?_⟩;exact ⟨.inl ⟨rfl,Yf (by omega) fun j hj=>g2 j (by omega)⟩,S⟩
theorem qiy (a b:Ru):(a.k == b.k && (a.w == b.w && (zA ⟨a.a.toArray⟩ ⟨b.a.toArray⟩ && (zA ⟨a.b.toArray⟩ ⟨b.b.toArray⟩ && (zA ⟨a.t.toArray⟩ ⟨b.t.toArray⟩ && (a.n == b.n && true))))))=true↔a=b:=by
 rw [jP,jP,jP];cases a;cases b
 simp
theorem Kt {h0:AH} (w:WfH h0) (v u:Value) (l m:List Ru) (rv:zC h0 v 6 XR l) (ru:zC h0 u 6 XR m) (hl:l.length≤9223372036854775807) (hm:m.length≤9223372036854775807):Fn Tryz.prog Xh 160 [v,u] h0 (fun x h'=>qZ x (l=m)∧Hs h0 h' []):=by
 have S:=Hs.start w;refine qL (by first|rfl) Tryz.func160 rfl rfl ?_;all_goals (repeat' (first|refine qg ?_|refine qh rfl ?_|refine qi ?_|refine qj ?_|(refine qc 0 ?_;refine mv ?_;refine qf ?_)|(refine qc 1 ?_;refine mv ?_;refine jf S ?_;refine mv ?_;refine jf S ?_;(first|(refine cS ?_ ?_<;>intro hc))<;>(refine qf ?_))|(refine qc 2 ?_;refine mv ?_;refine qf ?_)|(refine qc 3 ?_;refine mv ?_;refine qf ?_)))
 ·refine qo ⟨_,rfl,?_⟩;exact ⟨.inr ⟨rfl,fun q=>by subst q;exact hc rfl⟩,S⟩
 ·refine qH (σ:=Nat) (fun i h'=>Hs h0 h' []∧i≤l.length∧∀ j,j<i→l.getD j default=m.getD j default) (fun i=>l.length - i) (fun i=>[(0,v),(1,u),(5,.int .i64 i)]) 0 qx ?_ ?_
  ·exact ⟨S,zB0 _,fun j hj=>absurd hj (zB7 _)⟩
  clear S;rintro i h ⟨S,g1,g2⟩;all_goals (repeat' (first|refine qg ?_|refine qh rfl ?_|refine qi ?_|refine qC ?_|refine qj ?_|(refine qc 4 ?_;refine mv ?_;refine mv ?_;refine jf S ?_;(first|(refine cS ?_ ?_<;>intro hc))<;>(refine qf ?_))|(refine qc 5 ?_;refine mv ?_;refine ad ?_;refine mv ?_;refine qf ?_)|(refine qM 6 ?_;refine mv ?_;refine mv ?_;refine jF S ?_;refine jk S ?_;refine mv ?_;refine mv ?_;refine jF S ?_;refine jk S ?_;(refine gE ?_ ?_<;>intro hc)<;>(refine qf ?_))|(refine qc 7 ?_;refine mv ?_;refine qf ?_)|(refine qc 8 ?_;refine mv ?_;refine qf ?_)))
  all_goals (try simp only [zA0] at *)
  ·refine ⟨i+1,?_,?_,qx⟩
   ·show l.length - (i+1)<l.length - i;omega
   ·exact ⟨S,by omega,Qj g2 ((qiy _ _).1 hc)⟩
  ·refine qo ⟨_,rfl,?_⟩;exact ⟨.inr ⟨rfl,fun q=>by subst q;rw [(qiy _ _).2 rfl] at hc;cases hc⟩,S⟩
  ·refine qo ⟨_,rfl,?_⟩;exact ⟨.inl ⟨rfl,Yf (by omega) fun j hj=>g2 j (by omega)⟩,S⟩
theorem qcu {h0:AH} (w:WfH h0) (g k:Tab) (rg:zC h0 g.os.val 1 eI g.opn) (rk:zC h0 k.os.val 1 eI k.opn) (hg:g.opn.length≤9223372036854775807) (hk:k.opn.length≤9223372036854775807):Fn Tryz.prog Xh 236 [J8 g,J8 k] h0 (fun x h'=>qZ x (g.toC=k.toC)∧Hs h0 h' []):=by
 have S:=Hs.start w;obtain ⟨n1,n2,n3,n4,n5,n6,n7,n8⟩:=g;obtain ⟨m1,m2,m3,m4,m5,m6,m7,m8⟩:=k;dsimp only at *;refine qL (by first|rfl) Tryz.func236 rfl rfl ?_;all_goals (repeat' (first|refine qg ?_|(refine qc 0 ?_;(refine bx S ?_;clear S;intro b h S);(refine bx S ?_;clear S;intro b h S);refine mv ?_;refine qf ?_)|(refine qc 1 ?_;refine vl ?_;refine lB S rfl rfl ?_;refine vl ?_;refine lB S rfl rfl ?_;(refine tS ?_ ?_<;>intro hc)<;>(refine mv ?_;(first|refine off ?_|(refine vl ?_));(first|refine off ?_|(refine lB S rfl rfl ?_));(first|refine off ?_|(refine vl ?_));(first|refine off ?_|(refine lB S rfl rfl ?_));(first|refine off ?_|(first|(refine cS ?_ ?_<;>intro hc)))<;>(refine vl ?_;refine mv ?_;(first|refine off ?_|(refine vl ?_));(first|refine off ?_|(refine lB S rfl rfl ?_));(first|refine off ?_|(refine vl ?_));(first|refine off ?_|(refine lB S rfl rfl ?_));(first|refine off ?_|(first|(refine cS ?_ ?_<;>intro hc)))<;>(refine vl ?_;refine mv ?_;(first|refine off ?_|(refine vl ?_));(first|refine off ?_|(refine lB S rfl rfl ?_));(first|refine off ?_|(refine vl ?_));(first|refine off ?_|(refine lB S rfl rfl ?_));(first|refine off ?_|(first|(refine cS ?_ ?_<;>intro hc)))<;>(refine vl ?_;refine mv ?_;(first|refine off ?_|(refine vl ?_));(first|refine off ?_|(refine lB S rfl rfl ?_));(first|refine off ?_|(refine vl ?_));(first|refine off ?_|(refine lB S rfl rfl ?_));(first|refine off ?_|(first|(refine cS ?_ ?_<;>intro hc)))<;>(refine vl ?_;refine mv ?_;(first|refine off ?_|(refine vl ?_));(first|refine off ?_|(refine lB S rfl rfl ?_));(first|refine off ?_|(refine vl ?_));(first|refine off ?_|(refine lB S rfl rfl ?_));(first|refine off ?_|(first|(refine cS ?_ ?_<;>intro hc)))<;>(refine vl ?_;refine mv ?_;(first|refine off ?_|(refine vl ?_));(first|refine off ?_|(refine lB S rfl rfl ?_));(first|refine off ?_|(refine vl ?_));(first|refine off ?_|(refine lB S rfl rfl ?_));(first|(refine off ?_;refine vl ?_;refine mv ?_;refine qf ?_)|skip))))))))))
 ·(refine qw rfl rfl rfl rfl rfl ((Wl S.wf n5.val m5.val n6 m6 (rg.ext w S.ext) (rk.ext w S.ext) hg hk).mono ?_);rintro _ h ⟨⟨rfl,z⟩|⟨rfl,z⟩,x⟩)<;>(replace S:=S.qE x;clear x;refine vl ?_;refine mv ?_;refine qf ?_)
  ·all_goals (repeat' (fail))
   refine qo ⟨_,rfl,?_⟩;refine ⟨.inl ⟨rfl,?_⟩,S.drop⟩;simp only [TabC.mk.injEq];exact ⟨by assumption,by assumption,by assumption,by assumption,z,by assumption,by assumption⟩
  ·all_goals (repeat' (fail))
   refine qo ⟨_,rfl,?_⟩;refine ⟨.inr ⟨rfl,fun q=>?_⟩,S.drop⟩;simp only [TabC.mk.injEq] at q;exact z q.2.2.2.2.1
 all_goals
  refine qo ⟨_,rfl,?_⟩;refine ⟨.inr ⟨rfl,fun q=>?_⟩,S.drop⟩;simp only [TabC.mk.injEq] at q;exact absurd (by first|exact q.1|exact q.2.1|exact q.2.2.1|exact q.2.2.2.1|exact q.2.2.2.2.2.1|exact q.2.2.2.2.2.2) hc
theorem qaK {h0:AH} (w:WfH h0) (v u:Value) (gs ks:List Tab) (rv:zC h0 v 7 eT gs) (ru:zC h0 u 7 eT ks) (tv:∀ i,i<gs.length→zC h0 (gs.getD i default).os.val 1 eI (gs.getD i default).opn∧(gs.getD i default).opn.length≤9223372036854775807) (tu:∀ i,i<ks.length→zC h0 (ks.getD i default).os.val 1 eI (ks.getD i default).opn∧(ks.getD i default).opn.length≤9223372036854775807) (hl:gs.length≤9223372036854775807) (hm:ks.length≤9223372036854775807) :
 Fn Tryz.prog Xh 157 [v,u] h0 (fun x h'=>qZ x (gs.map (·.toC)=ks.map (·.toC))∧Hs h0 h' []):=by
 have S:=Hs.start w;refine qL (by first|rfl) Tryz.func157 rfl rfl ?_;all_goals (repeat' (first|refine qg ?_|refine qh rfl ?_|refine qi ?_|refine qj ?_|(refine qc 0 ?_;refine mv ?_;refine qf ?_)|(refine qc 1 ?_;refine mv ?_;refine jf S ?_;refine mv ?_;refine jf S ?_;(first|(refine cS ?_ ?_<;>intro hc))<;>(refine qf ?_))|(refine qc 2 ?_;refine mv ?_;refine qf ?_)|(refine qc 3 ?_;refine mv ?_;refine qf ?_)))
 ·refine qo ⟨_,rfl,?_⟩;exact ⟨.inr ⟨rfl,fun q=>by have:=congrArg List.length q;simp at this;omega⟩,S⟩
 ·refine qH (σ:=Nat) (fun i h'=>Hs h0 h' []∧i≤gs.length∧∀ j,j<i→(gs.getD j default).toC=(ks.getD j default).toC) (fun i=>gs.length - i) (fun i=>[(0,v),(1,u),(5,.int .i64 i)]) 0 qx ?_ ?_
  ·exact ⟨S,zB0 _,fun j hj=>absurd hj (zB7 _)⟩
  clear S;rintro i h ⟨S,g1,g2⟩;all_goals (repeat' (first|refine qg ?_|refine qh rfl ?_|refine qi ?_|refine qC ?_|refine qj ?_|(refine qc 4 ?_;refine mv ?_;refine mv ?_;refine jf S ?_;(first|(refine cS ?_ ?_<;>intro hc))<;>(refine qf ?_))|(refine qc 8 ?_;refine mv ?_;refine qf ?_)))
  ·have e1:=tv i (by omega);have e2:=tu i (by omega);all_goals (repeat' (first|(refine qM 6 ?_;refine mv ?_;refine mv ?_;refine jF S ?_;refine jk S ?_;refine mv ?_;refine mv ?_;refine jF S ?_;refine jk S ?_)))
   simp only [zA0];(refine qw rfl rfl rfl rfl rfl ((qcu S.wf (gs.getD i default) (ks.getD i default) (e1.1.ext w S.ext) (e2.1.ext w S.ext) e1.2 e2.2).mono ?_);rintro _ h ⟨⟨rfl,z⟩|⟨rfl,z⟩,x⟩)<;>(replace S:=S.qE x;clear x;refine vl ?_;refine qf ?_)
   ·all_goals (repeat' (first|refine qh rfl ?_|refine qi ?_|(refine qc 5 ?_;refine mv ?_;refine ad ?_;refine mv ?_;refine qf ?_)))
    refine ⟨i+1,?_,?_,qx⟩
    ·show gs.length - (i+1)<gs.length - i;omega
    ·exact ⟨S,by omega,Qj g2 z⟩
   ·all_goals (repeat' (first|refine qg ?_|refine qh rfl ?_|(refine qc 7 ?_;refine mv ?_;refine qf ?_)))
    refine qo ⟨_,rfl,?_⟩;refine ⟨.inr ⟨rfl,fun q=>z ?_⟩,S⟩;rw [← jc (f:=fun g:Tab=>g.toC) (show i<gs.length by omega),← jc (f:=fun g:Tab=>g.toC) (show i<ks.length by omega),q]
  ·refine qo ⟨_,rfl,?_⟩;refine ⟨.inl ⟨rfl,Yf (by simp;omega) fun j hj=>?_⟩,S⟩;simp at hj;rw [jc (by omega),jc (by omega)];exact g2 j (by omega)
end Go.Proofs.Xx
namespace Go.Proofs.Xx
open Go Go.Proofs
def qk0 (L:List Int→Int) (n m k:Nat):qao:=((List.range k).map fun i=>nI (qjl n m i)).foldl (qgZ L) ([],-1)
variable [Flag]
end Go.Proofs.Xx
namespace Go.Proofs.Xx
open Go Go.Proofs
variable [Flag]
theorem X9 {h0:AH} (w:WfH h0) (k:Int):Fn Tryz.prog Xh 312 [.int .u8 k] h0 (fun v h'=>qZ v (1≤k∧k≤5)∧Hs h0 h' []):=by
 have S:=Hs.start w;refine qL (by first|rfl) Tryz.func312 rfl rfl ?_;all_goals (repeat' (first|refine qg ?_|(refine qc 0 ?_;refine mv ?_;refine qf ?_)|(refine qc 1 ?_;refine mv ?_;(first|(refine cS ?_ ?_<;>intro hc))<;>(refine mv ?_;(first|refine off ?_|refine mv ?_);(first|refine off ?_|(first|(refine cS ?_ ?_<;>intro hc)))<;>(refine vl ?_;refine mv ?_;(first|refine off ?_|refine mv ?_);(first|refine off ?_|(first|(refine cS ?_ ?_<;>intro hc)))<;>(refine vl ?_;refine mv ?_;(first|refine off ?_|refine mv ?_);(first|refine off ?_|(first|(refine cS ?_ ?_<;>intro hc)))<;>(refine vl ?_;refine mv ?_;(first|refine off ?_|refine mv ?_);(first|refine off ?_|(first|(refine cS ?_ ?_<;>intro hc)))<;>(refine vl ?_;refine mv ?_;refine qf ?_))))))))
 all_goals (refine qo ⟨_,rfl,?_⟩)
 all_goals (refine ⟨?_,S⟩;unfold qZ)
 all_goals first|exact .inl ⟨rfl,by omega⟩|exact .inr ⟨rfl,by omega⟩
theorem qbH {h0:AH} (w:WfH h0) (k:Int):Fn Tryz.prog Xh 313 [.int .u8 k] h0 (fun v h'=>qZ v (k=6∨k=7∨k=10)∧Hs h0 h' []):=by
 have S:=Hs.start w;refine qL (by first|rfl) Tryz.func313 rfl rfl ?_;all_goals (repeat' (first|refine qg ?_|(refine qc 0 ?_;refine mv ?_;refine qf ?_)|(refine qc 1 ?_;refine mv ?_;(first|(refine cS ?_ ?_<;>intro hc))<;>(refine mv ?_;(first|refine off ?_|refine mv ?_);(first|refine off ?_|(first|(refine cS ?_ ?_<;>intro hc)))<;>(refine vl ?_;refine mv ?_;(first|refine off ?_|refine mv ?_);(first|refine off ?_|(first|(refine cS ?_ ?_<;>intro hc)))<;>(refine vl ?_;refine mv ?_;refine qf ?_))))))
 all_goals (refine qo ⟨_,rfl,?_⟩)
 all_goals (refine ⟨?_,S⟩;unfold qZ)
 all_goals first|exact .inl ⟨rfl,by omega⟩|exact .inr ⟨rfl,by omega⟩
theorem xP {h0:AH} (w:WfH h0) (k:Int):Fn Tryz.prog Xh 315 [.int .u8 k] h0 (fun v h'=>qZ v (k=1∨k=4∨k=7∨k=15∨k=16)∧Hs h0 h' []):=by
 have S:=Hs.start w;refine qL (by first|rfl) Tryz.func315 rfl rfl ?_;all_goals (repeat' (first|refine qg ?_|(refine qc 0 ?_;refine mv ?_;refine qf ?_)|(refine qc 1 ?_;refine mv ?_;(first|(refine cS ?_ ?_<;>intro hc))<;>(refine mv ?_;(first|refine off ?_|refine mv ?_);(first|refine off ?_|(first|(refine cS ?_ ?_<;>intro hc)))<;>(refine vl ?_;refine mv ?_;(first|refine off ?_|refine mv ?_);(first|refine off ?_|(first|(refine cS ?_ ?_<;>intro hc)))<;>(refine vl ?_;refine mv ?_;(first|refine off ?_|refine mv ?_);(first|refine off ?_|(first|(refine cS ?_ ?_<;>intro hc)))<;>(refine vl ?_;refine mv ?_;(first|refine off ?_|refine mv ?_);(first|refine off ?_|(first|(refine cS ?_ ?_<;>intro hc)))<;>(refine vl ?_;refine mv ?_;refine qf ?_))))))))
 all_goals (refine qo ⟨_,rfl,?_⟩)
 all_goals (refine ⟨?_,S⟩;unfold qZ)
 all_goals first|exact .inl ⟨rfl,by omega⟩|exact .inr ⟨rfl,by omega⟩
theorem YG {h0:AH} (w:WfH h0) (k:Int):Fn Tryz.prog Xh 314 [.int .u8 k] h0 (fun v h'=>∃ n:Int,v = .int .i64 n∧((((1≤k∧k≤5)∨k=10)∧n=0)∨((k=6∨k=7∨k=17)∧n=1)∨(¬ (1≤k∧k≤7)∧k≠10∧k≠17∧n=2))∧Hs h0 h' []):=by
 have S:=Hs.start w;refine qL (by first|rfl) Tryz.func314 rfl rfl ?_;all_goals (repeat' (first|refine qg ?_|(refine qc 0 ?_;refine mv ?_;refine qf ?_)|(refine qc 1 ?_;refine mv ?_)))
 (refine qw rfl rfl rfl rfl rfl ((X9 S.wf k).mono ?_);rintro _ h ⟨⟨rfl,z⟩|⟨rfl,z⟩,x⟩)<;>(replace S:=S.qE x;clear x;refine mv ?_;(first|refine off ?_|refine mv ?_);(first|refine off ?_|(first|(refine cS ?_ ?_<;>intro hc)))<;>(refine vl ?_;refine qf ?_))
 all_goals (repeat' (first|refine qg ?_|refine qh rfl ?_|refine qi ?_|(refine qc 2 ?_;refine mv ?_;refine qf ?_)|(refine qc 3 ?_;refine mv ?_;(first|(refine cS ?_ ?_<;>intro hc))<;>(refine mv ?_;(first|refine off ?_|refine mv ?_);(first|refine off ?_|(first|(refine cS ?_ ?_<;>intro hc)))<;>(refine vl ?_;refine mv ?_;(first|refine off ?_|refine mv ?_);(first|refine off ?_|(first|(refine cS ?_ ?_<;>intro hc)))<;>(refine vl ?_;refine qf ?_))))|(refine qc 4 ?_;refine mv ?_;refine qf ?_)|(refine qc 5 ?_;refine mv ?_;refine qf ?_)))
 all_goals (refine qo ⟨_,rfl,?_⟩)
 all_goals refine ⟨_,rfl,?_,S⟩
 all_goals omega
theorem pX {h0:AH} (w:WfH h0) (v:Value) (l:List Tab) (hr:zC h0 v 7 eT l) (hl:l.length≤9223372036854775807) (n:List UInt8):Fn Tryz.prog Xh 318 [v,str n] h0 (fun u h'=>((u = .int .i64 (tix l n)∧Jw l n)∨(u = .int .i64 (-1)∧¬ Jw l n))∧Hs h0 h' []):=by
 have S:=Hs.start w;refine qL (by first|rfl) Tryz.func318 rfl rfl ?_;all_goals (repeat' (first|refine qg ?_|refine qj ?_|(refine qc 0 ?_;refine mv ?_;refine qf ?_)|(refine qc 1 ?_;refine mv ?_;refine qf ?_)))
 refine qH (σ:=Nat) (fun i h'=>Hs h0 h' []∧i≤l.length∧∀ j,j<i→¬ (tb l j).name=n) (fun i=>l.length - i) (fun i=>[(0,v),(1,str n),(5,.int .i64 i)]) 0 qx ?_ ?_
 ·exact ⟨S,zB0 _,fun j hj=>absurd hj (zB7 _)⟩
 clear S;rintro i h ⟨S,g1,g2⟩;all_goals (repeat' (first|refine qg ?_|refine qh rfl ?_|refine qi ?_|refine qC ?_|refine qj ?_|(refine qc 2 ?_;refine mv ?_;refine mv ?_;refine jf S ?_;(first|(refine cS ?_ ?_<;>intro hc))<;>(refine qf ?_))|(refine qc 3 ?_;refine mv ?_;refine ad ?_;refine mv ?_;refine qf ?_)|(refine qc 4 ?_;refine mv ?_;refine mv ?_;refine jF S ?_;refine fB S ?_;refine jk S ?_;refine mv ?_;(refine tS ?_ ?_<;>intro hc)<;>(refine qf ?_))|(refine qc 5 ?_;refine mv ?_;refine mv ?_;refine qf ?_)|(refine qc 6 ?_;refine mv ?_;refine qf ?_)))
 all_goals (try simp only [zA0] at *)
 ·refine qo ⟨_,rfl,?_⟩;have hi:i<l.length:=by omega
  exact ⟨.inl ⟨by rw [gm hi hc g2];rfl,i,hi,hc⟩,S⟩
 ·refine ⟨i+1,?_,?_,qx⟩
  ·show l.length - (i+1)<l.length - i;omega
  ·refine ⟨S,by omega,fun j hj=>?_⟩;rcases zA7 j i with q|q
   ·exact g2 j q
   ·obtain rfl:j=i:=by omega
    exact hc
 ·refine qo ⟨_,rfl,?_⟩;exact ⟨.inr ⟨rfl,fun ⟨j,hj,he⟩=>g2 j (by omega) he⟩,S⟩
end Go.Proofs.Xx
