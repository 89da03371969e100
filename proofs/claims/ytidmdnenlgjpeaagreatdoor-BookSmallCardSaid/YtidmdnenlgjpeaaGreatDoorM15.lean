/-
  The reference's circles: plain part.
-/
import Derived.Test.YtidmdnenlgjpeaaGreatDoorM12
import Derived.Test.YtidmdnenlgjpeaaGreatDoorM14
import Derived.Test.YtidmdnenlgjpeaaGreatDoorM13
set_option linter.unusedSimpArgs false
set_option linter.unusedVariables false
set_option linter.unusedSectionVars false
set_option maxRecDepth 100000
set_option maxHeartbeats 4000000
namespace Go.Proofs.Xx
open Go Go.Proofs
def lst (ns:List (List UInt8)) (P:List Nat):List (List UInt8):=P.map fun p=>ns.getD p default
theorem Yv {ns:List (List UInt8)} {P:List Nat} {i:Nat} (h:i<P.length):(lst ns P).getD i default=ns.getD (P.getD i default) default:=zx (f:=fun p=>ns.getD p default) h
theorem qcj {ns:List (List UInt8)} {P:List Nat} {i k:Nat} (h:k<P.length):(lst ns P).set i ((lst ns P).getD k default)=lst ns (P.set i (P.getD k default)):=by
 rw [Yv h];unfold lst;rw [List.map_set]
theorem SS.lt_iff {l:List (List UInt8)} (h:SS l) {i j:Nat} (hi:i<l.length) (hj:j<l.length):zB (l.getD i default) (l.getD j default)↔i<j:=by
 constructor
 ·intro q;rcases zA7 i j with z|z
  ·exact z
  ·exact absurd q (h.le z hi)
 ·exact fun q=>h i j q hj
theorem SS.inj {l:List (List UInt8)} (h:SS l) {i j:Nat} (hi:i<l.length) (hj:j<l.length) (e:l.getD i default=l.getD j default):i=j:=by
 rcases zE7 i j with q|q|q
 ·exact absurd e (Yt h.nodup q hj)
 ·exact q
 ·exact absurd e.symm (Yt h.nodup q hi)
structure LI (r:Rl) (ns:List (List UInt8)) (P:List Nat):Prop where
 len:P.length=ns.length
 le:∀ i,i<P.length→P.getD i default≤i
 rc:∀ i,i<P.length→Rch r 1 (ns.getD i default) (ns.getD (P.getD i default) default)
def LC (r:Rl) (ns:List (List UInt8)) (P:List Nat):Prop:=∀ i k,i<ns.length→k<ns.length→adj r 1 (ns.getD i default) (ns.getD k default)→P.getD i default≤P.getD k default
theorem LI.set {r:Rl} {ns:List (List UInt8)} {P:List Nat} (I:LI r ns P) {i k:Nat} (hi:i<P.length) (hk:k<P.length) (h:P.getD k default<P.getD i default) (a:adj r 1 (ns.getD i default) (ns.getD k default)):LI r ns (P.set i (P.getD k default)):=by
 have hg:∀ j,(P.set i (P.getD k default)).getD j default=if j=i then P.getD k default else P.getD j default:=fun j=>Qh _ _ hi j
 refine ⟨by simp;exact I.len,fun j hj=>?_,fun j hj=>?_⟩
 ·simp at hj;rw [hg];split
  ·rename_i e
   have:=I.le i hi;omega
  ·exact I.le j hj
 ·simp at hj;rw [hg];split
  ·rename_i e
   rw [e];exact (Rch.step .refl a).trans (I.rc k hk)
  ·exact I.rc j hj
theorem Wj:∀ {l:List Nat} {i x:Nat},i<l.length→x<l.getD i default→(l.set i x).sum<l.sum
 | a :: l,0,x,h,hx=>by
  have hx:x<a:=hx;simp;omega
 | a :: l,i+1,x,h,hx=>by
  have:=Wj (l:=l) (i:=i) (x:=x) (by simp at h;exact h) hx;simp;exact this
theorem LI.comp {r:Rl} (H:RO r) {ns:List (List UInt8)} {P:List Nat} (I:LI r ns P) (C:LC r ns P) (hns:∀ x,gat r.us x≠none→x∈ns) {i:Nat} (hi:i<ns.length) {x:List UInt8} (h:Rch r 1 (ns.getD i default) x):∃ k,k<ns.length∧ns.getD k default=x∧P.getD k default=P.getD i default:=by
 induction h with
 | refl=>exact ⟨i,hi,rfl,rfl⟩
 | step h a ih =>
  obtain ⟨k,k1,k2,k3⟩:=ih;obtain ⟨m,m1,m2⟩:=qQ.1 (hns _ (Qy H a).2.1);rw [← k2,← m2] at a;have h1:=C k m k1 m1 a;have h2:=C m k m1 k1 a.symm;exact ⟨m,m1,m2,by omega⟩
theorem LI.fix {r:Rl} (H:RO r) {ns:List (List UInt8)} {P:List Nat} (I:LI r ns P) (C:LC r ns P) (hs:SS ns) (hns:∀ x,gat r.us x≠none→x∈ns) {i:Nat} (hi:i<ns.length):P.getD (P.getD i default) default=P.getD i default:=by
 have h1:=I.le i (by rw [I.len];exact hi);obtain ⟨k,k1,k2,k3⟩:=I.comp H C hns hi (I.rc i (by rw [I.len];exact hi));have:=hs.inj k1 (by omega) k2;rw [this] at k3;exact k3
def ZH (ns:List (List UInt8)) (P:List Nat) (i n:Nat):List (List UInt8):=((List.range n).filter fun k=>decide (P.getD k default=i)).map fun k=>ns.getD k default
theorem qay (ns:List (List UInt8)) (P:List Nat) (i n:Nat):ZH ns P i (n+1)=ZH ns P i n ++ if P.getD n default=i then [ns.getD n default] else []:=by
 unfold ZH;rw [List.range_succ,zD1,zC9];congr 1
 rw [zD8,List.filter_nil];by_cases h:P.getD n default=i
 ·rw [if_pos (decide_eq_true h),if_pos h];rfl
 ·rw [if_neg (by rw [decide_eq_false h];decide),if_neg h];rfl
theorem Xc {ns:List (List UInt8)} {P:List Nat} {i n:Nat} {x:List UInt8}:x∈ZH ns P i n↔∃ k,k<n∧P.getD k default=i∧ns.getD k default=x:=by
 unfold ZH;simp only [zF1,zE0,zE3,decide_eq_true_eq];constructor
 ·rintro ⟨k,⟨h1,h2⟩,h3⟩;exact ⟨k,h1,h2,h3⟩
 ·rintro ⟨k,h1,h2,h3⟩;exact ⟨k,⟨h1,h2⟩,h3⟩
theorem SS.qeq {l:List (List UInt8)} (h:l.Pairwise zB):SS l:=by
 intro i j hij hj;have:=zD2.1 h i j (by omega) hj hij;rw [zA2,zA2,zA4 hj,zA4 (show i<l.length by omega)];exact this
theorem PK {ns:List (List UInt8)} (hs:SS ns) {P:List Nat} {i n:Nat} (hn:n≤ns.length):SS (ZH ns P i n):=by
 apply SS.qeq
 unfold ZH;rw [List.pairwise_map];have h1:(List.range n).Pairwise fun a b=>a<b:=List.pairwise_lt_range;have h2:=h1.filter fun k=>decide (P.getD k default=i);refine List.Pairwise.imp_of_mem ?_ h2;intro a b ha hb hab;have hb':=zE3.1 (zE0.1 hb).1;exact hs a b hab (by omega)
theorem qbz (ns:List (List UInt8)) (P:List Nat) (i n:Nat):(ZH ns P i n).length≤n:=by
 unfold ZH;rw [zC5];have:=List.length_filter_le (fun k=>decide (P.getD k default=i)) (List.range n);simpa using this
def Jp (ns:List (List UInt8)) (P:List Nat) (n:Nat):List (List (List UInt8)):=((List.range n).filter fun i=>decide (P.getD i default=i)).map fun i=>ZH ns P i ns.length
theorem GY (ns:List (List UInt8)) (P:List Nat) (n:Nat):Jp ns P (n+1)=Jp ns P n ++ if P.getD n default=n then [ZH ns P n ns.length] else []:=by
 unfold Jp;rw [List.range_succ,zD1,zC9];congr 1
 rw [zD8,List.filter_nil];by_cases h:P.getD n default=n
 ·rw [if_pos (decide_eq_true h),if_pos h];rfl
 ·rw [if_neg (by rw [decide_eq_false h];decide),if_neg h];rfl
theorem qax (ns:List (List UInt8)) (P:List Nat) (n:Nat):(Jp ns P n).length≤n:=by
 unfold Jp;rw [zC5];have:=List.length_filter_le (fun i=>decide (P.getD i default=i)) (List.range n);simpa using this
theorem LI.head {r:Rl} {ns:List (List UInt8)} {P:List Nat} (I:LI r ns P) (hs:SS ns) {i:Nat} (hi:i<ns.length) (e:P.getD i default=i):(ZH ns P i ns.length).getD 0 default=ns.getD i default:=by
 have hm:ns.getD i default∈ZH ns P i ns.length:=Xc.2 ⟨i,hi,e,rfl⟩;have hss:=PK hs (P:=P) (i:=i) (zA3 ns.length);have hpos:=List.length_pos_of_mem hm;obtain ⟨k,k1,k2,k3⟩:=Xc.1 (qO hpos);obtain ⟨j,j1,j2⟩:=qQ.1 hm;have h1:=hss.le (zB0 j) j1;rw [j2,← k3,hs.lt_iff hi k1] at h1;have h2:=I.le k (by rw [I.len];exact k1);have:k=i:=by omega
 rw [← k3,this]
theorem LI.cir {r:Rl} (H:RO r) {ns:List (List UInt8)} {P:List Nat} (I:LI r ns P) (C:LC r ns P) (hs:SS ns) (hns:∀ x,x∈ns↔gat r.us x≠none) {cs:List Wd} (e:cs.map (·.ws)=Jp ns P ns.length):CirOk r cs∧∀ x,gat r.us x≠none→∃ w∈cs,x∈w.ws:=by
 have hns':∀ x,gat r.us x≠none→x∈ns:=fun x hx=>(hns x).2 hx;have key:∀ w∈cs,∃ i,i<ns.length∧P.getD i default=i∧w.ws=ZH ns P i ns.length:=fun w hw=>by
  have:w.ws∈Jp ns P ns.length:=by rw [← e];exact zF1.2 ⟨w,hw,rfl⟩
  unfold Jp at this;simp only [zF1,zE0,zE3,decide_eq_true_eq] at this;obtain ⟨i,⟨h1,h2⟩,h3⟩:=this;exact ⟨i,h1,h2,h3.symm⟩
 refine ⟨⟨fun w hw=>?_,?_⟩,fun x hx=>?_⟩
 ·obtain ⟨i,hi,hp,hw2⟩:=key w hw;rw [hw2,I.head hs hi hp];refine ⟨PK hs (zA3 _),fun q=>?_,fun x=>?_⟩
  ·have:ns.getD i default∈ZH ns P i ns.length:=Xc.2 ⟨i,hi,hp,rfl⟩;rw [q] at this;cases this
  ·rw [Xc];constructor
   ·rintro ⟨k,k1,k2,rfl⟩;refine ⟨(hns _).1 (qO hi),?_⟩;have:=I.rc k (by rw [I.len];exact k1);rw [k2] at this;exact this.symm
   ·rintro ⟨-,h2⟩;obtain ⟨k,k1,k2,k3⟩:=I.comp H C hns' hi h2;exact ⟨k,k1,by rw [k3,hp],k2⟩
 ·have hp:(Jp ns P ns.length).Pairwise fun a b=>zB (a.getD 0 default) (b.getD 0 default):=by
   unfold Jp;rw [List.pairwise_map];have h1:(List.range ns.length).Pairwise fun a b=>a<b:=List.pairwise_lt_range;have h2:=h1.filter fun i=>decide (P.getD i default=i);refine List.Pairwise.imp_of_mem ?_ h2;intro a b ha hb hab;have ha':=zE0.1 ha;have hb':=zE0.1 hb;have a1:=zE3.1 ha'.1;have b1:=zE3.1 hb'.1;rw [I.head hs a1 (of_decide_eq_true ha'.2),I.head hs b1 (of_decide_eq_true hb'.2)];exact hs a b hab b1
  rw [← e,List.pairwise_map] at hp;intro i j hij hj;have:=zD2.1 hp i j (by omega) hj hij;have g:∀ i (h:i<cs.length),cs.getD i default=cs[i]:=fun i h=>by rw [zA2,zA4 h];rfl
  rw [g i (by omega),g j hj];exact this
 ·obtain ⟨k,k1,k2⟩:=qQ.1 (hns' x hx);have h1:=I.le k (by rw [I.len];exact k1);have h2:=I.fix H C hs hns' k1;have hm:ZH ns P (P.getD k default) ns.length∈cs.map (·.ws):=by
   rw [e];unfold Jp;simp only [zF1,zE0,zE3,decide_eq_true_eq];exact ⟨_,⟨by omega,h2⟩,rfl⟩
  obtain ⟨w,w1,w2⟩:=zF1.1 hm;exact ⟨w,w1,by rw [w2];exact Xc.2 ⟨k,k1,rfl,k2⟩⟩
theorem CirOk.uniq {r:Rl} {cs ds:List Wd} (C:CirOk r cs) (D:CirOk r ds) (hc:∀ x,gat r.us x≠none→∃ w∈cs,x∈w.ws) (hd:∀ x,gat r.us x≠none→∃ w∈ds,x∈w.ws):cs.map (·.ws)=ds.map (·.ws):=by
 have hk:∀ {cs:List Wd},CirOk r cs→SS (cs.map fun w=>w.ws.getD 0 default):=fun {cs} C i j hij hj=>by
  rw [zC5] at hj;rw [zx (f:=fun w:Wd=>w.ws.getD 0 default) hj,zx (f:=fun w:Wd=>w.ws.getD 0 default) (show i<cs.length by omega)];exact C.hd i j hij hj
 have hsub:∀ {cs ds:List Wd},CirOk r cs→CirOk r ds→(∀ x,gat r.us x≠none→∃ w∈ds,x∈w.ws)→∀ w∈cs,∃ u∈ds,u.ws=w.ws:=fun {cs ds} C D hd w hw=>by
  obtain ⟨w1,w2,w3⟩:=C.ss w hw;have h0:w.ws.getD 0 default∈w.ws:=qO (List.length_pos_iff.2 w2);have hg:=((w3 _).1 h0).1;obtain ⟨u,u1,u2⟩:=hd _ hg;obtain ⟨v1,v2,v3⟩:=D.ss u u1;refine ⟨u,u1,v1.eq w1 fun x=>?_⟩;have hr:=((v3 _).1 u2).2;rw [v3,w3];exact ⟨fun q=>⟨hg,hr.symm.trans q.2⟩,fun q=>⟨((v3 _).1 u2).1,hr.trans q.2⟩⟩
 have heads:(cs.map fun w=>w.ws.getD 0 default)=ds.map fun w=>w.ws.getD 0 default:=(hk C).eq (hk D) fun x=>by
  simp only [zF1];constructor
  ·rintro ⟨w,w1,rfl⟩;obtain ⟨u,u1,u2⟩:=hsub C D hd w w1;exact ⟨u,u1,by rw [u2]⟩
  ·rintro ⟨w,w1,rfl⟩;obtain ⟨u,u1,u2⟩:=hsub D C hc w w1;exact ⟨u,u1,by rw [u2]⟩
 have hl:cs.length=ds.length:=by have:=congrArg List.length heads;simpa using this
 apply Q7 (by simpa using hl)
 intro i hi;rw [zC5] at hi;rw [zx (f:=fun w:Wd=>w.ws) hi,zx (f:=fun w:Wd=>w.ws) (show i<ds.length by omega)];obtain ⟨w1,w2,w3⟩:=C.ss _ (qO hi);obtain ⟨v1,v2,v3⟩:=D.ss _ (qO (show i<ds.length by omega));have e0:(cs.getD i default).ws.getD 0 default=(ds.getD i default).ws.getD 0 default:=by
  have:=congrArg (fun l=>l.getD i default) heads;(try simp only at this);rwa [zx (f:=fun w:Wd=>w.ws.getD 0 default) hi,zx (f:=fun w:Wd=>w.ws.getD 0 default) (show i<ds.length by omega)] at this
 refine w1.eq v1 fun x=>?_;rw [w3,v3,e0]
def QB (r:Rl):List (List UInt8):=r.us.map (·.diet)
structure DietOk (r:Rl) (ds:List Ct):Prop where
 ss:SS (ds.map (·.d))
 n:∀ c∈ds,c.n=((QB r).count c.d:Int)
 all:∀ x,x∈ds.map (·.d)↔x∈QB r
theorem DietOk.uniq {r:Rl} {a b:List Ct} (A:DietOk r a) (B:DietOk r b):a=b:=by
 have e:=A.ss.eq B.ss fun x=>(A.all x).trans (B.all x).symm;have hl:a.length=b.length:=by have:=congrArg List.length e;simpa using this
 apply Q7 hl
 intro i hi;have e1:(a.getD i default).d=(b.getD i default).d:=by
  have:=congrArg (fun l=>l.getD i default) e;(try simp only at this);rwa [zx (f:=fun c:Ct=>c.d) hi,zx (f:=fun c:Ct=>c.d) (show i<b.length by omega)] at this
 have e2:=A.n _ (qO hi);have e3:=B.n _ (qO (show i<b.length by omega));rw [e1,← e3] at e2;cases h1:a.getD i default with
 | mk d n=>cases h2:b.getD i default with
  | mk d' n'=>rw [h1,h2] at e1 e2;simp only at e1 e2;rw [e1,e2]
def J7 (mp:List (List UInt8×Int)) (d:List UInt8):Int:=match zG mp d with|some x=>x|none=>0
theorem yA {mp:List (List UInt8×Int)} {d:List UInt8} {x:Int} (h:zG mp d=some x):J7 mp d=x:=by unfold J7;rw [h]
theorem yB {mp:List (List UInt8×Int)} {d:List UInt8} (h:zG mp d=none):J7 mp d=0:=by unfold J7;rw [h]
theorem gG {mp:List (List UInt8×Int)} {k:List UInt8} {x:Int} (d:List UInt8):J7 (jZ mp k x) d=if d=k then x else J7 mp d:=by
 unfold J7;rw [Jh];by_cases e:d=k
 ·rw [if_pos e,if_pos e]
 ·rw [if_neg e,if_neg e]
structure DP (r:Rl) (i:Nat) (mp:List (List UInt8×Int)) (out:List Ct):Prop where
 m:∀ d,J7 mp d=if d∈(QB r).take i then 0 else ((QB r).count d:Int)
 nd:(out.map (·.d)).Nodup
 mem:∀ d,d∈out.map (·.d)↔d∈(QB r).take i
 n:∀ c∈out,c.n=((QB r).count c.d:Int)
 ln:out.length≤i
theorem jg {l:List (List UInt8)} {i:Nat} (hi:i<l.length) (d:List UInt8):d∈l.take (i+1)↔d∈l.take i∨d=l.getD i default:=by
 rw [zi hi,zB8,zB5]
theorem DP.yes {r:Rl} {i:Nat} {mp:List (List UInt8×Int)} {out:List Ct} (D:DP r i mp out) (hi:i<(QB r).length) (h:0<J7 mp ((QB r).getD i default)):DP r (i+1) (jZ mp ((QB r).getD i default) 0) (out ++ [⟨(QB r).getD i default,J7 mp ((QB r).getD i default)⟩]):=by
 have hn:(QB r).getD i default ∉ (QB r).take i:=fun q=>by
  have:=D.m ((QB r).getD i default);rw [if_pos q] at this;omega
 have hv:=D.m ((QB r).getD i default);rw [if_neg hn] at hv;refine ⟨fun d=>?_,?_,fun d=>?_,fun c hc=>?_,by have:=D.ln;simp;omega⟩
 ·rw [gG];by_cases e:d=(QB r).getD i default
  ·rw [if_pos e,if_pos ((jg hi d).2 (.inr e))]
  ·rw [if_neg e,D.m d];by_cases q:d∈(QB r).take i
   ·rw [if_pos q,if_pos ((jg hi d).2 (.inl q))]
   ·rw [if_neg q,if_neg (fun z=>((jg hi d).1 z).elim q e)]
 ·rw [zC9,zG4];refine ⟨D.nd,by simp,fun a ha b hb e=>?_⟩;simp only [List.map_cons,List.map_nil,zB5] at hb;subst e;subst hb;exact hn ((D.mem _).1 ha)
 ·rw [zC9,zB8,D.mem,jg hi];simp
 ·rcases zB8.1 hc with q|q
  ·exact D.n c q
  ·rw [zB5.1 q];exact hv
theorem DP.no {r:Rl} {i:Nat} {mp:List (List UInt8×Int)} {out:List Ct} (D:DP r i mp out) (hi:i<(QB r).length) (h:¬ 0<J7 mp ((QB r).getD i default)):DP r (i+1) mp out:=by
 have hn:(QB r).getD i default∈(QB r).take i:=by
  apply zG8
  intro q;have hv:=D.m ((QB r).getD i default);rw [if_neg q] at hv;have:0<(QB r).count ((QB r).getD i default):=List.count_pos_iff.2 (qO hi);omega
 have key:∀ d,d∈(QB r).take (i+1)↔d∈(QB r).take i:=fun d=>by
  rw [jg hi];exact ⟨fun q=>q.elim id (fun e=>e ▸ hn),.inl⟩
 refine ⟨fun d=>?_,D.nd,fun d=>by rw [D.mem,key],D.n,by have:=D.ln;omega⟩;rw [D.m d];simp only [key]
theorem DP.fin {r:Rl} {mp:List (List UInt8×Int)} {out ds:List Ct} (D:DP r (QB r).length mp out) (s:Sw 0 out.length out ds) (h:Srt jI 0 out.length ds):DietOk r ds:=by
 have hl:=s.len;have hp:=s.perm;have hnd:(ds.map (·.d)).Nodup:=(hp.map _).nodup_iff.2 D.nd;refine ⟨fun i j hij hj=>?_,fun c hc=>D.n c (hp.mem_iff.1 hc),fun x=>?_⟩
 ·have hj':j<ds.length:=by simpa using hj
  have h1:=h i j (zB0 _) hij (by omega);have h2:=Yt hnd hij hj;rw [zx (f:=fun c:Ct=>c.d) hj',zx (f:=fun c:Ct=>c.d) (show i<ds.length by omega)] at *;rcases JB h1 with q|q
  ·exact absurd q h2
  ·exact q
 ·have:=D.mem x;rw [zD4] at this;rw [← this];exact (hp.map _).mem_iff
variable [Flag]
theorem qbt {h0:AH} (w:WfH h0) {p:Nat} {r:Rl} (B:BkRd h0 p r) (H:RO r):Fn Tryz.prog Xh 51 [.pointer (some ⟨p,0,none⟩)] h0 (fun u h'=>∃ ds,Hs h0 h' [.sl u 147 2 jP ds]∧DietOk r ds∧ds.length≤64):=by
 have S:=Hs.start w;obtain ⟨s,B⟩:=B;have hb:=B.bk;have h64:=H.l64;have hrg:=B.rg;have hgl:=B.len;have hdl:(QB r).length=r.us.length:=by simp [QB]
 have hgd:∀ i,i<s.gs.length→(s.gs.getD i default).diet=(QB r).getD i default:=fun i hi=>by
  have:=B.g hi;unfold QB;rw [zx (f:=fun g:Gu=>g.diet) (by omega),← this]
 refine qV rfl Tryz.func51 rfl rfl ?_;all_goals (repeat' (first|refine qi ?_|(refine qc 0 ?_;refine mv ?_;refine qf ?_)|(refine qc 1 ?_;refine mv ?_)))
 (refine qx rfl rfl rfl rfl rfl ((QK S.wf (S.ext.get w hb)).mono ?_);rintro _ h ⟨rfl,x⟩)<;>(replace S:=S.qL x;clear x;refine qf ?_)
 all_goals (repeat' (first|refine qi ?_|refine qg rfl ?_|refine qj ?_))
 (repeat (refine qi ?_));refine qc 3 ?_;refine mkm (α:=Int) (.int .i64) S ?_;clear S;intro m h S;(refine mv ?_;refine qf ?_);all_goals (repeat' (first|refine qi ?_|refine qh ?_|(refine qc 4 ?_;refine mv ?_;refine vl ?_;refine vl ?_;refine vl ?_;refine lH S ?_;refine Qa S ?_;refine mv ?_;refine qf ?_)))
 refine qJ (σ:=Nat×List (List UInt8×Int)) (fun (i,mp) h'=>Hs h0 h' [.mp m (.int .i64) mp]∧i≤r.us.length∧(∀ d,J7 mp d=(((QB r).take i).count d:Int))) (fun (i,mp)=>r.us.length - i) (fun (i,mp)=>[(0,.pointer (some ⟨p,0,none⟩)),(3,.map (some m)),(17,s.vg.val),(18,.int .i64 s.gs.length),(19,.int .i64 i)]) (0,[]) qy ?_ ?_
 ·exact ⟨S,zB0 _,fun d=>by simp [J7,zG,QT]⟩
 clear S;rintro ⟨i,mp⟩ h ⟨S,g1,g2⟩;all_goals (repeat' (first|refine qi ?_|refine qg rfl ?_|refine qj ?_|refine qo ?_|refine qh ?_|(refine qc 5 ?_;(first|(refine cS ?_ ?_<;>intro hc))<;>(refine qf ?_))))
 ·have hil:i<s.gs.length:=by omega
  have hd:=hgd i hil;have hnx:∀ d,J7 (jZ mp ((QB r).getD i default) (J7 mp ((QB r).getD i default)+1)) d=(((QB r).take (i+1)).count d:Int):=fun d=>by
   rw [gG,zi (by omega),List.count_append,List.count_cons,List.count_nil];by_cases e:d=(QB r).getD i default
   ·rw [if_pos e,e,g2];simp
   ·rw [if_neg e,g2];have:((QB r).getD i default == d)=false:=by simpa using fun q=>e q.symm
    simp only [this];simp
  have hbd:0≤J7 mp ((QB r).getD i default)∧J7 mp ((QB r).getD i default)≤64:=by
   rw [g2];have:=List.count_le_length (a:=(QB r).getD i default) (l:=(QB r).take i);rw [zA9] at this;omega
  all_goals (repeat' (first|(refine qc 6 ?_;refine Qv S ?_;refine zu S ?_;(refine al S ?_;clear S;intro b h S);(first|(refine sB S rfl rfl ?_;clear S;intro h S));refine qf ?_)|(refine qc 7 ?_;refine mv ?_;refine vl ?_;refine lB S rfl rfl ?_)))
  simp only [zA0,hd] at *;refine lk S (.there .here) (fun y hy=>?_) (fun hy=>?_)
  ·rw [yA hy] at hbd hnx;simp only [okV];(refine ad ?_);refine up (x:=y+1) (key:=(QB r).getD i default) S (.there .here) (.there .here) (fun h S=>?_) (.inl rfl);(refine qf ?_);all_goals (repeat' (first|(refine qc 8 ?_;refine ad ?_;refine mv ?_;refine qf ?_)))
   refine ⟨(i+1,jZ mp ((QB r).getD i default) (y+1)),?_,?_,qy⟩
   ·show r.us.length - (i+1)<r.us.length - i;omega
   ·exact ⟨S.tail,by (try dsimp only);omega,hnx⟩
  ·rw [yB hy] at hbd hnx;simp only [okV];(refine ad ?_);refine up (x:=(0:Int)+1) (key:=(QB r).getD i default) S (.there .here) (.there .here) (fun h S=>?_) (.inl rfl);(refine qf ?_);all_goals (repeat' (first|(refine qc 8 ?_;refine ad ?_;refine mv ?_;refine qf ?_)))
   refine ⟨(i+1,jZ mp ((QB r).getD i default) (0+1)),?_,?_,qy⟩
   ·show r.us.length - (i+1)<r.us.length - i;omega
   ·exact ⟨S.tail,by (try dsimp only);omega,hnx⟩
 ·have hi:i=r.us.length:=by omega
  rw [hi,← hdl,zD4] at g2;all_goals (repeat' (first|refine qi ?_|(refine qc 9 ?_;refine mv ?_;refine qf ?_)))
  have S:=S.Zg (e:=147) (z:=2) (enc:=jP);all_goals (repeat' (first|refine qh ?_|(refine qc 10 ?_;refine mv ?_;refine vl ?_;refine vl ?_;refine vl ?_;refine lH S ?_;refine Qa S ?_;refine mv ?_;refine qf ?_)))
  refine qJ (σ:=Nat×List (List UInt8×Int)×Value×List Ct) (fun (i,mp,v6,out) h'=>Hs h0 h' [.sl v6 147 2 jP out,.mp m (.int .i64) mp]∧i≤r.us.length∧DP r i mp out) (fun (i,mp,v6,out)=>r.us.length - i) (fun (i,mp,v6,out)=>[(0,.pointer (some ⟨p,0,none⟩)),(3,.map (some m)),(6,v6),(33,s.vg.val),(34,.int .i64 s.gs.length),(35,.int .i64 i)]) (0,mp,.slice none 0 0,[]) qy ?_ ?_
  ·exact ⟨S,zB0 _,⟨fun d=>by rw [List.take_zero,if_neg (by simp)];exact g2 d,by simp,by simp,by simp,zA3 _⟩⟩
  clear S g2;rintro ⟨i,mp,v6,out⟩ h ⟨S,k1,D⟩;have hln:=D.ln;all_goals (repeat' (first|refine qi ?_|refine qg rfl ?_|refine qj ?_|refine qo ?_|refine qh ?_|(refine qc 11 ?_;(first|(refine cS ?_ ?_<;>intro hc))<;>(refine qf ?_))))
  ·have hil:i<s.gs.length:=by omega
   have hd:=hgd i hil;have hmd:=D.m ((QB r).getD i default);have hyes:=D.yes (show i<(QB r).length by omega);have hnoo:=D.no (show i<(QB r).length by omega);all_goals (repeat' (first|refine qi ?_|(refine qc 12 ?_;refine Qv S ?_;refine zu S ?_;(refine al S ?_;clear S;intro b h S);(first|(refine sB S rfl rfl ?_;clear S;intro h S));refine qf ?_)|(refine qc 13 ?_;refine mv ?_;refine vl ?_;refine lB S rfl rfl ?_)))
   simp only [zA0,hd] at *;refine lk S (.there (.there .here)) (fun y hy=>?_) (fun hy=>?_)
   ·rw [yA hy] at hyes hnoo;simp only [okV];(refine mv ?_;refine qf ?_);all_goals (repeat' (first|refine qi ?_|refine qg rfl ?_|refine qj ?_|(refine qc 14 ?_;refine mv ?_;(first|(refine cS ?_ ?_<;>intro hc))<;>(refine qf ?_))))
    ·have hyes:=hyes (by omega);all_goals (repeat' (first|(refine qc 15 ?_;refine mv ?_;refine vl ?_;refine lB S rfl rfl ?_;refine mv ?_;refine vl ?_;(refine one 2 S ?_;clear S;intro u h S))))
     have hd:=hgd i hil;(try simp only [zA0] at S);(try rw [hd] at S);refine app (y0:=(⟨(QB r).getD i default,y⟩:Ct)) S rfl rfl ?_;clear S;intro v6 h S;(refine mv ?_;refine qf ?_);all_goals (repeat' (first|(refine qc 16 ?_;refine mv ?_;refine vl ?_;refine lB S rfl rfl ?_)))
     (try simp only [zA0])
     (try rw [hd])
     refine up (x:=(0:Int)) (key:=(QB r).getD i default) S (.there (.there .here)) (.there (.there .here)) (fun h S=>?_) (.inl rfl);(refine qf ?_);all_goals (repeat' (first|(refine qc 17 ?_;refine ad ?_;refine mv ?_;refine qf ?_)))
     refine ⟨(i+1,jZ mp ((QB r).getD i default) 0,v6,out ++ [⟨(QB r).getD i default,y⟩]),?_,?_,qy⟩
     ·show r.us.length - (i+1)<r.us.length - i;omega
     ·exact ⟨S.pick,by (try dsimp only);omega,hyes⟩
    ·have hnoo:=hnoo (by omega);all_goals (repeat' (first|(refine qc 17 ?_;refine ad ?_;refine mv ?_;refine qf ?_)))
     refine ⟨(i+1,mp,v6,out),?_,?_,qy⟩
     ·show r.us.length - (i+1)<r.us.length - i;omega
     ·exact ⟨S.pick,by (try dsimp only);omega,hnoo⟩
   ·rw [yB hy] at hnoo;have hnoo:=hnoo (by omega);simp only [okV];(refine mv ?_;refine qf ?_);all_goals (repeat' (first|refine qi ?_|refine qg rfl ?_|refine qj ?_|(refine qc 14 ?_;refine mv ?_;(refine cF ?_)<;>(refine qf ?_))|(refine qc 17 ?_;refine ad ?_;refine mv ?_;refine qf ?_)))
    refine ⟨(i+1,mp,v6,out),?_,?_,qy⟩
    ·show r.us.length - (i+1)<r.us.length - i;omega
    ·exact ⟨S.pick,by (try dsimp only);omega,hnoo⟩
  ·have hi:i=(QB r).length:=by omega
   rw [hi] at D;all_goals (repeat' (first|(refine qc 18 ?_;refine mv ?_)))
   (refine qx rfl rfl rfl rfl rfl ((qdd S (by omega)).mono ?_);rintro _ h ⟨ds,s1,s2,S⟩)<;>(refine qf ?_)
   all_goals (repeat' (first|refine qi ?_|(refine qc 19 ?_;refine mv ?_;refine mv ?_;refine qf ?_)))
   refine qC ⟨_,rfl,?_⟩;exact ⟨ds,S.only .here,D.fin s1 s2,by rw [s1.len];omega⟩
end Go.Proofs.Xx
namespace Go.Proofs.Xx
open Go Go.Proofs
structure RP (l:List (List UInt8)) (i:Nat) (out:List Ct):Prop where
 ss:SS (out.map (·.d))
 n:∀ c∈out,c.n=((l.take i).count c.d:Int)
 all:∀ x,x∈out.map (·.d)↔x∈l.take i
 last:0<i→0<out.length∧(out.getD (out.length - 1) default).d=l.getD (i - 1) default
 ln:out.length≤i
theorem JP {l:List (List UInt8)} {i:Nat} (hi:i<l.length) (d:List UInt8):(l.take (i+1)).count d=(l.take i).count d+if d=l.getD i default then 1 else 0:=by
 rw [zi hi,List.count_append,List.count_cons,List.count_nil];by_cases e:d=l.getD i default
 ·rw [if_pos e,e];simp
 ·rw [if_neg e];have:(l.getD i default == d)=false:=by simpa using fun q=>e q.symm
  simp only [this];simp
theorem RP.same {l:List (List UInt8)} {i:Nat} {out:List Ct} (R:RP l i out) (hi:i<l.length) (h0:0<i) (e:l.getD i default=l.getD (i - 1) default):RP l (i+1) (out.set (out.length - 1) ⟨(out.getD (out.length - 1) default).d,(out.getD (out.length - 1) default).n+1⟩):=by
 obtain ⟨k1,k2⟩:=R.last h0;rw [← e] at k2;obtain ⟨m,hm⟩:∃ m,out.length - 1=m:=⟨_,rfl⟩
 rw [hm] at k2 ⊢;have hml:m<out.length:=by omega
 have hmap:(out.set m ⟨(out.getD m default).d,(out.getD m default).n+1⟩).map (·.d)=out.map (·.d):=by
  apply Q7 (by simp)
  intro j hj;simp at hj;rw [zx (f:=fun c:Ct=>c.d) (by simpa using hj),zx (f:=fun c:Ct=>c.d) hj,Qh _ _ hml];split
  ·rename_i q;rw [q]
  ·rfl
 refine ⟨by rw [hmap];exact R.ss,fun c hc=>?_,fun x=>?_,fun _=>⟨by simp;omega,?_⟩,by have:=R.ln;simp;omega⟩
 ·obtain ⟨j,j1,j2⟩:=qQ.1 hc;simp at j1;rw [Qh _ _ hml] at j2;rw [← j2,JP hi];by_cases q:j=m
  ·rw [if_pos q];show (out.getD m default).n+1=_
   have h1:=R.n _ (qO hml);show (out.getD m default).n+1=((((l.take i).count (out.getD m default).d+if (out.getD m default).d=l.getD i default then 1 else 0:Nat)):Int)
   rw [if_pos k2];omega
  ·rw [if_neg q];have hne:(out.getD j default).d≠l.getD i default:=fun z=>by
    rw [← k2] at z;have:=R.ss.inj (i:=j) (j:=m) (by simpa using j1) (by simpa using hml) (by
     rw [zx (f:=fun c:Ct=>c.d) j1,zx (f:=fun c:Ct=>c.d) hml];exact z)
    exact q this
   rw [if_neg hne,R.n _ (qO j1)];omega
 ·rw [hmap,R.all,jg hi];constructor
  ·exact .inl
  ·rintro (q|q)
   ·exact q
   ·rw [q,← k2];exact (R.all _).1 (zF1.2 ⟨_,qO hml,rfl⟩)
 ·rw [zF5,hm,Qh _ _ hml,if_pos rfl];exact k2
theorem RP.new {l:List (List UInt8)} {i:Nat} {out:List Ct} (R:RP l i out) (hs:Srt zB 0 l.length l) (hi:i<l.length) (h:i=0∨l.getD i default≠l.getD (i - 1) default):RP l (i+1) (out ++ [⟨l.getD i default,1⟩]):=by
 have hlt:∀ x∈l.take i,zB x (l.getD i default):=fun x hx=>by
  obtain ⟨j,j1,j2⟩:=qQ.1 hx;rw [zA9] at j1;rw [getD_take (show j<i by omega)] at j2;rcases h with h|h
  ·omega
  ·have a1:=hs (i - 1) i (zB0 _) (by omega) hi;have a2:zB (l.getD (i - 1) default) (l.getD i default):=by
    rcases JB a1 with q|q
    ·exact absurd q.symm h
    ·exact q
   rcases Nat.eq_or_lt_of_le (show j≤i - 1 by omega) with e|e
   ·rw [← j2,e];exact a2
   ·have a3:=hs j (i - 1) (zB0 _) e (by omega);rw [← j2];exact vk a3 a2
 have hni:l.getD i default ∉ l.take i:=fun q=>zh _ (hlt _ q);refine ⟨?_,fun c hc=>?_,fun x=>?_,fun _=>⟨by simp,?_⟩,by have:=R.ln;simp;omega⟩
 ·rw [zC9];intro a b hab hb;rw [zB2,zC5] at hb;simp at hb;rcases zA7 b out.length with q|q
  ·rw [gA1 (by simp;omega),gA1 (by simpa using q)];exact R.ss a b hab (by simpa using q)
  ·obtain rfl:b=out.length:=by omega
   rw [gA1 (by simpa using hab),gA2 (by simp),zC5,zG6];exact hlt _ ((R.all _).1 (qO (by simpa using hab)))
 ·rw [JP hi];rcases zB8.1 hc with q|q
  ·have hne:c.d≠l.getD i default:=fun e=>hni (e ▸ (R.all _).1 (zF1.2 ⟨c,q,rfl⟩));rw [if_neg hne,R.n c q];omega
  ·rw [zB5.1 q];show (1:Int)=(((l.take i).count (l.getD i default)+if l.getD i default=l.getD i default then 1 else 0:Nat):Int)
   rw [if_pos rfl,List.count_eq_zero.2 hni];rfl
 ·rw [zC9,zB8,R.all,jg hi];simp
 ·rw [zB2,zD5,Nat.add_sub_cancel,Nat.add_sub_cancel,gA2 (zA3 _),zG6];rfl
theorem RP.fin {r:Rl} {l:List (List UInt8)} {out:List Ct} (R:RP l l.length out) (p:l.Perm (QB r)):DietOk r out:=by
 refine ⟨R.ss,fun c hc=>?_,fun x=>?_⟩
 ·rw [R.n c hc,zD4,p.count_eq]
 ·rw [R.all,zD4,p.mem_iff]
variable [Flag]
theorem qad {h0:AH} (w:WfH h0) (v:RlV) (r:Rl) (HR:RlOk h0 v r) (H:RO r):Fn Tryz.prog Xh 101 [v.val] h0 (fun u h'=>∃ ds,Hs h0 h' [.sl u 149 2 jP ds]∧DietOk r ds∧ds.length≤64):=by
 have S:=Hs.start w;have h64:=H.l64;have hrg:=HR.rg;have hgl:=HR.len;have hdl:(QB r).length=r.us.length:=by simp [QB]
 have hgd:∀ i,i<v.gs.length→(v.gs.getD i default).diet=(QB r).getD i default:=fun i hi=>by
  have:=HR.at_ hi;unfold QB;rw [zx (f:=fun g:Gu=>g.diet) (by omega),← this]
 unfold RlV.val;refine qV rfl Tryz.func101 rfl rfl ?_;all_goals (repeat' (first|refine qi ?_|(refine qc 0 ?_;(refine bx S ?_;clear S;intro b h S);refine mv ?_;refine qf ?_)))
 obtain ⟨b1,hnm⟩:∃ x,x=b:=⟨_,rfl⟩;subst hnm;replace S:Hs h0 h (.blk b1 [v.vg.val,v.vt.val] 32 :: []):=S;have S:=S.Zg (e:=9) (z:=1) (enc:=eS);all_goals (repeat' (first|refine qi ?_|refine qh ?_|(refine qc 1 ?_;refine mv ?_;refine qf ?_)|(refine qc 2 ?_;refine mv ?_;refine qf ?_)))
 refine qJ (σ:=Nat×Value) (fun (i,v3) h'=>Hs h0 h' [.sl v3 9 1 eS ((QB r).take i),.blk b1 [v.vg.val,v.vt.val] 32]∧i≤r.us.length) (fun (i,v3)=>r.us.length - i) (fun (i,v3)=>[(1,.pointer (some ⟨b1,0,none⟩)),(3,v3),(4,.int .i64 i)]) (0,.slice none 0 0) qy ?_ ?_
 ·exact ⟨S,zB0 _⟩
 clear S;rintro ⟨i,v3⟩ h ⟨S,g1⟩;have htl:((QB r).take i).length=i:=by simp;omega
 all_goals (repeat' (first|refine qi ?_|refine qg rfl ?_|refine qj ?_|refine qo ?_|refine qh ?_|(refine qc 3 ?_;refine mv ?_;refine vl ?_;refine lB S rfl rfl ?_;refine Qa S ?_;(first|(refine cS ?_ ?_<;>intro hc))<;>(refine qf ?_))))
 ·have hil:i<v.gs.length:=by omega
  have hd:=hgd i hil;all_goals (repeat' (first|(refine qc 5 ?_;refine mv ?_;refine vl ?_;refine lB S rfl rfl ?_;refine mv ?_;refine Qv S ?_;refine fB S ?_;refine zu S ?_;(refine one 1 S ?_;clear S;intro u h S))))
  simp only [zA0] at *;refine app (y0:=(v.gs.getD i default).diet) S rfl rfl ?_;clear S;intro v3 h S;(refine mv ?_;refine qf ?_);all_goals (repeat' (first|(refine qc 4 ?_;refine mv ?_;refine ad ?_;refine mv ?_;refine qf ?_)))
  refine ⟨(i+1,v3),?_,?_,qy⟩
  ·show r.us.length - (i+1)<r.us.length - i;omega
  ·refine ⟨?_,by (try dsimp only);omega⟩;(try dsimp only);rw [zi (by omega),← hd];exact S.pick
 ·have hi:i=r.us.length:=by omega
  rw [hi,← hdl,zD4] at S;all_goals (repeat' (first|(refine qc 6 ?_;refine mv ?_)))
  (refine qx rfl rfl rfl rfl rfl ((kM S.wf v3 (QB r) (Rd.Qc S .here) (by omega)).mono ?_);rintro u3 h ⟨l,z1,z2,x⟩)<;>(replace S:=S.Qd x;clear x;refine mv ?_;refine qf ?_)
  have hll:l.length=r.us.length:=by rw [z1.len,hdl]
  rw [← z1.len] at z2;have S:=S.Zg (e:=149) (z:=2) (enc:=jP);all_goals (repeat' (first|refine qi ?_|refine qh ?_|(refine qc 7 ?_;refine mv ?_;refine qf ?_)|(refine qc 8 ?_;refine mv ?_;refine qf ?_)))
  refine qJ (σ:=Nat×Value×List Ct) (fun (i,v5,out) h'=>Hs h0 h' [.sl v5 149 2 jP out,.sl u3 9 1 eS l]∧i≤l.length∧RP l i out) (fun (i,v5,out)=>l.length - i) (fun (i,v5,out)=>[(3,u3),(5,v5),(6,.int .i64 i)]) (0,.slice none 0 0,[]) qy ?_ ?_
  ·exact ⟨S.pick,zB0 _,⟨fun a b _ hb=>absurd hb (zB7 _),by simp,by simp,fun q=>absurd q (Nat.lt_irrefl _),zA3 _⟩⟩
  clear S;rintro ⟨i,v5,out⟩ h ⟨S,k1,R⟩;have hln:=R.ln;all_goals (repeat' (first|refine qi ?_|refine qg rfl ?_|refine qj ?_|refine qo ?_|refine qh ?_|(refine qc 9 ?_;refine mv ?_;refine mv ?_;refine QC S rfl rfl ?_;(first|(refine cS ?_ ?_<;>intro hc))<;>(refine qf ?_))))
  ·have hil:i<l.length:=by omega
   have hpr:((i:Int) - 1).toNat=i - 1:=by omega
   all_goals (repeat' (first|refine qg rfl ?_|(refine qK 11 ?_;refine mv ?_;(first|(refine cS ?_ ?_<;>intro hc))<;>(refine mv ?_;(first|refine off ?_|refine mv ?_);(first|refine off ?_|refine mv ?_);(first|refine off ?_|(refine qF S rfl rfl ?_));(first|refine off ?_|(refine qB S rfl rfl ?_));(first|refine off ?_|refine mv ?_);(first|refine off ?_|refine mv ?_);(first|refine off ?_|(refine sb ?_));(first|refine off ?_|(refine qF S rfl rfl ?_));(first|refine off ?_|(refine qB S rfl rfl ?_));(first|refine off ?_|(refine tS ?_ ?_<;>intro hc))<;>(refine vl ?_;refine qf ?_)))))
   all_goals (try simp only [zA0,hpr] at *)
   ·have i0:0<i:=by omega
    obtain ⟨m1,m2⟩:=R.last i0;have R2:=R.same hil i0 hc;have hpo:((out.length:Int) - 1).toNat=out.length - 1:=by omega
    have hbd:0≤(out.getD ((out.length:Int) - 1).toNat default).n∧(out.getD ((out.length:Int) - 1).toNat default).n≤64:=by
     rw [hpo,R.n _ (qO (by omega))];have:=List.count_le_length (a:=(out.getD (out.length - 1) default).d) (l:=l.take i);rw [zA9] at this;omega
    (repeat (refine qi ?_));refine qc 12 ?_;refine mv ?_;refine mv ?_;refine QC S rfl rfl ?_;refine sb ?_;refine qF S rfl rfl ?_;refine fS S rfl rfl ?_;refine qB S rfl rfl ?_;refine ad ?_;refine qF S rfl rfl ?_;refine fS S rfl rfl ?_;refine zZ (y:=(⟨(out.getD ((out.length:Int) - 1).toNat default).d,(out.getD ((out.length:Int) - 1).toNat default).n+1⟩:Ct)) S rfl rfl ?_;clear S;intro h S;(refine qf ?_);rw [hpo] at S;all_goals (repeat' (first|(refine qc 10 ?_;refine mv ?_;refine ad ?_;refine mv ?_;refine qf ?_)))
    refine ⟨(i+1,v5,out.set (out.length - 1) ⟨(out.getD (out.length - 1) default).d,(out.getD (out.length - 1) default).n+1⟩),?_,?_,qy⟩
    ·show l.length - (i+1)<l.length - i;omega
    ·exact ⟨S,by (try dsimp only);omega,R2⟩
   ·have R2:=R.new z2 hil (.inr hc);all_goals (repeat' (first|(refine qc 13 ?_;(iterate 3 refine mv ?_);refine qF S rfl rfl ?_;refine qB S rfl rfl ?_;refine vl ?_;(refine one 2 S ?_;clear S;intro u h S))))
    simp only [zA0] at *;refine app (y0:=(⟨l.getD i default,1⟩:Ct)) S rfl rfl ?_;clear S;intro v5 h S;(refine mv ?_;refine qf ?_);all_goals (repeat' (first|(refine qc 10 ?_;refine mv ?_;refine ad ?_;refine mv ?_;refine qf ?_)))
    refine ⟨(i+1,v5,out ++ [⟨l.getD i default,1⟩]),?_,?_,qy⟩
    ·show l.length - (i+1)<l.length - i;omega
    ·exact ⟨S.pick,by (try dsimp only);omega,R2⟩
   ·have R2:=R.new z2 hil (.inl (by omega));all_goals (repeat' (first|(refine qc 13 ?_;(iterate 3 refine mv ?_);refine qF S rfl rfl ?_;refine qB S rfl rfl ?_;refine vl ?_;(refine one 2 S ?_;clear S;intro u h S))))
    simp only [zA0] at *;refine app (y0:=(⟨l.getD i default,1⟩:Ct)) S rfl rfl ?_;clear S;intro v5 h S;(refine mv ?_;refine qf ?_);all_goals (repeat' (first|(refine qc 10 ?_;refine mv ?_;refine ad ?_;refine mv ?_;refine qf ?_)))
    refine ⟨(i+1,v5,out ++ [⟨l.getD i default,1⟩]),?_,?_,qy⟩
    ·show l.length - (i+1)<l.length - i;omega
    ·exact ⟨S.pick,by (try dsimp only);omega,R2⟩
  ·have hi:i=l.length:=by omega
   rw [hi] at R;all_goals (repeat' (first|(refine qc 14 ?_;refine mv ?_;refine mv ?_;refine qf ?_)))
   refine qC ⟨_,rfl,?_⟩;exact ⟨out,S.only .here,R.fin z1.perm,by omega⟩
end Go.Proofs.Xx
namespace Go.Proofs.Xx
structure RingOk (r:Rl) (R:List (List UInt8)):Prop where
 odd:R.length % 2=1
 three:3≤R.length
 nd:∀ i j,i<j→j<R.length→R.getD i default≠R.getD j default
 adj:∀ i,i<R.length→adj r 2 (R.getD i default) (R.getD ((i+1) % R.length) default)
structure Tree (r:Rl) (fr:List UInt8→List UInt8) (dep:List UInt8→Nat) (met:List UInt8→Prop):Prop where
 up:∀ x,met x→0<dep x→met (fr x)∧dep (fr x)+1=dep x∧Xx.adj r 2 (fr x) x
def anc (fr:List UInt8→List UInt8) (x:List UInt8):Nat→List UInt8
 | 0=>x
 | k+1=>fr (anc fr x k)
theorem X4 {r:Rl} {fr:List UInt8→List UInt8} {dep:List UInt8→Nat} {met:List UInt8→Prop} (T:Tree r fr dep met) {x:List UInt8} (hx:met x):∀ {k:Nat},k≤dep x→met (anc fr x k)∧dep (anc fr x k)+k=dep x
 | 0,_=>⟨hx,rfl⟩
 | k+1,h=>by
  obtain ⟨h1,h2⟩:=X4 T hx (k:=k) (by omega);obtain ⟨g1,g2,-⟩:=T.up _ h1 (by omega);exact ⟨g1,by show dep (fr (anc fr x k))+(k+1)=dep x;omega⟩
theorem wz {r:Rl} {fr:List UInt8→List UInt8} {dep:List UInt8→Nat} {met:List UInt8→Prop} (T:Tree r fr dep met) {x:List UInt8} (hx:met x) {k:Nat} (h:k<dep x):Xx.adj r 2 (anc fr x k) (anc fr x (k+1)):=by
 obtain ⟨h1,h2⟩:=X4 T hx (k:=k) (by omega);exact (T.up _ h1 (by omega)).2.2.symm
def yu (fr:List UInt8→List UInt8) (x y:List UInt8) (n:Nat):List (List UInt8):=(List.range n).map (anc fr x) ++ [anc fr x n] ++ ((List.range n).map (anc fr y)).reverse
theorem yt (fr:List UInt8→List UInt8) (x y:List UInt8) (n:Nat):(yu fr x y n).length=2*n+1:=by simp [yu];omega
theorem Zt {fr:List UInt8→List UInt8} {x y:List UInt8} {n k:Nat} (he:anc fr x n=anc fr y n) (hk:k<2*n+1):(yu fr x y n).getD k default=if k<n then anc fr x k else anc fr y (2*n - k):=by
 unfold yu;rw [zA2];split
 ·rename_i h
  rw [zF2,zH8 (by simpa using h)];simp [h]
 ·rename_i h
  by_cases h2:k=n
  ·subst h2;rw [zH8 (by simp),List.getElem?_append_right (by simp)];simp
   rw [he];congr 1;omega
  ·rw [List.getElem?_append_right (by simp;omega),List.getElem?_reverse (by simp;omega)];simp only [zB2,zC5,List.length_range,zD5,zH9];rw [List.getElem?_range (by omega)];show anc fr y _=_
   congr 1;omega
theorem Gq {r:Rl} {fr:List UInt8→List UInt8} {dep:List UInt8→Nat} {met:List UInt8→Prop} (T:Tree r fr dep met) {x y:List UInt8} (hx:met x) (hy:met y) (hd:dep x=dep y) (ha:adj r 2 x y) (hxy:x≠y) {n:Nat} (hn:n≤dep x) (hne:∀ i,i<n→anc fr x i≠anc fr y i) (he:anc fr x n=anc fr y n):RingOk r (yu fr x y n):=by
 have hn0:0<n:=by
  rcases zF4 n with q|q
  ·subst q;exact absurd he hxy
  ·exact q
 have hlen:=yt fr x y n;have dx:∀ k,k≤n→dep (anc fr x k)+k=dep x:=fun k hk=>(X4 T hx (by omega)).2;have dy:∀ k,k≤n→dep (anc fr y k)+k=dep x:=fun k hk=>by rw [hd];exact (X4 T hy (by omega)).2
 refine ⟨by omega,by omega,fun i j hij hj q=>?_,fun i hi=>?_⟩
 ·rw [hlen] at hj;rw [Zt he (by omega),Zt he hj] at q;split at q
  ·rename_i h1
   split at q
   ·rename_i h2
    have a:=dx i (by omega);have b:=dx j (by omega);rw [q] at a;omega
   ·rename_i h2
    have a:=dx i (by omega);have b:=dy (2*n - j) (by omega);rw [q] at a;have e:2*n - j=i:=by omega
    rw [e] at q;exact hne i h1 q
  ·rename_i h1
   rw [if_neg (by omega)] at q;have a:=dy (2*n - i) (by omega);have b:=dy (2*n - j) (by omega);rw [q] at a;omega
 ·rw [hlen] at hi ⊢;by_cases hl:i=2*n
  ·subst hl;rw [Nat.mod_self,Zt he (by omega),Zt he (by omega),if_neg (by omega),if_pos hn0,zG6];exact ha.symm
  ·rw [Nat.mod_eq_of_lt (by omega),Zt he (by omega),Zt he (by omega)];by_cases h1:i+1<n
   ·rw [if_pos (by omega),if_pos h1];exact wz T hx (by omega)
   ·by_cases h2:i<n
    ·rw [if_pos h2,if_neg h1];have e:2*n - (i+1)=n:=by omega
     have e2:i+1=n:=by omega
     rw [e,← he,← e2];exact wz T hx (by omega)
    ·rw [if_neg h2,if_neg h1];have:=(wz T hy (k:=2*n - (i+1)) (by omega)).symm;rwa [show 2*n - (i+1)+1=2*n - i by omega] at this
def eSp (x:Int×List UInt8):Value:=.agg #[.int .i64 x.1,str x.2]
abbrev QN:=List (List UInt8×(Int×List UInt8))
def Xy (mp:QN) (x:List UInt8):List UInt8:=match zG mp x with|some p=>p.2|none=>[]
def JU (mp:QN) (x:List UInt8):Int:=match zG mp x with|some p=>p.1|none=>0
theorem Ko {mp:QN} {x:List UInt8} {p:Int×List UInt8} (h:zG mp x=some p):Xy mp x=p.2:=by unfold Xy;rw [h]
theorem Jo {mp:QN} {x:List UInt8} {p:Int×List UInt8} (h:zG mp x=some p):JU mp x=p.1:=by unfold JU;rw [h]
variable [Flag]
theorem qcf {h0:AH} (w:WfH h0) {m:Nat} {mp:QN} (B:MpRd h0 m eSp mp) {r:Rl} {dep:List UInt8→Nat} (T:Tree r (Xy mp) dep (fun x=>zG mp x≠none)) {x y:List UInt8} (hx:zG mp x≠none) (hy:zG mp y≠none) (hd:dep x=dep y) (ha:adj r 2 x y) (hxy:x≠y) (hr:anc (Xy mp) x (dep x)=anc (Xy mp) y (dep x)) (h64:dep x≤64) :
 Fn Tryz.prog Xh 96 [.map (some m),str x,str y] h0 (fun u h'=>∃ R,Hs h0 h' [.sl u 9 1 eS R]∧RingOk r R∧R.length≤200):=by
 have S:=Hs.start w;refine qV rfl Tryz.func96 rfl rfl ?_;all_goals (repeat' (first|refine qi ?_|refine qg rfl ?_|refine qj ?_|refine qo ?_|refine qh ?_|refine qp ?_|refine qw ?_|(refine qc 0 ?_;refine mv ?_;refine qf ?_)|(refine qc 1 ?_;refine mv ?_;refine mv ?_;refine qf ?_)))
 have S:=(S.Zg (e:=9) (z:=1) (enc:=eS)).Zg (e:=9) (z:=1) (enc:=eS);refine qJ (σ:=Nat×Value×Value) (fun (i,v7,v8) h'=>Hs h0 h' [.sl v7 9 1 eS ((List.range i).map (anc (Xy mp) x)),.sl v8 9 1 eS ((List.range i).map (anc (Xy mp) y))]∧i≤dep x∧(∀ k,k<i→anc (Xy mp) x k≠anc (Xy mp) y k)) (fun (i,_,_)=>dep x - i) (fun (i,v7,v8)=>[(0,.map (some m)),(1,str (anc (Xy mp) x i)),(2,str (anc (Xy mp) y i)),(7,v7),(8,v8)]) (0,.slice none 0 0,.slice none 0 0) qy ?_ ?_
 ·exact ⟨S,zB0 _,fun j hj=>absurd hj (zB7 _)⟩
 clear S;rintro ⟨i,v7,v8⟩ h ⟨S,g1,g2⟩;have hll:∀ (z:List UInt8) (i:Nat),((List.range i).map (anc (Xy mp) z)).length=i:=fun z i=>by simp
 have hlx:=hll x i;have hly:=hll y i;all_goals (repeat' (first|refine qi ?_|refine qg rfl ?_|refine qj ?_|refine qo ?_|refine qp ?_|refine qw ?_|(refine qc 2 ?_;refine mv ?_;refine mv ?_;(refine tS ?_ ?_<;>intro hc)<;>(refine qf ?_))))
 ·skip
  all_goals (repeat' (first|refine qi ?_|refine qg rfl ?_|refine qj ?_|refine qo ?_|refine qh ?_|refine qp ?_|refine qw ?_))
  have S:=(show Hs h0 h [.sl v8 9 1 eS ((List.range i).map (anc (Xy mp) y)),.sl v7 9 1 eS ((List.range i).map (anc (Xy mp) x))] from S.pick)
  all_goals (repeat' (first|refine qi ?_|refine qg rfl ?_|refine qj ?_|refine qo ?_|refine qh ?_|refine qp ?_|refine qw ?_|(refine qc 6 ?_;refine mv ?_)))
  (refine qx rfl rfl rfl rfl rfl ((Gs S (by omega)).mono ?_);rintro _ h S)<;>(refine qf ?_)
  all_goals (repeat' (first|refine qi ?_|refine qg rfl ?_|refine qj ?_|refine qo ?_|refine qh ?_|refine qp ?_|refine qw ?_|(refine qc 7 ?_;refine mv ?_;refine mv ?_;(refine one 1 S ?_;clear S;intro u h S))))
  refine app (y0:=anc (Xy mp) x i) S rfl rfl ?_;clear S;intro v7 h S;(refine mv ?_);refine apd S rfl rfl (Rd.Qc S (.there .here)) ?_;clear S;intro v9 h S;(refine mv ?_;refine qf ?_);all_goals (repeat' (first|refine qi ?_|refine qg rfl ?_|refine qj ?_|refine qo ?_|refine qh ?_|refine qp ?_|refine qw ?_))
  refine qC ⟨_,rfl,?_⟩;refine ⟨yu (Xy mp) x y i,S.only .here,Gq T hx hy hd ha hxy g1 g2 hc,by rw [yt];omega⟩
 ·have hi:i<dep x:=by
   rcases zA7 i (dep x) with q|q
   ·exact q
   ·have e:i=dep x:=by omega
    rw [e] at hc;exact absurd hr hc
  all_goals (repeat' (first|refine qi ?_|refine qg rfl ?_|refine qj ?_|refine qo ?_|refine qh ?_|refine qp ?_|refine qw ?_|(refine qc 3 ?_;refine mv ?_;refine mv ?_;(refine one 1 S ?_;clear S;intro u h S))))
  refine app (y0:=anc (Xy mp) x i) S rfl rfl ?_;clear S;intro v7 h S;(refine mv ?_;refine qf ?_);all_goals (repeat' (first|refine qi ?_|refine qg rfl ?_|refine qj ?_|refine qo ?_|refine qh ?_|refine qp ?_|refine qw ?_|(refine qc 4 ?_;refine mv ?_;refine mv ?_;(refine one 1 S ?_;clear S;intro u h S))))
  refine app (y0:=anc (Xy mp) y i) S rfl rfl ?_;clear S;intro v8 h S;(refine mv ?_;refine qf ?_);all_goals (repeat' (first|refine qi ?_|refine qg rfl ?_|refine qj ?_|refine qo ?_|refine qh ?_|refine qp ?_|refine qw ?_|(refine qK 5 ?_;refine mv ?_;refine mv ?_)))
  have hBx:=B.ext w S.ext;have m1:=(X4 T hx (k:=i) (by omega)).1;have m2:=(X4 T hy (k:=i) (by omega)).1;refine lkR hBx (fun z1 hz1=>?_) (fun q=>absurd q m1);simp only [okV];(refine vl ?_;refine mv ?_;refine mv ?_);refine lkR hBx (fun z2 hz2=>?_) (fun q=>absurd q m2);simp only [okV];(refine vl ?_;refine mv ?_;refine mv ?_;refine qf ?_);rw [← Ko hz1,← Ko hz2];refine ⟨(i+1,v7,v8),?_,?_,qy⟩
  ·show dep x - (i+1)<dep x - i;omega
  ·have e1:∀ z:List UInt8,(List.range (i+1)).map (anc (Xy mp) z)=(List.range i).map (anc (Xy mp) z) ++ [anc (Xy mp) z i]:=fun z=>by rw [List.range_succ,zC9];rfl
   refine ⟨?_,by (try dsimp only);omega,Zb g2 hc⟩;dsimp only;rw [e1,e1];exact S.pick
end Go.Proofs.Xx
namespace Go.Proofs.Xx
open Go Go.Proofs
theorem vV {mp:QN} {f:List UInt8} {p:Int×List UInt8} (x:List UInt8):Xy (jZ mp f p) x=if x=f then p.2 else Xy mp x:=by
 unfold Xy;rw [Jh];by_cases e:x=f
 ·rw [if_pos e,if_pos e]
 ·rw [if_neg e,if_neg e]
theorem Ql {mp:QN} {f:List UInt8} {p:Int×List UInt8} (x:List UInt8):JU (jZ mp f p) x=if x=f then p.1 else JU mp x:=by
 unfold JU;rw [Jh];by_cases e:x=f
 ·rw [if_pos e,if_pos e]
 ·rw [if_neg e,if_neg e]
theorem ja {mp:QN} {f:List UInt8} {p:Int×List UInt8} (x:List UInt8):zG (jZ mp f p) x≠none↔(x=f∨zG mp x≠none):=by
 rw [Jh];by_cases e:x=f<;>simp [e]
theorem Yn {mp:QN} {f:List UInt8} {p:Int×List UInt8} (h:zG mp f=none):jZ mp f p=mp ++ [(f,p)]:=by
 unfold jZ;rw [YZ h]
theorem gI {α:Type} {k:List UInt8}:∀ {l:List (List UInt8×α)} {i:Nat},QT k l i≠none↔k∈l.map (·.1)
 | [],i=>by simp [QT]
 | p :: r,i=>by
  unfold QT;by_cases e:p.1=k
  ·simp [e]
  ·rw [if_neg e,gI (l:=r)];rw [List.map_cons,zE8];exact ⟨.inr,fun q=>q.resolve_left fun z=>e z.symm⟩
theorem vH {mp:QN} {x:List UInt8}:zG mp x≠none↔x∈mp.map (·.1):=by
 rw [← gI (l:=mp) (i:=0)];unfold zG;cases QT x mp 0<;>simp
structure CI (r:Rl) (mp:QN) (dep:List UInt8→Nat):Prop where
 tree:Tree r (Xy mp) dep (fun x=>zG mp x≠none)
 camp:∀ x,zG mp x≠none→JU mp x=((dep x % 2:Nat):Int)
 kn:∀ x,zG mp x≠none→gat r.us x≠none
 nd:(mp.map (·.1)).Nodup
 dl:∀ x,zG mp x≠none→dep x<mp.length
def VK (dep:List UInt8→Nat) (f:List UInt8) (d:Nat):List UInt8→Nat:=fun x=>if x=f then d else dep x
theorem CI.len {r:Rl} (H:RO r) {mp:QN} {dep:List UInt8→Nat} (I:CI r mp dep):mp.length≤64:=by
 have:=Qu I.nd (m:=r.us.map (·.name)) fun x hx=>Jk (I.kn x (vH.2 hx));have:=H.l64;simp at *;omega
theorem CI.put {r:Rl} {mp:QN} {dep:List UInt8→Nat} (I:CI r mp dep) {f n:List UInt8} {c:Int} {d:Nat} (hf:zG mp f=none) (hk:gat r.us f≠none) (h:(d=0∧c=0)∨(zG mp n≠none∧d=dep n+1∧adj r 2 n f∧c=1 - JU mp n)):CI r (jZ mp f (c,n)) (VK dep f d):=by
 refine ⟨⟨fun x hx h0=>?_⟩,fun x hx=>?_,fun x hx=>?_,?_,fun x hx=>?_⟩
 ·rw [ja] at hx;rw [ja,vV];unfold VK at h0 ⊢;by_cases e:x=f
  ·subst e;rw [if_pos rfl] at h0;rw [if_pos rfl,if_pos rfl];rcases h with ⟨h1,h2⟩|⟨h1,h2,h3,h4⟩
   ·omega
   ·have hn:n≠x:=fun q=>h1 (q ▸ hf);exact ⟨.inr h1,by rw [if_neg hn];exact h2.symm,h3⟩
  ·rw [if_neg e] at h0;rw [if_neg e,if_neg e];obtain ⟨g1,g2,g3⟩:=I.tree.up x (hx.resolve_left e) h0;have hn:Xy mp x≠f:=fun q=>g1 (q ▸ hf);exact ⟨.inr g1,by rw [if_neg hn];exact g2,g3⟩
 ·rw [ja] at hx;rw [Ql];unfold VK;by_cases e:x=f
  ·rw [if_pos e,if_pos e];rcases h with ⟨h1,h2⟩|⟨h1,h2,h3,h4⟩
   ·rw [h1];exact h2
   ·show c=_
    rw [h4,I.camp n h1,h2];omega
  ·rw [if_neg e,if_neg e];exact I.camp x (hx.resolve_left e)
 ·rw [ja] at hx;rcases hx with e|e
  ·rw [e];exact hk
  ·exact I.kn x e
 ·rw [Yn hf,zC9,zG4];refine ⟨I.nd,by simp,fun a ha b hb e=>?_⟩;simp only [List.map_cons,List.map_nil,zB5] at hb;exact vH.2 ha (e ▸ hb ▸ hf)
 ·rw [ja] at hx;unfold VK;rw [Yn hf,zB2,zD5];by_cases e:x=f
  ·rw [if_pos e];rcases h with ⟨h1,h2⟩|⟨h1,h2,h3,h4⟩
   ·omega
   ·have:=I.dl n h1;omega
  ·rw [if_neg e];have:=I.dl x (hx.resolve_left e);omega
theorem KF (fr:List UInt8→List UInt8) (x:List UInt8):∀ k,anc fr x (k+1)=anc fr (fr x) k
 | 0=>rfl
 | k+1=>congrArg fr (KF fr x k)
theorem CI.anc {r:Rl} {mp:QN} {dep:List UInt8→Nat} (I:CI r mp dep) {f:List UInt8} {p:Int×List UInt8} (hf:zG mp f=none) {x:List UInt8} (hx:zG mp x≠none):∀ {k:Nat},k≤dep x→Xx.anc (Xy (jZ mp f p)) x k=Xx.anc (Xy mp) x k
 | 0,_=>rfl
 | k+1,h=>by
  show Xy _ (Xx.anc _ x k)=Xy _ (Xx.anc _ x k)
  rw [I.anc hf hx (by omega),vV,if_neg];intro q;have:=(X4 I.tree hx (k:=k) (by omega)).1;exact this (q ▸ hf)
def jO (r:Rl) (j:Nat):List UInt8:=(r.us.getD j default).name
structure OI (r:Rl) (i:Nat) (mp:QN) (dep:List UInt8→Nat):Prop where
 ci:CI r mp dep
 cl:∀ x,zG mp x≠none→∀ y,adj r 2 x y→zG mp y≠none∧JU mp y≠JU mp x
 gm:∀ j,j<i→zG mp (jO r j)≠none
 z:∀ j,j<i→JU mp (jO r j)=0∨∃ k,k<j∧Rch r 2 (jO r k) (jO r j)
 rc:∀ x,zG mp x≠none→∃ k,k<i∧Rch r 2 (jO r k) x
structure SI (r:Rl) (i:Nat) (O:List UInt8→Prop) (mp:QN) (dep:List UInt8→Nat) (q:List (List UInt8)):Prop where
 ci:CI r mp dep
 om:∀ x,O x→zG mp x≠none
 oc:∀ x,O x→∀ y,adj r 2 x y→O y∧JU mp y≠JU mp x
 gm:∀ j,j≤i→zG mp (jO r j)≠none
 z:∀ j,j≤i→JU mp (jO r j)=0∨∃ k,k<j∧Rch r 2 (jO r k) (jO r j)
 orc:∀ x,O x→∃ k,k<i∧Rch r 2 (jO r k) x
 rt:∀ x,zG mp x≠none→¬ O x→Xx.anc (Xy mp) x (dep x)=jO r i∧Rch r 2 (jO r i) x
 qm:∀ x∈q,zG mp x≠none∧¬ O x
 qs:∀ a b,a<b→b<q.length→dep (q.getD a default)≤dep (q.getD b default)
 qd:∀ x∈q,dep x≤dep (q.getD 0 default)+1
 dn:∀ x,zG mp x≠none→¬ O x→x ∉ q→(q≠[]→dep x≤dep (q.getD 0 default))∧∀ y,adj r 2 x y→zG mp y≠none∧JU mp y≠JU mp x
 ql:q.length≤mp.length
theorem OI.root {r:Rl} {i:Nat} {mp:QN} {dep:List UInt8→Nat} (I:OI r i mp dep) (hs:zG mp (jO r i)=none) (hk:gat r.us (jO r i)≠none):SI r i (fun x=>zG mp x≠none) (jZ mp (jO r i) (0,[])) (VK dep (jO r i) 0) [jO r i]:=by
 have nm:∀ {x},zG mp x≠none→x≠jO r i:=fun hx q=>hx (q ▸ hs);refine ⟨I.ci.put hs hk (.inl ⟨rfl,rfl⟩),fun x hx=>(ja x).2 (.inr hx),fun x hx y a=>?_,fun j hj=>?_,fun j hj=>?_,I.rc,fun x hx hn=>?_,fun x hx=>?_,fun a b h1 h2=>?_,fun x hx=>?_,fun x hx h1 h2=>?_,?_⟩
 ·obtain ⟨h1,h2⟩:=I.cl x hx y a;rw [Ql,Ql,if_neg (nm h1),if_neg (nm hx)];exact ⟨h1,h2⟩
 ·rw [ja];rcases zA7 j i with q|q
  ·exact .inr (I.gm j q)
  ·obtain rfl:j=i:=by omega
   exact .inl rfl
 ·rw [Ql];rcases zA7 j i with q|q
  ·rw [if_neg (nm (I.gm j q))];exact I.z j q
  ·obtain rfl:j=i:=by omega
   exact .inl (if_pos rfl)
 ·have e:=((ja x).1 hx).resolve_right hn;subst e;have:VK dep (jO r i) 0 (jO r i)=0:=if_pos rfl;rw [this];exact ⟨rfl,.refl⟩
 ·rw [zB5] at hx;subst hx;exact ⟨(ja _).2 (.inl rfl),fun q=>q hs⟩
 ·rw [zD5] at h2;omega
 ·rw [zB5] at hx;subst hx;exact Nat.le_succ _
 ·exact absurd (zB5.2 (((ja x).1 hx).resolve_right h1)) h2
 ·rw [Yn hs];simp
theorem Y3 {l:List (List UInt8)} {x:List UInt8} (h:l≠[]):(l ++ [x]).getD 0 default=l.getD 0 default:=by
 cases l with
 | nil=>exact absurd rfl h
 | cons y l=>rfl
theorem SI.add {r:Rl} {i:Nat} {O:List UInt8→Prop} {mp:QN} {dep:List UInt8→Nat} {q:List (List UInt8)} (I:SI r i O mp dep q) (hq:q≠[]) {n f:List UInt8} (hn:q.getD 0 default=n) (hf:zG mp f=none) (hk:gat r.us f≠none) (ha:adj r 2 n f):SI r i O (jZ mp f (1 - JU mp n,n)) (VK dep f (dep n+1)) (q ++ [f]):=by
 have hn2:n∈q:=by
  rw [← hn];exact qO (List.length_pos_iff.2 hq)
 obtain ⟨nm,no⟩:=I.qm n hn2;have ne:∀ {x},zG mp x≠none→x≠f:=fun hx e=>hx (e ▸ hf);have du:∀ {x},zG mp x≠none→VK dep f (dep n+1) x=dep x:=fun hx=>if_neg (ne hx);have duf:VK dep f (dep n+1) f=dep n+1:=if_pos rfl;have fO:¬ O f:=fun h=>I.om f h hf;refine ⟨I.ci.put hf hk (.inr ⟨nm,rfl,ha,rfl⟩),fun x hx=>(ja x).2 (.inr (I.om x hx)),fun x hx y a=>?_,fun j hj=>(ja _).2 (.inr (I.gm j hj)),fun j hj=>?_,I.orc,fun x hx hn=>?_,fun x hx=>?_,fun a b h1 h2=>?_,fun x hx=>?_,fun x hx h1 h2=>?_,?_⟩
 ·obtain ⟨h1,h2⟩:=I.oc x hx y a;rw [Ql,Ql,if_neg (ne (I.om _ h1)),if_neg (ne (I.om _ hx))];exact ⟨h1,h2⟩
 ·rw [Ql,if_neg (ne (I.gm j hj))];exact I.z j hj
 ·rw [ja] at hx;by_cases e:x=f
  ·subst e;rw [duf,KF,vV,if_pos rfl];show Xx.anc _ n (dep n)=_∧_
   rw [I.ci.anc hf nm (zA3 _)];obtain ⟨h1,h2⟩:=I.rt n nm no;exact ⟨h1,h2.step ha⟩
  ·have hx:=hx.resolve_left e;rw [du hx,I.ci.anc hf hx (zA3 _)];exact I.rt x hx hn
 ·rw [ja];rcases zB8.1 hx with h|h
  ·exact ⟨.inr (I.qm x h).1,(I.qm x h).2⟩
  ·rw [zB5] at h;exact ⟨.inl h,h ▸ fO⟩
 ·rw [zB2,zD5] at h2;rw [gA1 (show a<q.length by omega),du (I.qm _ (qO (show a<q.length by omega))).1];rcases zA7 b q.length with h|h
  ·rw [gA1 h,du (I.qm _ (qO h)).1];exact I.qs a b h1 h
  ·rw [gA2 h,show b - q.length=0 by omega];show _≤VK _ _ _ f
   rw [duf];have:=I.qd _ (qO (show a<q.length by omega));rw [hn] at this;exact this
 ·rw [Y3 hq,hn,du nm];rcases zB8.1 hx with h|h
  ·rw [du (I.qm x h).1,← hn];exact I.qd x h
  ·rw [zB5.1 h,duf];exact zA3 _
 ·rw [zB8,zB5,not_or] at h2;have hx:=((ja x).1 hx).resolve_left h2.2;obtain ⟨g1,g2⟩:=I.dn x hx h1 h2.1;rw [Y3 hq,hn,du nm,du hx,← hn];refine ⟨fun _=>g1 hq,fun y a=>?_⟩;obtain ⟨k1,k2⟩:=g2 y a;rw [Ql,Ql,if_neg (ne k1),if_neg (ne hx)];exact ⟨(ja y).2 (.inr k1),k2⟩
 ·have:=I.ql;rw [Yn hf];simp;exact this
theorem SI.pop {r:Rl} {i:Nat} {O:List UInt8→Prop} {mp:QN} {dep:List UInt8→Nat} {n:List UInt8} {q:List (List UInt8)} (I:SI r i O mp dep (n :: q)) (hd:∀ y,adj r 2 n y→zG mp y≠none∧JU mp y≠JU mp n):SI r i O mp dep q:=by
 have hq0:q≠[]→dep n≤dep (q.getD 0 default):=fun hq=>by
  have:=I.qs 0 1 (by omega) (by have:=List.length_pos_iff.2 hq;simp;omega);exact this
 refine ⟨I.ci,I.om,I.oc,I.gm,I.z,I.orc,I.rt,fun x hx=>I.qm x (.tail _ hx),fun a b h1 h2=>I.qs (a+1) (b+1) (by omega) (by simp;omega),fun x hx=>?_,fun x hx h1 h2=>?_,by have:=I.ql;simp at this;omega⟩
 ·have h1:dep x≤dep n+1:=I.qd x (.tail _ hx);have h2:=hq0 (List.ne_nil_of_mem hx);omega
 ·by_cases e:x=n
  ·subst e;exact ⟨hq0,hd⟩
  ·obtain ⟨g1,g2⟩:=I.dn x hx h1 (by simp [e,h2]);refine ⟨fun hq=>?_,g2⟩;have h3:dep x≤dep n:=g1 (by simp);have:=hq0 hq;omega
theorem SI.fin {r:Rl} {i:Nat} {O:List UInt8→Prop} {mp:QN} {dep:List UInt8→Nat} (I:SI r i O mp dep []):OI r (i+1) mp dep:=by
 refine ⟨I.ci,fun x hx y a=>?_,fun j hj=>I.gm j (by omega),fun j hj=>I.z j (by omega),fun x hx=>?_⟩
 ·by_cases h:O x
  ·obtain ⟨h1,h2⟩:=I.oc x h y a;exact ⟨I.om y h1,h2⟩
  ·exact (I.dn x hx h (by simp)).2 y a
 ·by_cases h:O x
  ·obtain ⟨k,h1,h2⟩:=I.orc x h;exact ⟨k,by omega,h2⟩
  ·exact ⟨i,by omega,(I.rt x hx h).2⟩
theorem OI.skip {r:Rl} {i:Nat} {mp:QN} {dep:List UInt8→Nat} (I:OI r i mp dep) (h:zG mp (jO r i)≠none):OI r (i+1) mp dep:=by
 refine ⟨I.ci,I.cl,fun j hj=>?_,fun j hj=>?_,fun x hx=>?_⟩
 ·rcases zA7 j i with q|q
  ·exact I.gm j q
  ·obtain rfl:j=i:=by omega
   exact h
 ·rcases zA7 j i with q|q
  ·exact I.z j q
  ·obtain rfl:j=i:=by omega
   exact .inr (I.rc _ h)
 ·obtain ⟨k,h1,h2⟩:=I.rc x hx;exact ⟨k,by omega,h2⟩
theorem SI.clash {r:Rl} (H:RO r) {i:Nat} {O:List UInt8→Prop} {mp:QN} {dep:List UInt8→Nat} {q:List (List UInt8)} (I:SI r i O mp dep q) (hq:q≠[]) {n f:List UInt8} (hn:q.getD 0 default=n) (hf:zG mp f≠none) (ha:adj r 2 n f) (hc:JU mp f=JU mp n):zG mp n≠none∧dep n=dep f∧n≠f∧Xx.anc (Xy mp) n (dep n)=Xx.anc (Xy mp) f (dep n)∧dep n≤64:=by
 have hn2:n∈q:=by
  rw [← hn];exact qO (List.length_pos_iff.2 hq)
 obtain ⟨nm,no⟩:=I.qm n hn2;have fO:¬ O f:=fun h=>no (I.oc f h n ha.symm).1;have fq:f∈q:=by
  apply zG8
  intro h;exact ((I.dn f hf fO h).2 n ha.symm).2 hc.symm
 have h1:=I.qd f fq;have h2:dep (q.getD 0 default)≤dep f:=by
  obtain ⟨j,j1,j2⟩:=qQ.1 fq;rcases zF4 j with e|e
  ·subst e;rw [j2];exact zA3 _
  ·have:=I.qs 0 j e j1;rw [j2] at this;exact this
 rw [hn] at h1 h2;have h3:=I.ci.camp f hf;have h4:=I.ci.camp n nm;rw [hc,h4] at h3;have hd:dep n=dep f:=by omega
 have hl:=I.ci.len H;have:=I.ci.dl n nm;refine ⟨nm,hd,(Qy H ha).2.2,?_,by omega⟩;rw [(I.rt n nm no).1,hd,(I.rt f hf fO).1]
structure Z5 (r:Rl) (cs:List Int):Prop where
 len:cs.length=r.us.length
 b:∀ i,i<cs.length→cs.getD i default=0∨cs.getD i default=1
 ne:∀ i j,i<cs.length→j<cs.length→adj r 2 (jO r i) (jO r j)→cs.getD i default≠cs.getD j default
 z:∀ j,j<cs.length→cs.getD j default=0∨∃ k,k<j∧Rch r 2 (jO r k) (jO r j)
theorem OI.qeF {r:Rl} {mp:QN} {dep:List UInt8→Nat} (I:OI r r.us.length mp dep):Z5 r ((List.range r.us.length).map fun i=>JU mp (jO r i)):=by
 have g:∀ i,i<r.us.length→((List.range r.us.length).map fun i=>JU mp (jO r i)).getD i default=JU mp (jO r i):=fun i hi=>by
  rw [zA2];simp [hi]
 refine ⟨by simp,fun i hi=>?_,fun i j hi hj a=>?_,fun j hj=>?_⟩
 ·simp at hi;rw [g i hi,I.ci.camp _ (I.gm i hi)];omega
 ·simp at hi hj;rw [g i hi,g j hj];exact fun q=>(I.cl _ (I.gm i hi) _ a).2 q.symm
 ·simp at hj;rw [g j hj];exact I.z j hj
structure KA (r:Rl) (out:List Int):Prop where
 len:out.length=r.us.length
 rng:∀ j,j<out.length→out.getD j default = -1∨out.getD j default=0∨out.getD j default=1
 z:∀ j,j<out.length→0≤out.getD j default→out.getD j default=0∨∃ k,k<j∧Rch r 2 (jO r k) (jO r j)
 u:∀ cs,Z5 r cs→∀ j,j<out.length→0≤out.getD j default→out.getD j default=cs.getD j default
def KC (r:Rl) (out:List Int):Prop:=∀ a b,a<out.length→b<out.length→adj r 2 (jO r a) (jO r b)→0≤out.getD a default→0≤out.getD b default∧out.getD a default≠out.getD b default
theorem Px {r:Rl} {x:List UInt8} (h:gat r.us x≠none):∃ j,j<r.us.length∧jO r j=x:=by
 obtain ⟨g,h1,h2⟩:=Xo.1 h;obtain ⟨j,j1,j2⟩:=qQ.1 h1;exact ⟨j,j1,by unfold jO;rw [j2];exact h2⟩
theorem V4 {r:Rl} (H:RO r) {i j:Nat} (hi:i<r.us.length) (hj:j<r.us.length) (e:jO r i=jO r j):i=j:=by
 rcases zE7 i j with q|q|q
 ·exact absurd e (H.nd i j q hj)
 ·exact q
 ·exact absurd e.symm (H.nd j i q hi)
theorem KC.rch {r:Rl} (H:RO r) {out:List Int} (hl:out.length=r.us.length) (C:KC r out) {k:Nat} (hk:k<out.length) (h0:0≤out.getD k default) {x:List UInt8} (h:Rch r 2 (jO r k) x):∃ j,j<out.length∧jO r j=x∧0≤out.getD j default:=by
 induction h with
 | refl=>exact ⟨k,hk,rfl,h0⟩
 | step h a ih =>
  obtain ⟨j,j1,j2,j3⟩:=ih;obtain ⟨m,m1,m2⟩:=Px (Qy H a).2.1;rw [← j2,← m2] at a;exact ⟨m,by omega,m2,(C j m j1 (by omega) a j3).1⟩
structure KP (r:Rl) (i:Nat) (out0 out:List Int):Prop where
 a:KA r out
 l0:out0.length=r.us.length
 c0:KC r out0
 m0:∀ j,j<i→0≤out0.getD j default
 i0:0≤out.getD i default
 old:∀ j,j<out.length→0≤out0.getD j default→0≤out.getD j default
 nw:∀ j,j<out.length→0≤out.getD j default→0≤out0.getD j default∨Rch r 2 (jO r i) (jO r j)
theorem KP.root {r:Rl} (H:RO r) {i:Nat} {out:List Int} (A:KA r out) (C:KC r out) (hm:∀ j,j<i→0≤out.getD j default) (hi:i<out.length) (hn:out.getD i default<0):KP r i out (out.set i 0):=by
 have hg:∀ j,(out.set i (0:Int)).getD j default=if j=i then 0 else out.getD j default:=fun j=>Qh _ _ hi j
 refine ⟨⟨by simp;exact A.len,fun j hj=>?_,fun j hj h=>?_,fun cs hc j hj h=>?_⟩,A.len,C,hm,by rw [hg,if_pos rfl];exact Int.le_refl _,fun j hj h=>?_,fun j hj h=>?_⟩
 ·simp at hj;rw [hg];split
  ·exact .inr (.inl rfl)
  ·exact A.rng j hj
 ·simp at hj;rw [hg] at h ⊢;by_cases e:j=i
  ·rw [if_pos e];exact .inl rfl
  ·rw [if_neg e] at h ⊢;exact A.z j hj h
 ·simp at hj;rw [hg] at h ⊢;by_cases e:j=i
  ·rw [if_pos e,e];rcases hc.z i (by rw [hc.len,← A.len];exact hi) with z|⟨k,k1,k2⟩
   ·exact z.symm
   ·exfalso
    obtain ⟨m,m1,m2,m3⟩:=C.rch H A.len (by omega) (hm k k1) k2;have:=V4 H (by rw [← A.len];exact m1) (by rw [← A.len];exact hi) m2;rw [this] at m3;omega
  ·rw [if_neg e] at h ⊢;exact A.u cs hc j hj h
 ·rw [hg];split
  ·exact Int.le_refl _
  ·exact h
 ·rw [hg] at h;by_cases e:j=i
  ·rw [e];exact .inr .refl
  ·rw [if_neg e] at h;exact .inl h
theorem KP.step {r:Rl} {i:Nat} {out0 out:List Int} (K:KP r i out0 out) {a b:Nat} (ha:a<out.length) (hb:b<out.length) (h:adj r 2 (jO r a) (jO r b)) (h1:0≤out.getD a default) (h2:out.getD b default<0):KP r i out0 (out.set b (1 - out.getD a default)):=by
 have hl:=K.a.len;have hl0:=K.l0;have hg:∀ j,(out.set b (1 - out.getD a default)).getD j default=if j=b then 1 - out.getD a default else out.getD j default:=fun j=>Qh _ _ hb j
 have hra:=K.a.rng a ha;have hb0:¬ 0≤out0.getD b default:=fun q=>by have:=K.old b hb q;omega
 have hRa:Rch r 2 (jO r i) (jO r a):=by
  rcases K.nw a ha h1 with q|q
  ·exact absurd (K.c0 a b (by omega) (by omega) h q).1 hb0
  ·exact q
 have hib:i<b:=by
  rcases zE7 i b with q|q|q
  ·exact q
  ·have:=K.i0;rw [q] at this;omega
  ·exact absurd (K.m0 b q) hb0
 refine ⟨⟨by simp;exact hl,fun j hj=>?_,fun j hj q=>?_,fun cs hc j hj q=>?_⟩,hl0,K.c0,K.m0,?_,fun j hj q=>?_,fun j hj q=>?_⟩
 ·simp at hj;rw [hg];split
  ·omega
  ·exact K.a.rng j hj
 ·simp at hj;rw [hg] at q ⊢;by_cases e:j=b
  ·rw [e];exact .inr ⟨i,hib,hRa.step h⟩
  ·rw [if_neg e] at q ⊢;exact K.a.z j hj q
 ·simp at hj;rw [hg] at q ⊢;by_cases e:j=b
  ·rw [if_pos e,e];have e1:=K.a.u cs hc a ha h1;have e2:=hc.ne a b (by rw [hc.len];omega) (by rw [hc.len];omega) h;have e3:=hc.b b (by rw [hc.len];omega);have e4:=hc.b a (by rw [hc.len];omega);omega
  ·rw [if_neg e] at q ⊢;exact K.a.u cs hc j hj q
 ·rw [hg];split
  ·omega
  ·exact K.i0
 ·simp at hj;rw [hg];split
  ·omega
  ·exact K.old j hj q
 ·simp at hj;rw [hg] at q;by_cases e:j=b
  ·rw [e];exact .inr (hRa.step h)
  ·rw [if_neg e] at q;exact K.nw j hj q
theorem KA.no {r:Rl} {out:List Int} (A:KA r out) {a b:Nat} (ha:a<out.length) (hb:b<out.length) (h:adj r 2 (jO r a) (jO r b)) (h1:0≤out.getD a default) (e:out.getD a default=out.getD b default) (cs:List Int):¬ Z5 r cs:=fun hc=>by
 have e1:=A.u cs hc a ha h1;have e2:=A.u cs hc b hb (by omega);have hl:=A.len;exact hc.ne a b (by rw [hc.len];omega) (by rw [hc.len];omega) h (by omega)
def qbP (r:Rl) (out:List Int) (t:Ti):Prop:=t.k=2→∀ a b,a<out.length→b<out.length→jO r a=t.a→jO r b=t.b→(0≤out.getD a default↔0≤out.getD b default)∧(0≤out.getD a default→out.getD a default≠out.getD b default)
theorem KC.of {r:Rl} {out:List Int} (h:∀ t∈r.ts,qbP r out t):KC r out:=fun a b ha hb q h0=>by
 obtain ⟨t,t1,t2,t3⟩:=q;rcases t3 with ⟨q1,q2⟩|⟨q1,q2⟩
 ·obtain ⟨g1,g2⟩:=h t t1 t2 a b ha hb q1.symm q2.symm;exact ⟨g1.1 h0,g2 h0⟩
 ·obtain ⟨g1,g2⟩:=h t t1 t2 b a hb ha q2.symm q1.symm;have:=g1.2 h0;exact ⟨this,fun e=>g2 this e.symm⟩
def XU (out:List Int):Nat:=(out.map fun x=>(-x).toNat).sum
theorem kY {out:List Int} {i:Nat} {x:Int} (hi:i<out.length) (h:out.getD i default<0) (hx:0≤x):XU (out.set i x)<XU out:=by
 unfold XU;rw [List.map_set];refine Wj (by simpa using hi) ?_;rw [zx (f:=fun x:Int=>(-x).toNat) hi];omega
theorem KA.fin {r:Rl} {out:List Int} (A:KA r out) (C:KC r out) (hm:∀ j,j<out.length→0≤out.getD j default):Z5 r out∧∀ cs,Z5 r cs→cs=out:=by
 have hl:=A.len;refine ⟨⟨hl,fun i hi=>?_,fun i j hi hj a=>(C i j hi hj a (hm i hi)).2,fun j hj=>A.z j hj (hm j hj)⟩,fun cs hc=>?_⟩
 ·have:=A.rng i hi;have:=hm i hi;omega
 ·apply Q7 (by rw [hc.len,hl])
  intro i hi;rw [hc.len] at hi;exact (A.u cs hc i (by omega) (hm i (by omega))).symm
theorem RingOk.no {r:Rl} (H:RO r) {R:List (List UInt8)} (h:RingOk r R) (cs:List Int):¬ Z5 r cs:=fun hc=>by
 have h3:=h.three;have hidx:∀ i,i<R.length→∃ j,j<cs.length∧jO r j=R.getD i default:=fun i hi=>by
  obtain ⟨j,j1,j2⟩:=Px (Qy H (h.adj i hi)).1;exact ⟨j,by rw [hc.len];exact j1,j2⟩
 have hne:∀ i j,i<R.length→Xx.adj r 2 (R.getD i default) (R.getD j default)→j<R.length→∀ a b,a<cs.length→b<cs.length→jO r a=R.getD i default→jO r b=R.getD j default→cs.getD a default≠cs.getD b default:=fun i j hi ha hj a b h1 h2 e1 e2=>hc.ne a b h1 h2 (by rw [e1,e2];exact ha);obtain ⟨a0,a1,a2⟩:=hidx 0 (by omega);have key:∀ i,i<R.length→∀ a,a<cs.length→jO r a=R.getD i default→cs.getD a default=if i % 2=0 then cs.getD a0 default else 1 - cs.getD a0 default:=by
  intro i;induction i with
  | zero =>
   intro hi a h1 h2;have:a=a0:=V4 H (by rw [← hc.len];exact h1) (by rw [← hc.len];exact a1) (h2.trans a2.symm);rw [this];rfl
  | succ i ih =>
   intro hi a h1 h2;obtain ⟨b,b1,b2⟩:=hidx i (by omega);have e:=ih (by omega) b b1 b2;have ha:=h.adj i (by omega);rw [Nat.mod_eq_of_lt hi] at ha;have hn:=hne i (i+1) (by omega) ha hi b a b1 h1 b2 h2;have c1:=hc.b a h1;have c2:=hc.b b b1;have c3:=hc.b a0 a1;by_cases p:i % 2=0
   ·rw [if_pos p] at e;rw [if_neg (by omega)];omega
   ·rw [if_neg p] at e;rw [if_pos (by omega)];omega
 obtain ⟨b,b1,b2⟩:=hidx (R.length - 1) (by omega);have e:=key (R.length - 1) (by omega) b b1 b2;have hodd:=h.odd;rw [if_pos (by omega)] at e;have ha:=h.adj (R.length - 1) (by omega);rw [show R.length - 1+1=R.length by omega,Nat.mod_self] at ha;exact hne (R.length - 1) 0 (by omega) ha (by omega) b a0 b1 a1 b2 a2 e
variable [Flag]
theorem yx {h0:AH} (w:WfH h0) (v:RlV) (r:Rl) (HR:RlOk h0 v r) (H:RO r):Fn Tryz.prog Xh 102 [v.val] h0 (fun u h'=>(∃ vi cs,u = .tuple #[vi,.bool true]∧Hs h0 h' [.sl vi 3 1 eI cs]∧Z5 r cs∧∀ cs',Z5 r cs'→cs'=cs)∨(u = .tuple #[.slice none 0 0,.bool false]∧(∀ cs,¬ Z5 r cs)∧Hs h0 h' [])):=by
 have S:=Hs.start w;have h64:=H.l64;have h256:=H.l256;have hrg:=HR.rg;have hrt:=HR.rt;have hgl:=HR.len;unfold RlV.val;refine qV rfl Tryz.func102 rfl rfl ?_;all_goals (repeat' (first|refine qi ?_|(refine qc 0 ?_;(refine bx S ?_;clear S;intro b h S);refine mv ?_;refine mv ?_;refine qf ?_)))
 obtain ⟨b1,hnm⟩:∃ x,x=b:=⟨_,rfl⟩;subst hnm;replace S:Hs h0 h (.blk b1 [v.vg.val,v.vt.val] 32 :: []):=S;have S:=S.Zg (e:=3) (z:=1) (enc:=eI);all_goals (repeat' (first|refine qi ?_|refine qh ?_|(refine qc 1 ?_;refine mv ?_;refine qf ?_)|(refine qc 2 ?_;refine mv ?_;refine qf ?_)))
 refine qJ (σ:=Nat×Value) (fun (i,v4) h'=>Hs h0 h' [.sl v4 3 1 eI (List.replicate i (-1:Int)),.blk b1 [v.vg.val,v.vt.val] 32]∧i≤r.us.length) (fun (i,v4)=>r.us.length - i) (fun (i,v4)=>[(1,.pointer (some ⟨b1,0,none⟩)),(4,v4),(5,.int .i64 i)]) (0,.slice none 0 0) qy ?_ ?_
 ·exact ⟨S,zB0 _⟩
 clear S;rintro ⟨i,v4⟩ h ⟨S,g1⟩;have hrl:(List.replicate i (-1:Int)).length=i:=by simp
 all_goals (repeat' (first|refine qi ?_|refine qg rfl ?_|refine qj ?_|refine qo ?_|refine qh ?_|(refine qc 3 ?_;refine mv ?_;refine vl ?_;refine lB S rfl rfl ?_;refine Qa S ?_;(first|(refine cS ?_ ?_<;>intro hc))<;>(refine qf ?_))))
 ·have hil:i<r.us.length:=by omega
  all_goals (repeat' (first|(refine qc 5 ?_;refine mv ?_;(refine one 1 S ?_;clear S;intro u h S))))
  refine app (y0:=(-1:Int)) S rfl rfl ?_;clear S;intro v4 h S;(refine mv ?_;refine qf ?_);all_goals (repeat' (first|(refine qc 4 ?_;refine mv ?_;refine ad ?_;refine mv ?_;refine qf ?_)))
  refine ⟨(i+1,v4),?_,?_,qy⟩
  ·show r.us.length - (i+1)<r.us.length - i;omega
  ·refine ⟨?_,by (try dsimp only);omega⟩;(try dsimp only);rw [List.replicate_succ'];exact S.pick
 ·have hi:i=r.us.length:=by omega
  subst hi;have A0:KA r (List.replicate r.us.length (-1:Int)):=by
   have hg:∀ j,j<r.us.length→(List.replicate r.us.length (-1:Int)).getD j default = -1:=fun j hj=>by
    rw [zA2,List.getElem?_replicate,if_pos hj];rfl
   refine ⟨by simp,fun j hj=>?_,fun j hj h=>?_,fun cs hc j hj h=>?_⟩;all_goals simp only [List.length_replicate] at hj
   ·exact .inl (hg j hj)
   ·rw [hg j hj] at h;omega
   ·rw [hg j hj] at h;omega
  have C0:KC r (List.replicate r.us.length (-1:Int)):=fun a b ha hb _ h=>by
   simp only [List.length_replicate] at ha;rw [zA2,List.getElem?_replicate,if_pos ha] at h;exact absurd h (by decide)
  clear hrl;all_goals (repeat' (first|refine qh ?_|(refine qc 6 ?_;refine mv ?_;refine qf ?_)))
  refine qJ (σ:=Nat×List Int) (fun (i,out) h'=>Hs h0 h' [.sl v4 3 1 eI out,.blk b1 [v.vg.val,v.vt.val] 32]∧i≤r.us.length∧KA r out∧KC r out∧(∀ j,j<i→0≤out.getD j default)) (fun (i,out)=>r.us.length - i) (fun (i,out)=>[(1,.pointer (some ⟨b1,0,none⟩)),(4,v4),(6,.int .i64 i)]) (0,List.replicate r.us.length (-1:Int)) qy ?_ ?_
  ·exact ⟨S,zB0 _,A0,C0,fun j hj=>absurd hj (zB7 _)⟩
  clear S A0 C0;rintro ⟨i,out⟩ h ⟨S,k1,A,C,M⟩;have hol:=A.len;all_goals (repeat' (first|refine qi ?_|refine qg rfl ?_|refine qj ?_|refine qo ?_|(refine qc 7 ?_;refine mv ?_;refine mv ?_;refine QC S rfl rfl ?_;(first|(refine cS ?_ ?_<;>intro hc))<;>(refine qf ?_))))
  ·have hil:i<r.us.length:=by omega
   (repeat (refine qi ?_));first|refine Xv (σ:=List Int) (fun out h'=>Hs h0 h' [.sl v4 3 1 eI out,.blk b1 [v.vg.val,v.vt.val] 32]∧KA r out∧KC r out∧(∀ j,j<i+1→0≤out.getD j default)) (fun out=>[(1,.pointer (some ⟨b1,0,none⟩)),(4,v4),(6,.int .i64 i)]) ?_ ?_
   ·all_goals (repeat' (first|refine qi ?_|refine qg rfl ?_|refine qj ?_|refine qo ?_|refine qh ?_|(refine qc 9 ?_;refine mv ?_;refine mv ?_;refine qF S rfl rfl ?_;refine qB S rfl rfl ?_;(first|(refine cS ?_ ?_<;>intro hc))<;>(refine qf ?_))))
    all_goals (try simp only [zA0] at *)
    ·exact ⟨out,⟨S,A,C,Zb M (by omega)⟩,(qy)⟩
    ·have K0:=KP.root H A C M (by omega) (by omega);generalize hO:out=out0 at K0 C M
     rw [hO] at S hol;all_goals (repeat' (first|refine qi ?_|refine qh ?_|(refine qc 10 ?_;refine mv ?_;refine mv ?_;refine qF S rfl rfl ?_;(first|(refine zZ S rfl rfl ?_;clear S;intro h S));refine qf ?_)|(refine qc 11 ?_;refine mv ?_;refine qf ?_)))
     simp only [zA0] at S;refine qJ (σ:=List Int×Bool) (fun (out,ch) h'=>Hs h0 h' [.sl v4 3 1 eI out,.blk b1 [v.vg.val,v.vt.val] 32]∧KP r i out0 out∧(ch=false→∀ t∈r.ts,qbP r out t)) (fun (out,ch)=>2*XU out+(if ch then 1 else 0)) (fun (out,ch)=>[(1,.pointer (some ⟨b1,0,none⟩)),(4,v4),(6,.int .i64 i),(7,.bool ch)]) (out0.set i 0,true) qy ?_ ?_
     ·exact ⟨S,K0,fun q=>by cases q⟩
     clear S K0 A hol;rintro ⟨out,ch⟩ h ⟨S,K,Q⟩;have hol:=K.a.len;cases ch
     ·replace Q:=KC.of (Q rfl);all_goals (repeat' (first|refine qi ?_|refine qg rfl ?_|refine qo ?_|(refine qc 12 ?_;refine mv ?_;refine qf ?_)))
      refine ⟨out,⟨S,K.a,Q,fun j hj=>?_⟩,(qy)⟩;rcases zA7 j i with z|z
      ·exact K.old j (by omega) (K.m0 j z)
      ·obtain rfl:j=i:=by omega
       exact K.i0
     ·all_goals (repeat' (first|refine qi ?_|refine qg rfl ?_|refine qj ?_|refine qh ?_|(refine qc 12 ?_;refine mv ?_;refine qf ?_)|(refine qc 13 ?_;refine mv ?_;refine qf ?_)|(refine qc 14 ?_;refine mv ?_;refine qf ?_)))
      obtain ⟨s0,hs0⟩:∃ s0,XU out=s0:=⟨_,rfl⟩
      refine qJ (σ:=Nat×List Int×Bool) (fun (k,out,ch) h'=>Hs h0 h' [.sl v4 3 1 eI out,.blk b1 [v.vg.val,v.vt.val] 32]∧k≤r.ts.length∧KP r i out0 out∧(ch=false→∀ k',k'<k→qbP r out (r.ts.getD k' default))∧(ch=true→XU out<s0)∧XU out≤s0) (fun (k,out,ch)=>r.ts.length - k) (fun (k,out,ch)=>[(1,.pointer (some ⟨b1,0,none⟩)),(4,v4),(6,.int .i64 i),(7,.bool ch),(8,.int .i64 k)]) (0,out,false) qy ?_ ?_
      ·exact ⟨S,zB0 _,K,fun _ k' h=>absurd h (zB7 _),(fun q=>by cases q),Nat.le_of_eq hs0⟩
      clear S K Q hol;rintro ⟨k,out,ch⟩ h ⟨S,k1,K,p1,p2,p3⟩;have hol:=K.a.len;all_goals (repeat' (first|refine qi ?_|refine qg rfl ?_|refine qj ?_|refine qo ?_|(refine qc 15 ?_;refine mv ?_;refine vl ?_;refine lB S rfl rfl ?_;refine Qa S ?_;(first|(refine cS ?_ ?_<;>intro hc))<;>(refine qf ?_))))
      ·have hkl:k<r.ts.length:=by omega
       (repeat (refine qi ?_));first|refine Xv (σ:=List Int×Bool) (fun (out,ch) h'=>Hs h0 h' [.sl v4 3 1 eI out,.blk b1 [v.vg.val,v.vt.val] 32]∧KP r i out0 out∧(ch=false→∀ k',k'<k+1→qbP r out (r.ts.getD k' default))∧(ch=true→XU out<s0)∧XU out≤s0) (fun (out,ch)=>[(1,.pointer (some ⟨b1,0,none⟩)),(4,v4),(6,.int .i64 i),(7,.bool ch),(8,.int .i64 k)]) ?_ ?_
       ·all_goals (repeat' (first|refine qi ?_|refine qg rfl ?_|refine qj ?_|refine qo ?_|refine qh ?_|(refine qc 17 ?_;refine vl ?_;refine lB S rfl rfl ?_;refine mv ?_;refine Qv S ?_;refine fB S ?_;refine zu S ?_;(first|(refine cS ?_ ?_<;>intro hc))<;>(refine qf ?_))))
        all_goals (try simp only [zA0] at *)
        ·exact ⟨(out,ch),⟨S,K,fun q=>Zb (p1 q) (fun e=>absurd e hc),p2,p3⟩,(qy)⟩
        ·have hk2:(r.ts.getD k default).k=2:=by omega
         obtain ⟨-,-,ga,gb⟩:=H.tt _ (qO hkl);all_goals (repeat' (first|(refine qK 18 ?_;refine vl ?_;refine lB S rfl rfl ?_;refine vl ?_;refine lB S rfl rfl ?_;refine mv ?_;refine Qv S ?_;refine fB S ?_;refine zu S ?_)))
         simp only [zA0];(refine qx rfl rfl rfl rfl rfl ((J3 S.wf v.vg.val v.gs (hrg.ext w S.ext) (by omega) (r.ts.getD k default).a).mono ?_);rintro _ h ⟨⟨a,a1,a2,rfl⟩|⟨a1,rfl⟩,x⟩)<;>(replace S:=S.qL x;clear x;refine mv ?_;refine qf ?_)
         all_goals rw [HR.us] at a1
         rotate_left
         ·exact absurd a1 ga
         all_goals (repeat' (first|refine qi ?_|(refine qK 19 ?_;refine vl ?_;refine lB S rfl rfl ?_;refine vl ?_;refine lB S rfl rfl ?_;refine mv ?_;refine Qv S ?_;refine fB S ?_;refine zu S ?_)))
         simp only [zA0];(refine qx rfl rfl rfl rfl rfl ((J3 S.wf v.vg.val v.gs (hrg.ext w S.ext) (by omega) (r.ts.getD k default).b).mono ?_);rintro _ h ⟨⟨b,b1',b2,rfl⟩|⟨b1',rfl⟩,x⟩)<;>(replace S:=S.qL x;clear x;refine mv ?_;refine qf ?_)
         all_goals rw [HR.us] at b1'
         rotate_left
         ·exact absurd b1' gb
         have na:jO r a=(r.ts.getD k default).a:=(Yy a1).2.1;have nb:jO r b=(r.ts.getD k default).b:=(Yy b1').2.1;have hadj:adj r 2 (jO r a) (jO r b):=⟨_,qO hkl,hk2,.inl ⟨na.symm,nb.symm⟩⟩
         all_goals (repeat' (refine qi ?_))
         (repeat (refine qi ?_));first|refine Zj (σ:=List Int×Bool) (fun (out',ch') h'=>Hs h0 h' [.sl v4 3 1 eI out',.blk b1 [v.vg.val,v.vt.val] 32]∧KP r i out0 out'∧(ch'=false→ch=false∧out'=out∧¬ (0≤out.getD a default∧out.getD b default<0))∧(ch'=true→XU out'<s0)∧XU out'≤s0) (fun (out',ch')=>[(1,.pointer (some ⟨b1,0,none⟩)),(4,v4),(6,.int .i64 i),(7,.bool ch'),(8,.int .i64 k),(9,.int .i64 a),(10,.int .i64 b)]) ?_ ?_
         ·all_goals (repeat' (first|refine qi ?_|refine qg rfl ?_|refine qj ?_|(refine qc 20 ?_;refine mv ?_;refine mv ?_;refine qF S rfl rfl ?_;refine qB S rfl rfl ?_;(first|(refine cS ?_ ?_<;>intro hc))<;>(refine mv ?_;(first|refine off ?_|refine mv ?_);(first|refine off ?_|refine mv ?_);(first|refine off ?_|(refine qF S rfl rfl ?_));(first|refine off ?_|(refine qB S rfl rfl ?_));(first|refine off ?_|(first|(refine cS ?_ ?_<;>intro hc)))<;>(refine vl ?_;refine qf ?_)))))
          all_goals (try simp only [zA0] at *)
          ·have hra : -1≤out.getD (a:Int).toNat default∧out.getD (a:Int).toNat default≤1:=by
            have:=K.a.rng a (by omega);show -1≤out.getD a default∧out.getD a default≤1
            omega
           have hra2:out.getD a default≤1:=hra.2;have hs:=K.step (by omega) (by omega) hadj (by omega) (by omega);have hng:=kY (out:=out) (i:=b) (x:=1 - out.getD a default) (by omega) (by omega) (by omega);all_goals (repeat' (first|(refine qc 21 ?_;(iterate 4 refine mv ?_);refine qF S rfl rfl ?_;refine qB S rfl rfl ?_;refine sb ?_;refine qF S rfl rfl ?_;(first|(refine zZ S rfl rfl ?_;clear S;intro h S));refine qf ?_)|(refine qc 22 ?_;refine mv ?_;refine qf ?_)))
           simp only [zA0] at S;exact ⟨(out.set b (1 - out.getD a default),true),⟨S,hs,(fun q=>by cases q),(fun _=>by (try dsimp only);omega),by (try dsimp only);omega⟩,(qy)⟩
          ·exact ⟨(out,ch),⟨S,K,fun q=>⟨q,rfl,by omega⟩,p2,p3⟩,(qy)⟩
          ·exact ⟨(out,ch),⟨S,K,fun q=>⟨q,rfl,by omega⟩,p2,p3⟩,(qy)⟩
         clear S;rintro ⟨out1,ch1⟩ h ⟨S,K1,q1,q2,q3⟩;have hol1:=K1.a.len;(repeat (refine qi ?_));first|refine Zj (σ:=List Int×Bool) (fun (out',ch') h'=>Hs h0 h' [.sl v4 3 1 eI out',.blk b1 [v.vg.val,v.vt.val] 32]∧KP r i out0 out'∧(ch'=false→ch=false∧out'=out∧¬ (0≤out.getD a default∧out.getD b default<0)∧¬ (0≤out.getD b default∧out.getD a default<0))∧(ch'=true→XU out'<s0)∧XU out'≤s0) (fun (out',ch')=>[(1,.pointer (some ⟨b1,0,none⟩)),(4,v4),(6,.int .i64 i),(7,.bool ch'),(8,.int .i64 k),(9,.int .i64 a),(10,.int .i64 b)]) ?_ ?_
         ·all_goals (repeat' (first|refine qi ?_|refine qg rfl ?_|refine qj ?_|(refine qc 23 ?_;refine mv ?_;refine mv ?_;refine qF S rfl rfl ?_;refine qB S rfl rfl ?_;(first|(refine cS ?_ ?_<;>intro hc))<;>(refine mv ?_;(first|refine off ?_|refine mv ?_);(first|refine off ?_|refine mv ?_);(first|refine off ?_|(refine qF S rfl rfl ?_));(first|refine off ?_|(refine qB S rfl rfl ?_));(first|refine off ?_|(first|(refine cS ?_ ?_<;>intro hc)))<;>(refine vl ?_;refine qf ?_)))))
          all_goals (try simp only [zA0] at *)
          ·have hra : -1≤out1.getD (b:Int).toNat default∧out1.getD (b:Int).toNat default≤1:=by
            have:=K1.a.rng b (by omega);show -1≤out1.getD b default∧out1.getD b default≤1
            omega
           have hra2:out1.getD b default≤1:=hra.2;have hs:=K1.step (by omega) (by omega) hadj.symm (by omega) (by omega);have hng:=kY (out:=out1) (i:=a) (x:=1 - out1.getD b default) (by omega) (by omega) (by omega);all_goals (repeat' (first|(refine qc 24 ?_;(iterate 4 refine mv ?_);refine qF S rfl rfl ?_;refine qB S rfl rfl ?_;refine sb ?_;refine qF S rfl rfl ?_;(first|(refine zZ S rfl rfl ?_;clear S;intro h S));refine qf ?_)|(refine qc 25 ?_;refine mv ?_;refine qf ?_)))
           simp only [zA0] at S;exact ⟨(out1.set a (1 - out1.getD b default),true),⟨S,hs,(fun q=>by cases q),(fun _=>by (try dsimp only);omega),by (try dsimp only);omega⟩,(qy)⟩
          ·exact ⟨(out1,ch1),⟨S,K1,fun q=>by
            obtain ⟨e1,e2,e3⟩:=q1 q;refine ⟨e1,e2,e3,?_⟩;rw [← e2];omega,q2,q3⟩,(qy)⟩
          ·exact ⟨(out1,ch1),⟨S,K1,fun q=>by
            obtain ⟨e1,e2,e3⟩:=q1 q;refine ⟨e1,e2,e3,?_⟩;rw [← e2];omega,q2,q3⟩,(qy)⟩
         clear S K1 q1 q2 q3 hol1;rintro ⟨out1,ch1⟩ h ⟨S,K1,q1,q2,q3⟩;have hol1:=K1.a.len;have fin:(0≤out1.getD a default→out1.getD a default≠out1.getD b default)→ch1=false→∀ k',k'<k+1→qbP r out1 (r.ts.getD k' default):=fun hd q=>by
          obtain ⟨e1,e2,e3,e4⟩:=q1 q;refine Zb (fun k' hk'=>by rw [e2];exact p1 e1 k' hk') ?_;rw [← e2] at e3 e4;intro _ a' b' ha' hb' ea eb;have ha2:a'=a:=V4 H (by omega) (by omega) (ea.trans na.symm);have hb2:b'=b:=V4 H (by omega) (by omega) (eb.trans nb.symm);rw [ha2,hb2];exact ⟨by omega,hd⟩
         all_goals (repeat' (first|refine qi ?_|refine qg rfl ?_|refine qj ?_|(refine qK 26 ?_;refine mv ?_;refine mv ?_;refine qF S rfl rfl ?_;refine qB S rfl rfl ?_;(first|(refine cS ?_ ?_<;>intro hc))<;>(refine mv ?_;(first|refine off ?_|refine mv ?_);(first|refine off ?_|refine mv ?_);(first|refine off ?_|(refine qF S rfl rfl ?_));(first|refine off ?_|(refine qB S rfl rfl ?_));(first|refine off ?_|refine mv ?_);(first|refine off ?_|refine mv ?_);(first|refine off ?_|(refine qF S rfl rfl ?_));(first|refine off ?_|(refine qB S rfl rfl ?_));(first|refine off ?_|(first|(refine cS ?_ ?_<;>intro hc)))<;>(refine vl ?_;refine qf ?_)))))
         all_goals (try simp only [zA0] at *)
         ·all_goals (repeat' (first|(refine qc 27 ?_;refine mv ?_;refine mv ?_;refine qf ?_)))
          refine qC ⟨_,rfl,?_⟩;exact .inr ⟨rfl,K1.a.no (by omega) (by omega) hadj (by omega) (by omega),S.drop⟩
         ·exact ⟨(out1,ch1),⟨S,K1,fin (fun _=>by omega),q2,q3⟩,(qy)⟩
         ·exact ⟨(out1,ch1),⟨S,K1,fin (fun z=>by omega),q2,q3⟩,(qy)⟩
       ·clear S K p1 p2 p3 hol;rintro ⟨out,ch⟩ h ⟨S,K,p1,p2,p3⟩;all_goals (repeat' (first|(refine qc 16 ?_;refine mv ?_;refine ad ?_;refine mv ?_;refine qf ?_)))
        refine ⟨(k+1,out,ch),?_,?_,qy⟩
        ·show r.ts.length - (k+1)<r.ts.length - k;omega
        ·exact ⟨S,by (try dsimp only);omega,K,p1,p2,p3⟩
      ·have hk:k=r.ts.length:=by omega
       subst hk;refine ⟨(out,ch),?_,?_,qy⟩
       ·show 2*XU out+(if ch then 1 else 0)<2*XU _+(if true then 1 else 0)
        rw [hs0];cases ch
        ·simp;omega
        ·have:=p2 rfl;simp;omega
       ·refine ⟨S,K,fun q t ht=>?_⟩;obtain ⟨j,j1,j2⟩:=qQ.1 ht;rw [← j2];exact p1 q j j1
   ·clear S A C M hol;rintro out h ⟨S,A,C,M⟩;all_goals (repeat' (first|(refine qc 8 ?_;refine mv ?_;refine ad ?_;refine mv ?_;refine qf ?_)))
    refine ⟨(i+1,out),?_,?_,qy⟩
    ·show r.us.length - (i+1)<r.us.length - i;omega
    ·exact ⟨S,by (try dsimp only);omega,A,C,M⟩
  ·have hi:i=r.us.length:=by omega
   subst hi;obtain ⟨F1,F2⟩:=A.fin C (fun j hj=>M j (by omega));all_goals (repeat' (first|(refine qc 28 ?_;(iterate 3 refine mv ?_);refine qf ?_)))
   refine qC ⟨_,rfl,?_⟩;exact .inl ⟨v4,out,rfl,S.only .here,F1,F2⟩
end Go.Proofs.Xx
