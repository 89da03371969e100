/-
  A book is asked: names,Find,Tied,With.
-/
import Derived.Test.YtidmdnenlgjpeaaGreatDoorM10
import Derived.Test.YtidmdnenlgjpeaaGreatDoorM11
set_option linter.unusedSimpArgs false
set_option linter.unusedVariables false
set_option linter.unusedSectionVars false
set_option maxRecDepth 100000
set_option maxHeartbeats 4000000
namespace Go.Proofs.Xx
open Go Go.Proofs
def MpRd {α:Type} (h:AH) (b:Nat) (enc:α→Value) (l:List (List UInt8×α)):Prop:=∃ es clock,h.get b=some (.map es clock)∧es.map (fun e=>(e.1,e.2.1))=l.map (fun p=>(Value.string ⟨p.1.toArray⟩,enc p.2))
theorem MpRd.ext {α:Type} {h h':AH} {b:Nat} {enc:α→Value} {l:List (List UInt8×α)} (r:MpRd h b enc l) (w:WfH h) (x:Ext h h'):MpRd h' b enc l:=by
 obtain ⟨es,clock,h1,h2⟩:=r;exact ⟨es,clock,x.get w h1,h2⟩
section
variable {P:Program} {X:Extern} {sz:Nat} {L:Ks} {h h0:AH} {rs:List Rs} {ops:Array Oper} {os:List Oper} {o:Oper} {R:Ks→AH→Prop}
theorem lkR {α:Type} {b:Nat} {enc:α→Value} {l:List (List UInt8×α)} {m k:Operand} {ty kt et:TypeId} {key:List UInt8} {z:Value} {d:Tmp} {ok:Bool} (r:MpRd h b enc l)
 (w1:∀ x,zG l key=some x→KO P X sz ops os (L.put d (okV ok (enc x) true)) h R)
 (w2:zG l key=none→KO P X sz ops os (L.put d (okV ok z false)) h R)
 (ho:o.op = .lookup ty m k ok:=by exact rfl) (hg:qE ops L.tree o.guard=some true:=by exact rfl) (hm:kA L m=some (.map (some b)):=by exact rfl) (hk:kA L k=some (str key):=by exact rfl)
 (hu:P.underlying ty=some (.map kt et):=by exact rfl) (hkt:P.underlying kt=some .string:=by exact rfl) (hz:zeroV P et=some z:=by exact rfl) (hdst:o.dst=some d:=by exact rfl) (hds:Nat.blt d sz=true:=by exact rfl):KO P X sz ops (o :: os) L h R:=by
 obtain ⟨es,clock,h1,h2⟩:=r;have hT:WF P ty (str key)=some (.string,et):=by
  unfold WF;simp only [hu,hkt];rfl
 have hM:JJ (.map (some b)) h=some es:=by
  unfold JJ;simp only [h1]
 have hF:=YI (enc:=enc) (k:=key) (i:=0) h2;cases hq:zG l key with
 | none =>
  refine zI hg (v:=okV ok z false) (h':=h) ?_ (show qW sz L o.dst _=some (L.put d _) by simp only [qW,hdst,hds]) (w2 hq);rw [ho];simp only [jl,qR hm,qR hk,Qm,hT,hM,hF,YZ hq,Option.map_none,hz,qZ];rfl
 | some x =>
  obtain ⟨i,hi⟩:=yC hq;refine zI hg (v:=okV ok (enc x) true) (h':=h) ?_ (show qW sz L o.dst _=some (L.put d _) by simp only [qW,hdst,hds]) (w1 x hq);rw [ho];simp only [jl,qR hm,qR hk,Qm,hT,hM,hF,hi,Option.map_some,qZ];rfl
end
structure BkAt (h:AH) (p:Nat) (r:Rl) (s:BkS):Prop where
 bk:h.get p=some (.cells [s.vg.val,s.vt.val,.map (some s.m)] 86 none false)
 rg:Qq h s.vg.val 9 eG s.gs
 rt:Qq h s.vt.val 3 jb r.ts
 mp:MpRd h s.m (.int .i64) s.mp
 tg:∀ i,i<s.gs.length→Qq h (s.gs.getD i default).tv.val 1 eS (s.gs.getD i default).tg
 us:s.gs.map (·.toGu)=r.us
 at_:AtOk s.mp r.us
def BkRd (h:AH) (p:Nat) (r:Rl):Prop:=∃ s,BkAt h p r s
theorem BkRd.ext {h h':AH} {p:Nat} {r:Rl} (b:BkRd h p r) (w:WfH h) (x:Ext h h'):BkRd h' p r:=by
 obtain ⟨s,b⟩:=b;exact ⟨s,x.get w b.bk,b.rg.ext w x,b.rt.ext w x,b.mp.ext w x,fun i hi=>(b.tg i hi).ext w x,b.us,b.at_⟩
theorem BkAt.len {h:AH} {p:Nat} {r:Rl} {s:BkS} (b:BkAt h p r s):s.gs.length=r.us.length:=by rw [← b.us];simp
theorem BkAt.g {h:AH} {p:Nat} {r:Rl} {s:BkS} (b:BkAt h p r s) {i:Nat} (hi:i<s.gs.length):(s.gs.getD i default).toGu=r.us.getD i default:=by rw [← b.us,zx hi]
theorem Hs.qeL {h0 h:AH} {rs:List Rs} {p:Nat} {r:Rl} (S:Hs h0 h (zT p r :: rs)):BkRd h p r:=by
 obtain ⟨s,⟨q1,q2⟩,S⟩:=S.unpack;obtain ⟨fp,k⟩:=Hs.qcB (p:=TgsOk s.gs) S (.there (.there (.there (.there .here))));obtain ⟨es,clock,m1,m2,-⟩:=vG S (.there (.there (.there .here)));exact ⟨s,Zr S .here,Rd.Qc S (.there .here),Rd.Qc S (.there (.there .here)),⟨es,clock,m1,m2⟩,fun i hi=>TgsOk.rd k hi,q1,q2⟩
def SS (l:List (List UInt8)):Prop:=∀ i j,i<j→j<l.length→zB (l.getD i default) (l.getD j default)
theorem Yt {l:List (List UInt8)} (h:l.Nodup) {i j:Nat} (hij:i<j) (hj:j<l.length):l.getD i default≠l.getD j default:=by
 rw [zA2,zA2,zA4 hj,zA4 (show i<l.length by omega)];exact zD2.1 h i j (by omega) hj hij
theorem SS.of {l l':List (List UInt8)} (s:Sw 0 l.length l l') (h:Srt zB 0 l.length l') (hn:l.Nodup):SS l':=fun i j hij hj=>by
 have hl:=s.len;have hn':l'.Nodup:=s.perm.nodup_iff.2 hn;have h1:=h i j (zB0 _) hij (by omega);rcases JB h1 with q|q
 ·exact absurd q (Yt hn' hij hj)
 ·exact q
theorem SS.nodup {l:List (List UInt8)} (h:SS l):l.Nodup:=by
 rw [List.nodup_iff_pairwise_ne,zD2];intro i j hi hj hij;have:=h i j hij hj;rw [zA2,zA2,zA4 hj,zA4 hi] at this;exact vw this
def adj (r:Rl) (k:Int) (n x:List UInt8):Prop:=∃ t∈r.ts,t.k=k∧((t.a=n∧t.b=x)∨(t.b=n∧t.a=x))
theorem adj.symm {r:Rl} {k:Int} {n x:List UInt8} (h:adj r k n x):adj r k x n:=by
 obtain ⟨t,h1,h2,h3⟩:=h;exact ⟨t,h1,h2,h3.elim (fun q=>.inr ⟨q.2,q.1⟩) (fun q=>.inl ⟨q.2,q.1⟩)⟩
def Zm (k:Int) (n:List UInt8) (t:Ti):List (List UInt8):=if t.k≠k then [] else if t.a=n then [t.b] else if t.b=n then [t.a] else []
theorem Pn {r:Rl} (H:RO r) {k:Int} {n x:List UInt8}:x∈r.ts.flatMap (Zm k n)↔adj r k n x:=by
 rw [zH0];constructor
 ·rintro ⟨t,ht,hx⟩;unfold Zm at hx;split at hx
  ·cases hx
  ·rename_i hk
   split at hx
   ·rename_i ha
    exact ⟨t,ht,zF3.1 hk,.inl ⟨ha,(zB5.1 hx).symm⟩⟩
   ·split at hx
    ·rename_i hb
     exact ⟨t,ht,zF3.1 hk,.inr ⟨hb,(zB5.1 hx).symm⟩⟩
    ·cases hx
 ·rintro ⟨t,ht,hk,h⟩;refine ⟨t,ht,?_⟩;unfold Zm;rw [if_neg (by simpa using hk)];rcases h with ⟨h1,h2⟩|⟨h1,h2⟩
  ·rw [if_pos h1];simp [h2]
  ·have:=(H.tt t ht).1;rw [if_neg (fun q=>by rw [q,h1] at this;exact zh _ this),if_pos h1];simp [h2]
theorem xR {ts:List Ti} (hs:TS ts) (hlt:∀ t∈ts,zB t.a t.b) (k:Int) (n:List UInt8):(ts.flatMap (Zm k n)).Nodup:=by
 rw [List.Nodup,List.pairwise_flatMap];refine ⟨fun t ht=>?_,?_⟩
 ·unfold Zm;split
  ·exact List.Pairwise.nil
  ·split
   ·simp
   ·split<;>simp
 ·refine List.Pairwise.imp_of_mem ?_ hs;intro t u ht hu hb x hx y hy;have l1:=hlt t ht;have l2:=hlt u hu;unfold Zm at hx hy;split at hx
  ·cases hx
  ·split at hy
   ·cases hy
   ·intro e;subst e;split at hx
    ·rename_i a1
     have ex:=zB5.1 hx;split at hy
     ·rename_i a2
      have ey:=zB5.1 hy;rcases hb with q|q
      ·rw [a1,a2] at q;exact zh _ q
      ·rw [← ex,← ey] at q;exact zh _ q.2
     ·split at hy
      ·rename_i a2
       have ey:=zB5.1 hy;rw [a1,← ex] at l1;rw [a2,← ey] at l2;exact zX l1 l2
      ·cases hy
    ·split at hx
     ·rename_i a1
      have ex:=zB5.1 hx;split at hy
      ·rename_i a2
       have ey:=zB5.1 hy;rw [a1,← ex] at l1;rw [a2,← ey] at l2;exact zX l1 l2
      ·split at hy
       ·rename_i a2
        have ey:=zB5.1 hy;rcases hb with q|q
        ·rw [← ex,← ey] at q;exact zh _ q
        ·rw [a1,a2] at q;exact zh _ q.2
       ·cases hy
     ·cases hx
theorem pW (k:Int) (n:List UInt8):∀ ts:List Ti,(ts.flatMap (Zm k n)).length≤ts.length
 | []=>zA3 _
 | t :: r=>by
  have:=pW k n r;rw [zG2,zB2,zC4];have:(Zm k n t).length≤1:=by
   unfold Zm;split
   ·simp
   ·split
    ·simp
    ·split<;>simp
  omega
theorem Qu {α:Type} [DecidableEq α]:∀ {l m:List α},l.Nodup→(∀ x∈l,x∈m)→l.length≤m.length
 | [],m,_,_=>zB0 _
 | x :: l,m,h,hs=>by
  have hx:=hs x (by simp);have h2:=List.nodup_cons.1 h;have:=Qu (l:=l) (m:=m.erase x) h2.2 fun y hy=>by
   rw [List.mem_erase_of_ne (show y≠x from fun e=>h2.1 (by rw [← e];exact hy))];exact hs y (by simp [hy])
  rw [List.length_erase_of_mem hx] at this;have:0<m.length:=List.length_pos_of_mem hx;rw [zC4];omega
theorem Qy {r:Rl} (H:RO r) {k:Int} {n x:List UInt8} (h:adj r k n x):gat r.us n≠none∧gat r.us x≠none∧n≠x:=by
 obtain ⟨t,h1,h2,h3⟩:=h;obtain ⟨t1,t2,t3,t4⟩:=H.tt t h1;rcases h3 with ⟨rfl,rfl⟩|⟨rfl,rfl⟩
 ·exact ⟨t3,t4,vw t1⟩
 ·exact ⟨t4,t3,(vw t1).symm⟩
theorem Jk {us:List Gu} {n:List UInt8} (h:gat us n≠none):n∈us.map (·.name):=by
 obtain ⟨g,h1,h2⟩:=Xo.1 h;exact zF1.2 ⟨g,h1,h2⟩
theorem qaI {r:Rl} (H:RO r) (k:Int) (n:List UInt8):(r.ts.flatMap (Zm k n)).length≤64:=by
 have:=Qu (xR H.ts (fun t ht=>(H.tt t ht).1) k n) (m:=r.us.map (·.name)) fun x hx=>Jk (Qy H ((Pn H).1 hx)).2.1;have:=H.l64;simp at *;omega
variable [Flag]
theorem pV {h0:AH} (w:WfH h0) {p:Nat} {r:Rl} (B:BkRd h0 p r) (H:RO r) (n:List UInt8) (k:Int):Fn Tryz.prog Xh 27 [.pointer (some ⟨p,0,none⟩),str n,.int .u8 k] h0 (fun u h'=>∃ l,Hs h0 h' [.sl u 9 1 eS l]∧SS l∧(∀ x,x∈l↔adj r k n x)∧l.length≤64):=by
 have S:=Hs.start w;obtain ⟨s,B⟩:=B;have h64:=qaI H k n;have hb:=B.bk;have hrt:=B.rt;have h256:=H.l256;refine qV rfl Tryz.func27 rfl rfl ?_;all_goals (repeat' (first|refine qi ?_|(refine qc 0 ?_;refine mv ?_;refine qf ?_)|(refine qc 1 ?_;refine mv ?_)))
 (refine qx rfl rfl rfl rfl rfl ((QK S.wf hb).mono ?_);rintro _ h ⟨rfl,x⟩)<;>(replace S:=S.qL x;clear x;refine qf ?_)
 all_goals (repeat' (first|refine qi ?_|refine qg rfl ?_|refine qj ?_|(refine qc 3 ?_;refine mv ?_;refine qf ?_)))
 have S:=S.Zg (e:=9) (z:=1) (enc:=eS);all_goals (repeat' (first|refine qh ?_|(refine qc 4 ?_;refine mv ?_;refine vl ?_;refine vl ?_;refine vl ?_;refine lH S ?_;refine Qa S ?_;refine mv ?_;refine qf ?_)))
 refine qJ (σ:=Nat×Value) (fun (i,v) h'=>Hs h0 h' [.sl v 9 1 eS ((r.ts.take i).flatMap (Zm k n))]∧i≤r.ts.length) (fun (i,v)=>r.ts.length - i) (fun (i,v)=>[(0,.pointer (some ⟨p,0,none⟩)),(1,str n),(2,.int .u8 k),(7,v),(16,s.vt.val),(17,.int .i64 r.ts.length),(18,.int .i64 i)]) (0,.slice none 0 0) qy ?_ ?_
 ·exact ⟨S,zB0 _⟩
 clear S;rintro ⟨i,v⟩ h ⟨S,g1⟩;all_goals (repeat' (first|refine qi ?_|refine qg rfl ?_|refine qj ?_|refine qo ?_|(refine qc 5 ?_;(first|(refine cS ?_ ?_<;>intro hc))<;>(refine qf ?_))))
 ·have htl:((r.ts.take i).flatMap (Zm k n)).length≤256:=by
   have:=pW k n (r.ts.take i);simp at this ⊢;omega
  have hts:(r.ts.take (i+1)).flatMap (Zm k n)=(r.ts.take i).flatMap (Zm k n) ++ Zm k n (r.ts.getD i default):=by
   rw [zi (by omega)];simp
  (repeat (refine qi ?_));first|refine Xv (σ:=Value) (fun v h'=>Hs h0 h' [.sl v 9 1 eS ((r.ts.take (i+1)).flatMap (Zm k n))]) (fun v=>[(0,.pointer (some ⟨p,0,none⟩)),(1,str n),(2,.int .u8 k),(7,v),(16,s.vt.val),(17,.int .i64 r.ts.length),(18,.int .i64 i)]) ?_ ?_
  ·all_goals (repeat' (first|refine qi ?_|refine qh ?_))
   all_goals (repeat' (first|refine qi ?_|refine qg rfl ?_|refine qj ?_|refine qh ?_|(refine qc 6 ?_;refine Qv S ?_;refine zu S ?_;(refine al S ?_;clear S;intro b h S);(first|(refine sB S rfl rfl ?_;clear S;intro h S));refine qf ?_)|(refine qc 7 ?_;refine vl ?_;refine lB S rfl rfl ?_;refine mv ?_;(first|(refine cS ?_ ?_<;>intro hc))<;>(refine mv ?_;refine qf ?_))|(refine qc 8 ?_;refine vl ?_;refine lB S rfl rfl ?_;refine mv ?_;(refine tS ?_ ?_<;>intro hc)<;>(refine mv ?_;refine qf ?_))|(refine qc 9 ?_;refine mv ?_;refine vl ?_;refine lB S rfl rfl ?_;(refine one 1 S ?_;clear S;intro u h S))|(refine qc 10 ?_;refine vl ?_;refine lB S rfl rfl ?_;refine mv ?_;(refine tS ?_ ?_<;>intro hc)<;>(refine mv ?_;refine qf ?_))|(refine qc 11 ?_;refine mv ?_;refine vl ?_;refine lB S rfl rfl ?_;(refine one 1 S ?_;clear S;intro u h S))))
   all_goals (try simp only [zA0] at *)
   ·have e:Zm k n (r.ts.getD i default)=[]:=by unfold Zm;rw [if_pos hc]
    exact ⟨v,by rw [hts,e,zD7];exact S.pick,(qy)⟩
   ·have e:Zm k n (r.ts.getD i default)=[(r.ts.getD i default).b]:=by unfold Zm;rw [if_neg (by assumption),if_pos (by assumption)]
    refine app (y0:=(r.ts.getD i default).b) S rfl rfl ?_;clear S;intro v' h S;(refine mv ?_;refine qf ?_);all_goals (repeat' (fail))
    exact ⟨v',by rw [hts,e];exact S.pick,(qy)⟩
   ·have e:Zm k n (r.ts.getD i default)=[(r.ts.getD i default).a]:=by unfold Zm;rw [if_neg (by assumption),if_neg (by assumption),if_pos (by assumption)]
    refine app (y0:=(r.ts.getD i default).a) S rfl rfl ?_;clear S;intro v' h S;(refine mv ?_;refine qf ?_);all_goals (repeat' (fail))
    exact ⟨v',by rw [hts,e];exact S.pick,(qy)⟩
   ·have e:Zm k n (r.ts.getD i default)=[]:=by unfold Zm;rw [if_neg (by assumption),if_neg (by assumption),if_neg (by assumption)]
    exact ⟨v,by rw [hts,e,zD7];exact S.pick,(qy)⟩
  ·clear S;rintro v h S;all_goals (repeat' (first|(refine qc 12 ?_;refine ad ?_;refine mv ?_;refine qf ?_)))
   refine ⟨(i+1,v),?_,?_,qy⟩
   ·show r.ts.length - (i+1)<r.ts.length - i;omega
   ·exact ⟨S,by (try dsimp only);omega⟩
 ·obtain rfl:i=r.ts.length:=by omega
  rw [zD4] at S;all_goals (repeat' (first|(refine qc 13 ?_;refine mv ?_)))
  (refine qx rfl rfl rfl rfl rfl ((Gm S (by omega)).mono ?_);rintro _ h ⟨l,z1,z2,S⟩)<;>(refine qf ?_)
  all_goals (repeat' (first|refine qi ?_|(refine qc 14 ?_;refine mv ?_;refine mv ?_;refine qf ?_)))
  refine qC ⟨_,rfl,?_⟩;refine ⟨l,S,SS.of z1 z2 (xR H.ts (fun t ht=>(H.tt t ht).1) k n),fun x=>by rw [z1.perm.mem_iff];exact Pn H,(by rw [z1.len];exact h64)⟩
theorem qaA {h0:AH} (w:WfH h0) {p:Nat} {r:Rl} (B:BkRd h0 p r) (H:RO r):Fn Tryz.prog Xh 73 [.pointer (some ⟨p,0,none⟩)] h0 (fun u h'=>∃ l,Hs h0 h' [.sl u 9 1 eS l]∧SS l∧(∀ x,x∈l↔gat r.us x≠none)∧l.length=r.us.length):=by
 have S:=Hs.start w;obtain ⟨s,B⟩:=B;have hb:=B.bk;have hrg:=B.rg;have hgl:=B.len;have h64:=H.l64;refine qV rfl Tryz.func73 rfl rfl ?_;all_goals (repeat' (first|refine qi ?_|(refine qc 0 ?_;refine mv ?_;refine qf ?_)|(refine qc 1 ?_;refine mv ?_;refine qf ?_)))
 have S:=S.Zg (e:=9) (z:=1) (enc:=eS);all_goals (repeat' (first|refine qh ?_|(refine qc 2 ?_;refine mv ?_;refine vl ?_;refine vl ?_;refine vl ?_;refine lH S ?_;refine Qa S ?_;refine mv ?_;refine qf ?_)))
 refine qJ (σ:=Nat×Value) (fun (i,v) h'=>Hs h0 h' [.sl v 9 1 eS ((r.us.take i).map (·.name))]∧i≤r.us.length) (fun (i,v)=>r.us.length - i) (fun (i,v)=>[(3,v),(10,s.vg.val),(11,.int .i64 s.gs.length),(12,.int .i64 i)]) (0,.slice none 0 0) qy ?_ ?_
 ·exact ⟨S,zB0 _⟩
 clear S;rintro ⟨i,v⟩ h ⟨S,g1⟩;all_goals (repeat' (first|refine qi ?_|refine qg rfl ?_|refine qj ?_|refine qo ?_|refine qh ?_|(refine qc 3 ?_;(first|(refine cS ?_ ?_<;>intro hc))<;>(refine qf ?_))|(refine qc 4 ?_;refine Qv S ?_;refine zu S ?_;(refine al S ?_;clear S;intro b h S);(first|(refine sB S rfl rfl ?_;clear S;intro h S));refine qf ?_)|(refine qc 5 ?_;refine mv ?_;refine vl ?_;refine lB S rfl rfl ?_;(refine one 1 S ?_;clear S;intro u h S))))
 ·have hil:i<s.gs.length:=by omega
  have hg:=B.g hil;simp only [zA0] at *;refine app (y0:=(s.gs.getD i default).name) S rfl rfl ?_;clear S;intro v' h S;(refine mv ?_;refine qf ?_);all_goals (repeat' (first|(refine qc 6 ?_;refine ad ?_;refine mv ?_;refine qf ?_)))
  refine ⟨(i+1,v'),?_,?_,qy⟩
  ·show r.us.length - (i+1)<r.us.length - i;omega
  ·refine ⟨?_,by (try dsimp only);omega⟩;dsimp only;have e:(r.us.take (i+1)).map (·.name)=(r.us.take i).map (·.name) ++ [(s.gs.getD i default).name]:=by rw [zi (by omega),← hg];simp
   rw [e];exact S.pick
 ·obtain rfl:i=r.us.length:=by omega
  rw [zD4] at S;all_goals (repeat' (first|(refine qc 7 ?_;refine mv ?_)))
  have hl2:(r.us.map (·.name)).length<250:=by simp;omega
  (refine qx rfl rfl rfl rfl rfl ((Gm S hl2).mono ?_);rintro _ h ⟨l,z1,z2,S⟩)<;>(refine qf ?_)
  all_goals (repeat' (first|refine qi ?_|(refine qc 8 ?_;refine mv ?_;refine mv ?_;refine qf ?_)))
  refine qC ⟨_,rfl,?_⟩;have hn:(r.us.map (·.name)).Nodup:=by
   rw [List.Nodup,zD2];intro i j hi hj hij;simp only [zC5] at hi hj;have:=H.nd i j hij hj;rw [zA2,zA2,zA4 hj,zA4 hi] at this;simpa using this
  refine ⟨l,S,SS.of z1 z2 hn,fun x=>?_,(by rw [z1.len];simp)⟩;rw [z1.perm.mem_iff,Xo,zF1]
end Go.Proofs.Xx
namespace Go.Proofs.Xx
open Go Go.Proofs
def MetP (mp:List (List UInt8×Bool)) (M:List (List UInt8)):Prop:=∀ x,zG mp x=if x∈M then some true else none
theorem MetP.put {mp:List (List UInt8×Bool)} {M:List (List UInt8)} (h:MetP mp M) (n:List UInt8):MetP (jZ mp n true) (M ++ [n]):=fun x=>by
 rw [Jh,h x];by_cases e:x=n
 ·subst e;simp
 ·simp [e]
inductive Rch (r:Rl) (k:Int) (n:List UInt8):List UInt8→Prop
 | refl:Rch r k n n
 | step {x y:List UInt8} (h:Rch r k n x) (a:adj r k x y):Rch r k n y
theorem Rch.trans {r:Rl} {k:Int} {n x y:List UInt8} (h:Rch r k n x) (g:Rch r k x y):Rch r k n y:=by
 induction g with
 | refl=>exact h
 | step g a ih=>exact .step ih a
theorem Rch.symm {r:Rl} {k:Int} {n x:List UInt8} (h:Rch r k n x):Rch r k x n:=by
 induction h with
 | refl=>exact .refl
 | step h a ih=>exact Rch.trans (.step .refl a.symm) ih
structure Dfs (r:Rl) (M:List (List UInt8)) (n:List UInt8) (N:List (List UInt8)):Prop where
 nd:N.Nodup
 dj:∀ x∈N,x ∉ M
 self:n∈M∨n∈N
 kn:∀ x∈N,gat r.us x≠none
 rc:∀ x∈N,Rch r 1 n x
 cl:∀ x∈N,∀ y,adj r 1 x y→y∈M∨y∈N
def kC (r:Rl) (M:List (List UInt8)):Nat:=((r.us.map (·.name)).filter fun x=>decide (x ∉ M)).length
theorem qaL {r:Rl} {M M':List (List UInt8)} (h:∀ x∈M,x∈M'):kC r M'≤kC r M:=by
 unfold kC;refine List.Sublist.length_le ?_;generalize r.us.map (·.name)=l
 induction l with
 | nil=>exact List.Sublist.slnil
 | cons x l ih =>
  by_cases q:x∈M
  ·simp [q,h x q];simpa using ih
  ·by_cases q2:x∈M'
   ·simp [q,q2];exact List.Sublist.cons _ (by simpa using ih)
   ·simp [q,q2];simpa using ih
theorem qaM {r:Rl} {M:List (List UInt8)} {n:List UInt8} (hn:gat r.us n≠none) (h:n ∉ M):kC r (M ++ [n])<kC r M:=by
 have hm:=Jk hn;unfold kC;generalize r.us.map (·.name)=l at hm
 induction l with
 | nil=>cases hm
 | cons x l ih =>
  have mono:(l.filter fun x=>decide (x ∉ M ++ [n])).length≤(l.filter fun x=>decide (x ∉ M)).length:=by
   refine List.Sublist.length_le ?_;clear ih hm;induction l with
   | nil=>exact List.Sublist.slnil
   | cons y l ih =>
    by_cases q:y∈M
    ·simp [q];simpa using ih
    ·by_cases q2:y=n
     ·simp [q,q2,h];exact List.Sublist.cons _ (by simpa using ih)
     ·simp [q,q2];simpa using ih
  by_cases e:x=n
  ·subst e;simp only [zD8];simp [h]
   simp at mono;omega
  ·have:=ih (by rcases zE8.1 hm with q|q;exact absurd q.symm e;exact q);simp only [zD8];by_cases q:x∈M
   ·simp [q];simpa using this
   ·simp [q,e];simpa using this
def cvJ (b4 b5 b1 b6:Nat):Value:=.func (.func 72) #[] #[.pointer (some ⟨b4,0,none⟩),.pointer (some ⟨b5,0,none⟩),.pointer (some ⟨b1,0,none⟩),.pointer (some ⟨b6,0,none⟩)]
abbrev YE (p b4 b5 b1 b6 m:Nat) (mp:List (List UInt8×Bool)) (v:SlV) (C:List (List UInt8)):List Rs :=
 [.blk b4 [.map (some m)] 112,.mp m .bool mp,.blk b5 [v.val] 22,.sl v.val 9 1 eS C,.blk b1 [.pointer (some ⟨p,0,none⟩)] 40,.blk b6 [cvJ b4 b5 b1 b6] 113]
variable [Flag]
theorem qcm {h0:AH} (w:WfH h0) {p:Nat} {r:Rl} (B:BkRd h0 p r) (H:RO r) {b4 b5 b1 b6 m:Nat}:∀ (z:Nat) {rs:List Rs} {h:AH} {mp:List (List UInt8×Bool)} {v:SlV} {C M:List (List UInt8)} (n:List UInt8) (S:Hs h0 h (YE p b4 b5 b1 b6 m mp v C ++ rs)) (hm:MetP mp M) (hz:kC r M≤z) (hn:gat r.us n≠none) (hC:C.Nodup∧∀ x∈C,x∈M∧gat r.us x≠none),
 Fn Tryz.prog Xh 72 [str n,.pointer (some ⟨b4,0,none⟩),.pointer (some ⟨b5,0,none⟩),.pointer (some ⟨b1,0,none⟩),.pointer (some ⟨b6,0,none⟩)] h (fun _ h'=>∃ mp' v' N,Hs h0 h' (YE p b4 b5 b1 b6 m mp' v' (C ++ N) ++ rs)∧MetP mp' (M ++ N)∧Dfs r M n N):=by
 intro z;induction z using Nat.strongRecOn with
 | _ z ih =>
 intro rs h mp v C M n S hm hz hn hC;dsimp only [YE,List.cons_append,List.nil_append] at S;have hU:=Qu hC.1 (m:=r.us.map (·.name)) fun x hx=>Jk (hC.2 x hx).2;have h64:=H.l64;rw [zC5] at hU;refine qV rfl Tryz.func72 rfl rfl ?_;all_goals (repeat' (first|refine qi ?_|(refine qc 0 ?_;refine lB S rfl rfl ?_;refine mv ?_)))
 refine lk S (.there .here) (fun y hy=>?_) (fun hy=>?_)
 ·rw [hm n] at hy;have hM:n∈M:=by
   apply zG8
   intro q;rw [if_neg q] at hy;cases hy
  rw [if_pos hM] at hy;cases hy
  simp only [okV];(refine qf ?_);all_goals (repeat' (refine qg rfl ?_))
  refine qC ⟨_,rfl,?_⟩;exact ⟨mp,v,[],(by rw [zD7];exact S),(by rw [zD7];exact hm),⟨by simp,by simp,.inl hM,by simp,by simp,by simp⟩⟩
 ·have hM:n ∉ M:=fun q=>by rw [hm n,if_pos q] at hy;cases hy
  have hlt:=qaM hn hM;simp only [okV];(refine qf ?_);all_goals (repeat' (first|refine qi ?_|refine qg rfl ?_|refine qj ?_|(refine qc 1 ?_;refine lB S rfl rfl ?_;refine mv ?_)))
  refine up (x:=true) (key:=n) S (.there .here) (.there .here) (fun h S=>?_) (.inl rfl);have hm':=hm.put n;(refine qf ?_);all_goals (repeat' (first|refine qi ?_|(refine qc 2 ?_;refine lB S rfl rfl ?_;refine mv ?_;(refine one 1 S ?_;clear S;intro u h S))))
  refine app (y0:=n) S rfl rfl ?_;clear S;intro v1 h S;obtain ⟨v,rfl⟩:=S.sV v1;((first|(refine sB S rfl rfl ?_;clear S;intro h S));refine qf ?_);all_goals (repeat' (first|refine qi ?_|(refine qc 3 ?_;refine lB S rfl rfl ?_;refine mv ?_)))
  (refine qx rfl rfl rfl rfl rfl ((pV S.wf (B.ext w S.ext) H n 1).mono ?_);rintro u h ⟨l,x,l1,l2,l3⟩)<;>(replace S:=S.Qd x;clear x;refine QC S rfl rfl ?_;refine mv ?_;refine qf ?_)
  all_goals (repeat' (refine qh ?_))
  have S:=(show Hs h0 h (.sl u 9 1 eS l :: (YE p b4 b5 b1 b6 m (jZ mp n true) v (C ++ [n] ++ []) ++ rs)) from by
   rw [zD7];replace S:Hs h0 h (.sl u 9 1 eS l :: .sl v.val 9 1 eS (C ++ [n]) :: .blk b4 [.map (some m)] 112 :: .mp m .bool (jZ mp n true) :: .blk b5 [v.val] 22 :: .blk b1 [.pointer (some ⟨p,0,none⟩)] 40 :: .blk b6 [cvJ b4 b5 b1 b6] 113 :: rs):=S;dsimp only [YE,List.cons_append,List.nil_append];exact S.pick)
  refine qJ (σ:=Nat×List (List UInt8×Bool)×SlV×List (List UInt8)) (fun (i,mp,v,N) h'=>Hs h0 h' (.sl u 9 1 eS l :: (YE p b4 b5 b1 b6 m mp v (C ++ [n] ++ N) ++ rs))∧MetP mp (M ++ [n] ++ N)∧i≤l.length∧N.Nodup∧(∀ x∈N,x ∉ M∧x≠n∧gat r.us x≠none∧Rch r 1 n x∧∀ y,adj r 1 x y→y∈M∨y=n∨y∈N)∧∀ j,j<i→l.getD j default∈M∨l.getD j default=n∨l.getD j default∈N) (fun (i,mp,v,N)=>l.length - i) (fun (i,mp,v,N)=>[(4,.pointer (some ⟨b6,0,none⟩)),(19,u),(20,.int .i64 l.length),(21,.int .i64 i)]) (0,jZ mp n true,v,[]) qy ?_ ?_
  ·exact ⟨S,(by rw [zD7];exact hm'),zB0 _,by simp,by simp,fun j hj=>absurd hj (zB7 _)⟩
  clear S;rintro ⟨i,mp,v,N⟩ h ⟨S,k1,k2,k3,k4,k5⟩;dsimp only [YE,List.cons_append,List.nil_append] at S;all_goals (repeat' (first|refine qi ?_|refine qg rfl ?_|refine qj ?_|refine qo ?_|refine qh ?_|(refine qc 4 ?_;(first|(refine cS ?_ ?_<;>intro hc))<;>(refine qf ?_))))
  ·all_goals (repeat' (first|(refine qc 5 ?_;refine qF S rfl rfl ?_;refine qB S rfl rfl ?_;refine mv ?_;refine qf ?_)|(refine qc 6 ?_;refine lB S rfl rfl ?_;refine mv ?_)))
   simp only [zA0];have hf:=(l2 _).1 (qO (show i<l.length by omega));have hfk:=(Qy H hf).2.1;have hz2:kC r (M ++ [n] ++ N)≤kC r (M ++ [n]):=qaL fun x hx=>zB8.2 (.inl hx);have hC2:(C ++ [n] ++ N).Nodup∧∀ x∈C ++ [n] ++ N,x∈M ++ [n] ++ N∧gat r.us x≠none:=by
    refine ⟨?_,fun x hx=>?_⟩
    ·rw [zG4,zG4];refine ⟨⟨hC.1,by simp,fun a ha b hb e=>?_⟩,k3,fun a ha b hb e=>?_⟩
     ·rw [zB5] at hb;subst e;subst hb;exact hM (hC.2 _ ha).1
     ·subst e;rcases zB8.1 ha with q|q
      ·exact (k4 a hb).1 (hC.2 a q).1
      ·exact (k4 a hb).2.1 (zB5.1 q)
    ·simp only [zB8,zB5] at hx ⊢;rcases hx with (q|q)|q
     ·exact ⟨.inl (.inl (hC.2 x q).1),(hC.2 x q).2⟩
     ·exact ⟨.inl (.inr q),q ▸ hn⟩
     ·exact ⟨.inr q,(k4 x q).2.2.1⟩
   have S:=(show Hs h0 h (YE p b4 b5 b1 b6 m mp v (C ++ [n] ++ N) ++ (.sl u 9 1 eS l :: rs)) from by dsimp only [YE,List.cons_append,List.nil_append];exact S.pick)
   (refine zV rfl rfl rfl rfl ((ih (kC r (M ++ [n])) (by omega) (l.getD i default) S k1 hz2 hfk hC2).mono ?_);rintro _ h ⟨mp',v',N2,S,e1,D⟩)<;>(refine qf ?_)
   all_goals (repeat' (first|(refine qc 7 ?_;refine ad ?_;refine mv ?_;refine qf ?_)))
   refine ⟨(i+1,mp',v',N ++ N2),?_,?_,qy⟩
   ·show l.length - (i+1)<l.length - i;omega
   ·have key:∀ x,x∈M ++ [n] ++ N→x∈M∨x=n∨x∈N:=fun x hx=>by
     simp only [zB8,zB5] at hx;grind
    have fin:∀ y,(y∈M ++ [n] ++ N∨y∈N2)→y∈M∨y=n∨y∈N ++ N2:=fun y hy=>by
     rw [zB8];rcases hy with q|q
     ·rcases key y q with q|q|q
      ·exact .inl q
      ·exact .inr (.inl q)
      ·exact .inr (.inr (.inl q))
     ·exact .inr (.inr (.inr q))
    refine ⟨?_,?_,?_,?_,fun x hx=>?_,Zb (fun j hj=>?_) ?_⟩
    ·dsimp only [YE,List.cons_append,List.nil_append] at S ⊢;rw [← zF2];exact S.pick
    ·rw [← zF2];exact e1
    ·(try dsimp only);omega
    ·rw [zG4];exact ⟨k3,D.nd,fun a ha b hb e=>by subst e;exact D.dj a hb (by simp [ha])⟩
    ·rcases zB8.1 hx with q|q
     ·obtain ⟨a1,a2,a3,a4,a5⟩:=k4 x q;refine ⟨a1,a2,a3,a4,fun y hy=>?_⟩;rcases a5 y hy with q|q|q
      ·exact .inl q
      ·exact .inr (.inl q)
      ·exact .inr (.inr (zB8.2 (.inl q)))
     ·have hd:=D.dj x q;simp only [zB8,zB5,not_or] at hd;exact ⟨hd.1.1,hd.1.2,D.kn x q,(Rch.step .refl hf).trans (D.rc x q),fun y hy=>fin y (D.cl x q y hy)⟩
    ·rcases k5 j hj with q|q|q
     ·exact .inl q
     ·exact .inr (.inl q)
     ·exact .inr (.inr (zB8.2 (.inl q)))
    ·exact fin _ D.self
  ·obtain rfl:i=l.length:=by omega
   refine ⟨_,rfl,?_⟩;refine ⟨mp,v,[n] ++ N,?_,?_,⟨?_,fun x hx=>?_,.inr (by simp),fun x hx=>?_,fun x hx=>?_,fun x hx y hy=>?_⟩⟩
   ·rw [← zF2];dsimp only [YE,List.cons_append,List.nil_append];exact S.pick
   ·rw [← zF2];exact k1
   ·rw [zG4];exact ⟨by simp,k3,fun a ha b hb e=>by subst e;exact (k4 a hb).2.1 (zB5.1 ha)⟩
   ·rcases zB8.1 hx with q|q
    ·rw [zB5.1 q];exact hM
    ·exact (k4 x q).1
   ·rcases zB8.1 hx with q|q
    ·rw [zB5.1 q];exact hn
    ·exact (k4 x q).2.2.1
   ·rcases zB8.1 hx with q|q
    ·rw [zB5.1 q];exact .refl
    ·exact (k4 x q).2.2.2.1
   ·rw [zB8,zB5];rcases zB8.1 hx with q|q
    ·rw [zB5.1 q] at hy;obtain ⟨j,j1,j2⟩:=qQ.1 ((l2 y).2 hy);have:=k5 j j1;rw [j2] at this;rcases this with q|q|q
     ·exact .inl q
     ·exact .inr (.inl q)
     ·exact .inr (.inr q)
    ·rcases (k4 x q).2.2.2.2 y hy with q|q|q
     ·exact .inl q
     ·exact .inr (.inl q)
     ·exact .inr (.inr q)
end Go.Proofs.Xx
namespace Go.Proofs.Xx
open Go Go.Proofs
structure Wd where
 sv:SlV
 ws:List (List UInt8)
instance:Inhabited Wd:=⟨⟨⟨none,0,0⟩,[]⟩⟩
def vZ (w:Wd):List Value:=[w.sv.val]
def WdsOk (cs:List Wd) (h:AH) (fp:Fp):Prop:=∀ w∈cs,(Rs.rd w.sv.val 1 eS w.ws).ok h fp
abbrev yS (cs:List Wd):Rs:=.any (WdsOk cs)
theorem Hs.qcN {h0 h:AH} {rs:List Rs} {cs:List Wd} {g:Wd} {e:TypeId} (S:Hs h0 h (.sl g.sv.val e 1 eS g.ws :: yS cs :: rs)):Hs h0 h (yS (cs ++ [g]) :: rs):=by
 obtain ⟨f1,k1,k2,f2,k3,k4,k5⟩:=S.sep;refine ⟨S.ext,fun b=>f1 b∨f2 b,fun h' q g' hg=>?_,fun b hb=>?_,k5.mono fun b hb=>⟨trivial,fun q=>?_⟩⟩
 ·rcases zB8.1 hg with hg|hg
  ·exact VV (k3 h' (fun b hb=>q b (.inr hb)) g' hg) fun b hb=>.inr hb
  ·obtain rfl:=zB5.1 hg;exact VV (qcO (k1.local fun b hb=>q b (.inl hb))) fun b hb=>.inl hb
 ·rcases hb with hb|hb
  ·exact k2 b hb
  ·exact ⟨(k4 b hb).1,(k4 b hb).2.1,trivial⟩
 ·rcases q with q|q
  ·exact hb.1.2 q
  ·exact hb.2 q
theorem WdsOk.rd {h:AH} {fp:Fp} {cs:List Wd} (k:WdsOk cs h fp) {i:Nat} (hi:i<cs.length):Qq h (cs.getD i default).sv.val 1 eS (cs.getD i default).ws:=by
 have q:=k _ (qO hi);rcases q with ⟨q1,q2⟩|⟨b,o,cap,cc,e,s,r,q1,q2,q3,q4⟩
 ·exact .inl ⟨q1,by rw [q2];rfl,by rw [q2];rfl⟩
 ·exact .inr ⟨b,o,cap,cc,e,s,r,q1,q2,q4⟩
structure CirOk (r:Rl) (L:List Wd):Prop where
 ss:∀ w∈L,SS w.ws∧w.ws≠[]∧∀ x,x∈w.ws↔(gat r.us (w.ws.getD 0 default)≠none∧Rch r 1 (w.ws.getD 0 default) x)
 hd:∀ i j,i<j→j<L.length→zB ((L.getD i default).ws.getD 0 default) ((L.getD j default).ws.getD 0 default)
theorem Rch.known {r:Rl} (H:RO r) {k:Int} {n x:List UInt8} (h:Rch r k n x) (hn:gat r.us n≠none):gat r.us x≠none:=by
 induction h with
 | refl=>exact hn
 | step h a ih=>exact (Qy H a).2.1
theorem Rch.closed {r:Rl} {k:Int} {n x:List UInt8} {M:List UInt8→Prop} (h:Rch r k n x) (hn:M n) (hc:∀ x,M x→∀ y,adj r k x y→M y):M x:=by
 induction h with
 | refl=>exact hn
 | step h a ih=>exact hc _ ih _ a
theorem SS.le {l:List (List UInt8)} (h:SS l) {i j:Nat} (hij:i≤j) (hj:j<l.length):¬ zB (l.getD j default) (l.getD i default):=by
 rcases zA7 i j with q|q
 ·exact zX (h i j q hj)
 ·obtain rfl:i=j:=by omega
  exact zh _
abbrev qbA (p b4 b5 b1 b6 m:Nat) (mp:List (List UInt8×Bool)) (vc:SlV) (u:Value) (ns:List (List UInt8)) (v3:Value) (cs:List Wd):List Rs :=
 [.sl u 9 1 eS ns,.blk b4 [.map (some m)] 112,.mp m .bool mp,.blk b5 [vc.val] 22,.blk b1 [.pointer (some ⟨p,0,none⟩)] 40,.blk b6 [cvJ b4 b5 b1 b6] 113,.sl v3 22 1 vZ cs,yS cs]
structure CirI (r:Rl) (ns:List (List UInt8)) (i:Nat) (M:List (List UInt8)) (cs:List Wd):Prop where
 mem:∀ x,x∈M↔∃ w∈cs,x∈w.ws
 cl:∀ x∈M,∀ y,adj r 1 x y→y∈M
 nm:∀ j,j<i→ns.getD j default∈M
 ok:CirOk r cs
 hd:∀ j,j<cs.length→∃ k,k<i∧(cs.getD j default).ws.getD 0 default=ns.getD k default
 ln:cs.length≤i
theorem CirI.next {r:Rl} (H:RO r) {ns:List (List UInt8)} (hs:SS ns) (hns:∀ x,x∈ns↔gat r.us x≠none) {i:Nat} (hi:i<ns.length) {M N N':List (List UInt8)} {cs:List Wd} {v:SlV} (I:CirI r ns i M cs) (D:Dfs r M (ns.getD i default) N) (hn:ns.getD i default ∉ M) (hS:SS N') (hN:∀ x,x∈N'↔x∈N):CirI r ns (i+1) (M ++ N) (cs ++ [⟨v,N'⟩]):=by
 have hk:gat r.us (ns.getD i default)≠none:=(hns _).1 (qO hi);have hself:ns.getD i default∈N:=D.self.elim (fun q=>absurd q hn) id;have hcomp:∀ x,Rch r 1 (ns.getD i default) x→x∈N:=fun x hx=>by
  have:x∈M∨x∈N:=hx.closed (M:=fun x=>x∈M∨x∈N) (.inr hself) fun x h y a=>by
   rcases h with h|h
   ·exact .inl (I.cl x h y a)
   ·exact D.cl x h y a
  rcases this with q|q
  ·exact absurd (hx.symm.closed (M:=fun x=>x∈M) q I.cl) hn
  ·exact q
 have hlen:0<N'.length:=List.length_pos_of_mem ((hN _).2 hself);have h0:N'.getD 0 default=ns.getD i default:=by
  obtain ⟨j,j1,j2⟩:=qQ.1 ((hN _).2 hself);have le1:=hS.le (zB0 j) j1;rw [j2] at le1;have hm0:=(hN _).1 (qO hlen);obtain ⟨k,k1,k2⟩:=qQ.1 ((hns _).2 (D.kn _ hm0));have hki:i≤k:=by
   apply zG8
   intro q;exact D.dj _ hm0 (k2 ▸ I.nm k (by omega))
  have le2:=hs.le hki k1;rw [k2] at le2;rcases JB le1 with q|q
  ·exact q
  ·exact absurd q le2
 refine ⟨fun x=>?_,fun x hx y a=>?_,Zb (fun j hj=>zB8.2 (.inl (I.nm j hj))) (zB8.2 (.inr hself)),⟨fun w hw=>?_,fun j k hjk hk2=>?_⟩,fun j hj=>?_,by simp;exact I.ln⟩
 ·rw [zB8,I.mem];constructor
  ·rintro (⟨w,h1,h2⟩|h)
   ·exact ⟨w,by simp [h1],h2⟩
   ·exact ⟨⟨v,N'⟩,by simp,(hN x).2 h⟩
  ·rintro ⟨w,h1,h2⟩;rcases zB8.1 h1 with q|q
   ·exact .inl ⟨w,q,h2⟩
   ·rw [zB5.1 q] at h2;exact .inr ((hN x).1 h2)
 ·rw [zB8] at hx ⊢;rcases hx with q|q
  ·exact .inl (I.cl x q y a)
  ·exact D.cl x q y a
 ·rcases zB8.1 hw with q|q
  ·exact I.ok.ss w q
  ·rw [zB5.1 q];refine ⟨hS,fun e=>?_,fun x=>?_⟩
   ·simp only at e;rw [e] at hlen;exact absurd hlen (by simp)
   ·simp only [h0,hN];exact ⟨fun h=>⟨hk,D.rc x h⟩,fun h=>hcomp x h.2⟩
 ·simp only [zB2,zD5] at hk2;rw [gA1 (show j<cs.length by omega)];rcases zA7 k cs.length with q|q
  ·rw [gA1 q];exact I.ok.hd j k hjk q
  ·rw [gA2 q,show k - cs.length=0 by omega];show zB _ (N'.getD 0 default)
   rw [h0];obtain ⟨z,z1,z2⟩:=I.hd j (by omega);rw [z2];exact hs z i z1 hi
 ·simp only [zB2,zD5] at hj;rcases zA7 j cs.length with q|q
  ·obtain ⟨z,z1,z2⟩:=I.hd j q;exact ⟨z,by omega,by rw [gA1 q];exact z2⟩
  ·rw [gA2 q,show j - cs.length=0 by omega];exact ⟨i,by omega,h0⟩
variable [Flag]
theorem GZ {h0:AH} (w:WfH h0) {p:Nat} {r:Rl} (B:BkRd h0 p r) (H:RO r):Fn Tryz.prog Xh 25 [.pointer (some ⟨p,0,none⟩)] h0 (fun u h'=>∃ cs,Hs h0 h' [.sl u 22 1 vZ cs,yS cs]∧CirOk r cs∧(∀ x,gat r.us x≠none→∃ w∈cs,x∈w.ws)∧cs.length≤64):=by
 have S:=Hs.start w;have B0:=B;obtain ⟨s,B⟩:=B;have hb:=B.bk;have h64:=H.l64;refine qV rfl Tryz.func25 rfl rfl ?_;all_goals (repeat' (first|refine qi ?_|(refine qc 0 ?_;(refine bx S ?_;clear S;intro b h S);refine mv ?_;refine qf ?_)|(refine qc 1 ?_;refine lB S rfl rfl ?_)))
 (refine qx rfl rfl rfl rfl rfl ((QK S.wf (S.ext.get w hb)).mono ?_);rintro _ h ⟨rfl,x⟩)<;>(replace S:=S.qL x;clear x;refine qf ?_)
 obtain ⟨b1,hnm⟩:∃ x,x=b:=⟨_,rfl⟩;subst hnm;all_goals (repeat' (first|refine qi ?_|refine qg rfl ?_|refine qj ?_|(refine qc 3 ?_;refine mv ?_;refine qf ?_)))
 (repeat (refine qi ?_));refine qc 4 ?_;refine mkm (α:=Bool) .bool S ?_;clear S;intro m h S;((refine al S ?_;clear S;intro b h S);(first|(refine sB S rfl rfl ?_;clear S;intro h S));refine qf ?_);obtain ⟨b4,hnm⟩:∃ x,x=b:=⟨_,rfl⟩;subst hnm;all_goals (repeat' (first|refine qi ?_|(refine qc 5 ?_;(refine al S ?_;clear S;intro b h S);refine qf ?_)))
 obtain ⟨b5,hnm⟩:∃ x,x=b:=⟨_,rfl⟩;subst hnm;all_goals (repeat' (first|refine qi ?_|(refine qc 6 ?_;(refine al S ?_;clear S;intro b h S);refine qf ?_)))
 obtain ⟨b6,hnm⟩:∃ x,x=b:=⟨_,rfl⟩;subst hnm;all_goals (repeat' (first|refine qi ?_|(refine qc 7 ?_;refine vl ?_;(first|(refine sB S rfl rfl ?_;clear S;intro h S));refine qf ?_)))
 all_goals (repeat' (first|(refine qc 8 ?_;refine lB S rfl rfl ?_)))
 (refine qx rfl rfl rfl rfl rfl ((qaA S.wf (B0.ext w S.ext) H).mono ?_);rintro un h ⟨ns,x,n1,n2,n3⟩)<;>(replace S:=S.Qd x;clear x;refine QC S rfl rfl ?_;refine mv ?_;refine qf ?_)
 all_goals (repeat' (refine qh ?_))
 have S:=(S.Zg (e:=22) (z:=1) (enc:=vZ)).anyS (p:=WdsOk []) fun h' g hg=>by cases hg
 replace S:Hs h0 h (yS [] :: .sl (.slice none 0 0) 22 1 vZ [] :: .sl un 9 1 eS ns :: .blk b6 [cvJ b4 b5 b1 b6] 113 :: .blk b5 [SlV.val ⟨none,0,0⟩] 22 :: .blk b4 [.map (some m)] 112 :: .mp m .bool [] :: .blk b1 [.pointer (some ⟨p,0,none⟩)] 40 :: []):=S;have S:=(show Hs h0 h (qbA p b4 b5 b1 b6 m [] ⟨none,0,0⟩ un ns (.slice none 0 0) []) from S.pick)
 refine qJ (σ:=Nat×List (List UInt8×Bool)×SlV×List (List UInt8)×List Wd×Value) (fun (i,mp,vc,M,cs,v3) h'=>Hs h0 h' (qbA p b4 b5 b1 b6 m mp vc un ns v3 cs)∧MetP mp M∧i≤ns.length∧CirI r ns i M cs) (fun (i,mp,vc,M,cs,v3)=>ns.length - i) (fun (i,mp,vc,M,cs,v3)=>[(3,v3),(5,.pointer (some ⟨b5,0,none⟩)),(6,.pointer (some ⟨b6,0,none⟩)),(14,un),(15,.int .i64 ns.length),(16,.int .i64 i)]) (0,[],⟨none,0,0⟩,[],[],.slice none 0 0) qy ?_ ?_
 ·refine ⟨S,fun x=>by simp [zG,QT],zB0 _,⟨by simp,by simp,by simp,⟨by simp,by simp⟩,by simp,by simp⟩⟩
 clear S;rintro ⟨i,mp,vc,M,cs,v3⟩ h ⟨S,k1,k2,k3⟩;all_goals (repeat' (first|refine qi ?_|refine qg rfl ?_|refine qj ?_|refine qo ?_|refine qh ?_|(refine qc 9 ?_;(first|(refine cS ?_ ?_<;>intro hc))<;>(refine qf ?_))))
 ·all_goals (repeat' (first|refine qi ?_|(refine qc 10 ?_;refine qF S rfl rfl ?_;refine qB S rfl rfl ?_;refine mv ?_;refine qf ?_)|(refine qc 11 ?_;(first|(refine sB S rfl rfl ?_;clear S;intro h S));refine qf ?_)|(refine qc 12 ?_;refine lB S rfl rfl ?_;refine mv ?_)))
  simp only [zA0];have hk:gat r.us (ns.getD i default)≠none:=(n2 _).1 (qO (by omega));have hnl:i<ns.length:=by omega
  have S:=S.Zg (e:=9) (z:=1) (enc:=eS);replace S:Hs h0 h (.sl (SlV.val ⟨none,0,0⟩) 9 1 eS [] :: .sl un 9 1 eS ns :: .blk b4 [.map (some m)] 112 :: .mp m .bool mp :: .blk b5 [SlV.val ⟨none,0,0⟩] 22 :: .blk b1 [.pointer (some ⟨p,0,none⟩)] 40 :: .blk b6 [cvJ b4 b5 b1 b6] 113 :: .sl v3 22 1 vZ cs :: yS cs :: []):=S;have S:=(show Hs h0 h (YE p b4 b5 b1 b6 m mp ⟨none,0,0⟩ [] ++ (.sl un 9 1 eS ns :: .sl v3 22 1 vZ cs :: yS cs :: [])) from by dsimp only [YE,List.cons_append,List.nil_append];exact S.pick)
  have hC:([]:List (List UInt8)).Nodup∧∀ x∈([]:List (List UInt8)),x∈M∧gat r.us x≠none:=⟨by simp,by simp⟩
  (refine zV rfl rfl rfl rfl ((qcm w B0 H (kC r M) (ns.getD i default) S k1 (zA3 _) hk hC).mono ?_);rintro _ h ⟨mp',v',N,S,e1,D⟩)<;>(refine qf ?_)
  rw [zC0] at S;dsimp only [YE,List.cons_append,List.nil_append] at S;have hnM:0<N.length→ns.getD i default ∉ M:=fun hl q=>D.dj _ (qO hl) ((D.rc _ (qO hl)).closed (M:=fun x=>x∈M) q k3.cl);have hN64:=Qu D.nd (m:=r.us.map (·.name)) fun x hx=>Jk (D.kn x hx);rw [zC5] at hN64;all_goals (repeat' (first|refine qi ?_|refine qg rfl ?_|refine qj ?_|(refine qc 13 ?_;refine lB S rfl rfl ?_;refine QC S rfl rfl ?_;(first|(refine cS ?_ ?_<;>intro hc))<;>(refine qf ?_))))
  ·all_goals (repeat' (first|(refine qc 14 ?_;refine lB S rfl rfl ?_)))
   have S:=(show Hs h0 h (.sl v'.val 9 1 eS N :: .blk b4 [.map (some m)] 112 :: .mp m .bool mp' :: .blk b5 [v'.val] 22 :: .blk b1 [.pointer (some ⟨p,0,none⟩)] 40 :: .blk b6 [cvJ b4 b5 b1 b6] 113 :: .sl un 9 1 eS ns :: .sl v3 22 1 vZ cs :: yS cs :: []) from S.pick)
   (refine qx rfl rfl rfl rfl rfl ((Gm S (by omega)).mono ?_);rintro _ h ⟨N',z1,z2,S⟩)<;>(refine qf ?_)
   all_goals (repeat' (first|(refine qc 15 ?_;refine mv ?_;refine lB S rfl rfl ?_;(refine one 1 S ?_;clear S;intro u h S))))
   have hcl:=k3.ln;refine app (y0:=⟨v',N'⟩) S rfl rfl ?_;clear S;intro v h S;(refine mv ?_;refine qf ?_);all_goals (repeat' (first|(refine qc 16 ?_;refine ad ?_;refine mv ?_;refine qf ?_)))
   refine ⟨(i+1,mp',v',M ++ N,cs ++ [⟨v',N'⟩],v),?_,?_,qy⟩
   ·show ns.length - (i+1)<ns.length - i;omega
   ·have hl0:0<N.length:=by omega
    have S:=(show Hs h0 h (.sl v'.val 9 1 eS N' :: yS cs :: .sl un 9 1 eS ns :: .blk b4 [.map (some m)] 112 :: .mp m .bool mp' :: .blk b5 [v'.val] 22 :: .blk b1 [.pointer (some ⟨p,0,none⟩)] 40 :: .blk b6 [cvJ b4 b5 b1 b6] 113 :: .sl v 22 1 vZ (cs ++ [⟨v',N'⟩]) :: []) from S.pick)
    have S:=Hs.qcN (g:=⟨v',N'⟩) S;exact ⟨(show Hs h0 h (qbA p b4 b5 b1 b6 m mp' v' un ns v (cs ++ [⟨v',N'⟩])) from S.pick),e1,hnl,k3.next H n1 n2 hnl D (hnM hl0) (SS.of z1 z2 D.nd) fun x=>z1.perm.mem_iff⟩
  ·have hl0:N=[]:=by cases N with|nil=>rfl|cons x l=>simp at hc
   subst hl0;all_goals (repeat' (first|(refine qc 16 ?_;refine ad ?_;refine mv ?_;refine qf ?_)))
   refine ⟨(i+1,mp',v',M,cs,v3),?_,?_,qy⟩
   ·show ns.length - (i+1)<ns.length - i;omega
   ·rw [zD7] at e1;exact ⟨(show Hs h0 h (qbA p b4 b5 b1 b6 m mp' v' un ns v3 cs) from S.pick),e1,hnl,⟨k3.mem,k3.cl,Zb k3.nm (D.self.elim id (fun q=>by cases q)),k3.ok,fun j hj=>let ⟨z,z1,z2⟩:=k3.hd j hj;⟨z,by omega,z2⟩,(by have:=k3.ln;show cs.length≤i+1;omega)⟩⟩
 ·obtain rfl:i=ns.length:=by omega
  all_goals (repeat' (first|(refine qc 17 ?_;refine mv ?_;refine mv ?_;refine qf ?_)))
  refine qC ⟨_,rfl,?_⟩;dsimp only [qbA] at S;refine ⟨cs,(show Hs h0 h [.sl v3 22 1 vZ cs,yS cs] from S.pick),k3.ok,fun x hx=>?_,by have:=k3.ln;omega⟩;obtain ⟨j,j1,j2⟩:=qQ.1 ((n2 x).2 hx);have:=k3.nm j j1;rw [j2] at this;exact (k3.mem x).1 this
end Go.Proofs.Xx
namespace Go.Proofs.Xx
open Go Go.Proofs
section
variable {P:Program} {X:Extern} {sz:Nat} {L:Ks} {h h0:AH} {rs:List Rs} {ops:Array Oper} {os:List Oper} {o:Oper} {R:Ks→AH→Prop}
theorem bE {L1 L2:Ks} {x y:Operand} {ty ty2:TypeId} {a b:Bool} (w1:a=b→KO P X sz ops os L1 h R) (w2:¬ a=b→KO P X sz ops os L2 h R) (ho:o.op = .binOp .eql ty x y ty2:=by exact rfl) (hg:qE ops L.tree o.guard=some true:=by exact rfl) (hx:kA L x=some (.bool a):=by exact rfl) (hy:kA L y=some (.bool b):=by exact rfl) (hu:P.underlying ty=some .bool:=by exact rfl)
 (hp1:qW sz L o.dst (.bool true)=some L1:=by exact rfl) (hp2:qW sz L o.dst (.bool false)=some L2:=by exact rfl):KO P X sz ops (o :: os) L h R:=by
 by_cases p:a=b
 ·subst p;exact jk ho hg hx hy (v:=.bool true) (by cases a<;>simp [QL,hu]) hp1 (w1 rfl)
 ·exact jk ho hg hx hy (v:=.bool false) (by cases a<;>cases b<;>first|exact absurd rfl p|simp [QL,hu]) hp2 (w2 p)
end
theorem Q7 {α:Type} [Inhabited α] {l m:List α} (hl:l.length=m.length) (h:∀ i,i<l.length→l.getD i default=m.getD i default):l=m:=by
 apply List.ext_getElem hl
 intro i h1 h2;have:=h i h1;rwa [zA2,zA2,zA4 h1,zA4 h2] at this
theorem qd8 (a b:Ti):(zS ⟨a.a.toArray⟩ ⟨b.a.toArray⟩ && (zS ⟨a.b.toArray⟩ ⟨b.b.toArray⟩ && (a.k == b.k && true)))=true↔a=b:=by
 rw [Zd,Zd];cases a;cases b
 simp
theorem Star.snoc {h:AH} {r:Rs} {fp:Fp} (hr:r.ok h fp):∀ {l:List Rs} {U:Fp},Star h l U→(∀ b,fp b→¬ U b)→Star h (l ++ [r]) (fun b=>U b∨fp b)
 | [],U,_,_=>⟨fp,hr,fun b hb=>.inr hb,trivial⟩
 | x :: l,U,⟨fx,h1,h2,h3⟩,hd=>⟨fx,h1,fun b hb=>.inl (h2 b hb),(Star.snoc hr h3 fun b hb q=>hd b hb q.1).mono fun b hb=>by
  rcases hb with hb|hb
  ·exact ⟨.inl hb.1,hb.2⟩
  ·exact ⟨.inr hb,fun q=>hd b hb (h2 b q)⟩⟩
abbrev Zx (g:QM):Rs:=.sl g.tv.val 9 1 eS g.tg
abbrev JR (gs:List QM):Rs:=.any (fun h fp=>Star h (gs.map Zx) fp)
theorem Hs.qaN {h0 h:AH} {rs:List Rs} {gs:List QM} {g:QM} (S:Hs h0 h (.sl g.tv.val 9 1 eS g.tg :: JR gs :: rs)):Hs h0 h (JR (gs ++ [g]) :: rs):=by
 obtain ⟨f1,k1,k2,f2,k3,k4,k5⟩:=S.sep;refine ⟨S.ext,fun b=>f2 b∨f1 b,fun h' q=>?_,fun b hb=>?_,k5.mono fun b hb=>⟨trivial,fun q=>?_⟩⟩
 ·rw [zC9];exact Star.snoc (k1.local fun b hb=>q b (.inr hb)) (k3 h' fun b hb=>q b (.inl hb)) fun b hb q=>(k4 b q).2.2.2 hb
 ·rcases hb with hb|hb
  ·exact ⟨(k4 b hb).1,(k4 b hb).2.1,trivial⟩
  ·exact k2 b hb
 ·rcases q with q|q
  ·exact hb.2 q
  ·exact hb.1.2 q
theorem Star.get {h:AH} {r:Rs}:∀ {l:List Rs} {U:Fp},Star h l U→r∈l→∃ fp,r.ok h fp
 | x :: l,U,⟨fx,h1,h2,h3⟩,hr=>by
  rcases zE8.1 hr with rfl|hr
  ·exact ⟨fx,h1⟩
  ·exact Star.get h3 hr
theorem qdg {α:Type} {v:Value} {e:TypeId} {z:Nat} {enc:α→List Value} {l:List α} {h:AH} {fp:Fp} (k:(Rs.sl v e z enc l).ok h fp):Qq h v z enc l:=by
 rcases k with ⟨rfl,rfl⟩|⟨b,o,cc,slk,cap,h1,h2,h3,h4,-⟩
 ·exact .inl ⟨rfl,rfl,rfl⟩
 ·exact .inr ⟨b,o,_,cc,e,slk,false,h1,h2,h4⟩
abbrev qaa (v:RlV) (ts:List Ti):List Rs:=[.sl v.vg.val 24 9 eG v.gs,.sl v.vt.val 111 3 jb ts,JR v.gs]
theorem Hs.qdi {h0 h:AH} {rs:List Rs} {v:RlV} {r:Rl} (S:Hs h0 h (qaa v r.ts ++ rs)) (hu:v.gs.map (·.toGu)=r.us) (h1:r.us.length≤9223372036854775807) (h2:r.ts.length≤9223372036854775807) (h3:∀ g∈r.us,g.tg.length≤9223372036854775807):RlOk h v r:=by
 obtain ⟨fp,k⟩:=Hs.qcB (p:=fun h fp=>Star h (v.gs.map Zx) fp) S (.there (.there .here));refine ⟨Rd.Qc S .here,Rd.Qc S (.there .here),fun i hi=>⟨?_,?_⟩,hu,h1,h2⟩
 ·obtain ⟨fq,q⟩:=k.get (zF1.2 ⟨_,qO hi,rfl⟩);exact qdg q
 ·exact h3 _ (by rw [← hu];exact zF1.2 ⟨_,qO hi,rfl⟩)
variable [Flag]
theorem Yj {h0:AH} (w:WfH h0) (v u:Value) (l m:List (List UInt8)) (rv:Qq h0 v 1 eS l) (ru:Qq h0 u 1 eS m) (hl:l.length≤9223372036854775807) (hm:m.length≤9223372036854775807):Fn Tryz.prog Xh 60 [v,u] h0 (fun x h'=>Zk x (l=m)∧Hs h0 h' []):=by
 have S:=Hs.start w;refine qV rfl Tryz.func60 rfl rfl ?_;all_goals (repeat' (first|refine qi ?_|refine qg rfl ?_|refine qj ?_|refine qh ?_|(refine qc 0 ?_;refine mv ?_;refine qf ?_)|(refine qc 1 ?_;refine mv ?_;refine Qa S ?_;refine mv ?_;refine Qa S ?_;(first|(refine cS ?_ ?_<;>intro hc))<;>(refine qf ?_))|(refine qc 2 ?_;refine mv ?_;refine qf ?_)|(refine qc 3 ?_;refine mv ?_;refine qf ?_)))
 ·refine qC ⟨_,rfl,?_⟩;exact ⟨.inr ⟨rfl,fun q=>by subst q;exact hc rfl⟩,S⟩
 ·refine qJ (σ:=Nat) (fun i h'=>Hs h0 h' []∧i≤l.length∧∀ j,j<i→l.getD j default=m.getD j default) (fun i=>l.length - i) (fun i=>[(0,v),(1,u),(5,.int .i64 i)]) 0 qy ?_ ?_
  ·exact ⟨S,zB0 _,fun j hj=>absurd hj (zB7 _)⟩
  clear S;rintro i h ⟨S,g1,g2⟩;all_goals (repeat' (first|refine qi ?_|refine qg rfl ?_|refine qj ?_|refine qo ?_|refine qh ?_|(refine qc 4 ?_;refine mv ?_;refine mv ?_;refine Qa S ?_;(first|(refine cS ?_ ?_<;>intro hc))<;>(refine qf ?_))|(refine qc 5 ?_;refine mv ?_;refine ad ?_;refine mv ?_;refine qf ?_)|(refine qK 6 ?_;refine mv ?_;refine mv ?_;refine Qv S ?_;refine zu S ?_;refine mv ?_;refine mv ?_;refine Qv S ?_;refine zu S ?_;(refine tS ?_ ?_<;>intro hc)<;>(refine qf ?_))|(refine qc 7 ?_;refine mv ?_;refine qf ?_)|(refine qc 8 ?_;refine mv ?_;refine qf ?_)))
  all_goals (try simp only [zA0] at *)
  ·refine ⟨i+1,?_,?_,qy⟩
   ·show l.length - (i+1)<l.length - i;omega
   ·exact ⟨S,by omega,Zb g2 hc⟩
  ·refine qC ⟨_,rfl,?_⟩;exact ⟨.inr ⟨rfl,fun q=>by subst q;exact hc rfl⟩,S⟩
  ·refine qC ⟨_,rfl,?_⟩;exact ⟨.inl ⟨rfl,Q7 (by omega) fun j hj=>g2 j (by omega)⟩,S⟩
theorem kK {h0:AH} (w:WfH h0) (v u:Value) (l m:List Ti) (rv:Qq h0 v 3 jb l) (ru:Qq h0 u 3 jb m) (hl:l.length≤9223372036854775807) (hm:m.length≤9223372036854775807):Fn Tryz.prog Xh 68 [v,u] h0 (fun x h'=>Zk x (l=m)∧Hs h0 h' []):=by
 have S:=Hs.start w;refine qV rfl Tryz.func68 rfl rfl ?_;all_goals (repeat' (first|refine qi ?_|refine qg rfl ?_|refine qj ?_|refine qh ?_|(refine qc 0 ?_;refine mv ?_;refine qf ?_)|(refine qc 1 ?_;refine mv ?_;refine Qa S ?_;refine mv ?_;refine Qa S ?_;(first|(refine cS ?_ ?_<;>intro hc))<;>(refine qf ?_))|(refine qc 2 ?_;refine mv ?_;refine qf ?_)|(refine qc 3 ?_;refine mv ?_;refine qf ?_)))
 ·refine qC ⟨_,rfl,?_⟩;exact ⟨.inr ⟨rfl,fun q=>by subst q;exact hc rfl⟩,S⟩
 ·refine qJ (σ:=Nat) (fun i h'=>Hs h0 h' []∧i≤l.length∧∀ j,j<i→l.getD j default=m.getD j default) (fun i=>l.length - i) (fun i=>[(0,v),(1,u),(5,.int .i64 i)]) 0 qy ?_ ?_
  ·exact ⟨S,zB0 _,fun j hj=>absurd hj (zB7 _)⟩
  clear S;rintro i h ⟨S,g1,g2⟩;all_goals (repeat' (first|refine qi ?_|refine qg rfl ?_|refine qj ?_|refine qo ?_|refine qh ?_|(refine qc 4 ?_;refine mv ?_;refine mv ?_;refine Qa S ?_;(first|(refine cS ?_ ?_<;>intro hc))<;>(refine qf ?_))|(refine qc 5 ?_;refine mv ?_;refine ad ?_;refine mv ?_;refine qf ?_)|(refine qK 6 ?_;refine mv ?_;refine mv ?_;refine Qv S ?_;refine zu S ?_;refine mv ?_;refine mv ?_;refine Qv S ?_;refine zu S ?_;(refine gE ?_ ?_<;>intro hc)<;>(refine qf ?_))|(refine qc 7 ?_;refine mv ?_;refine qf ?_)|(refine qc 8 ?_;refine mv ?_;refine qf ?_)))
  all_goals (try simp only [zA0] at *)
  ·refine ⟨i+1,?_,?_,qy⟩
   ·show l.length - (i+1)<l.length - i;omega
   ·exact ⟨S,by omega,Zb g2 ((qd8 _ _).1 hc)⟩
  ·refine qC ⟨_,rfl,?_⟩;exact ⟨.inr ⟨rfl,fun q=>by subst q;rw [(qd8 _ _).2 rfl] at hc;cases hc⟩,S⟩
  ·refine qC ⟨_,rfl,?_⟩;exact ⟨.inl ⟨rfl,Q7 (by omega) fun j hj=>g2 j (by omega)⟩,S⟩
theorem ve {h0:AH} (w:WfH h0) (g k:QM) (rg:Qq h0 g.tv.val 1 eS g.tg) (rk:Qq h0 k.tv.val 1 eS k.tg) (hg:g.tg.length≤9223372036854775807) (hk:k.tg.length≤9223372036854775807):Fn Tryz.prog Xh 62 [gV g,gV k] h0 (fun x h'=>Zk x (g.toGu=k.toGu)∧Hs h0 h' []):=by
 have S:=Hs.start w;obtain ⟨⟨n1,n2,n3,n4,n5,n6,n7,n8,n9⟩,n10⟩:=g;obtain ⟨⟨m1,m2,m3,m4,m5,m6,m7,m8,m9⟩,m10⟩:=k;unfold gV;dsimp only at *;refine qV rfl Tryz.func62 rfl rfl ?_;all_goals (repeat' (first|refine qi ?_|(refine qc 0 ?_;(refine bx S ?_;clear S;intro b h S);(refine bx S ?_;clear S;intro b h S);refine mv ?_;refine qf ?_)|(refine qc 1 ?_;refine vl ?_;refine lB S rfl rfl ?_;refine vl ?_;refine lB S rfl rfl ?_;(refine tS ?_ ?_<;>intro hc)<;>(refine mv ?_;(first|refine off ?_|(refine vl ?_));(first|refine off ?_|(refine lB S rfl rfl ?_));(first|refine off ?_|(refine vl ?_));(first|refine off ?_|(refine lB S rfl rfl ?_));(first|refine off ?_|(refine tS ?_ ?_<;>intro hc))<;>(refine vl ?_;refine mv ?_;(first|refine off ?_|(refine vl ?_));(first|refine off ?_|(refine lB S rfl rfl ?_));(first|refine off ?_|(refine vl ?_));(first|refine off ?_|(refine lB S rfl rfl ?_));(first|refine off ?_|(refine tS ?_ ?_<;>intro hc))<;>(refine vl ?_;refine mv ?_;(first|refine off ?_|(refine vl ?_));(first|refine off ?_|(refine lB S rfl rfl ?_));(first|refine off ?_|(refine vl ?_));(first|refine off ?_|(refine lB S rfl rfl ?_));(first|refine off ?_|(first|(refine cS ?_ ?_<;>intro hc)))<;>(refine vl ?_;refine mv ?_;(first|refine off ?_|(refine vl ?_));(first|refine off ?_|(refine lB S rfl rfl ?_));(first|refine off ?_|(refine vl ?_));(first|refine off ?_|(refine lB S rfl rfl ?_));(first|refine off ?_|(first|(refine cS ?_ ?_<;>intro hc)))<;>(refine vl ?_;refine mv ?_;(first|refine off ?_|(refine vl ?_));(first|refine off ?_|(refine lB S rfl rfl ?_));(first|refine off ?_|(refine vl ?_));(first|refine off ?_|(refine lB S rfl rfl ?_));(first|refine off ?_|(refine tS ?_ ?_<;>intro hc))<;>(refine vl ?_;refine mv ?_;(first|refine off ?_|(refine vl ?_));(first|refine off ?_|(refine lB S rfl rfl ?_));(first|refine off ?_|(refine vl ?_));(first|refine off ?_|(refine lB S rfl rfl ?_));(first|refine off ?_|(refine bE ?_ ?_<;>intro hc))<;>(refine vl ?_;refine mv ?_;(first|refine off ?_|(refine vl ?_));(first|refine off ?_|(refine lB S rfl rfl ?_));(first|refine off ?_|(refine vl ?_));(first|refine off ?_|(refine lB S rfl rfl ?_));(first|refine off ?_|(refine bE ?_ ?_<;>intro hc))<;>(refine vl ?_;refine mv ?_;(first|refine off ?_|(refine vl ?_));(first|refine off ?_|(refine lB S rfl rfl ?_));(first|refine off ?_|(refine vl ?_));(first|refine off ?_|(refine lB S rfl rfl ?_));(first|(refine off ?_;refine vl ?_;refine mv ?_;refine qf ?_)|skip))))))))))))
 ·(refine qx rfl rfl rfl rfl rfl ((Yj S.wf n10.val m10.val n9 m9 (rg.ext w S.ext) (rk.ext w S.ext) hg hk).mono ?_);rintro _ h ⟨⟨rfl,z⟩|⟨rfl,z⟩,x⟩)<;>(replace S:=S.qL x;clear x;refine vl ?_;refine mv ?_;refine qf ?_)
  ·all_goals (repeat' (fail))
   refine qC ⟨_,rfl,?_⟩;refine ⟨.inl ⟨rfl,?_⟩,S.drop⟩;simp only [Gu.mk.injEq];exact ⟨by assumption,by assumption,by assumption,by assumption,by assumption,by assumption,by assumption,by assumption,z⟩
  ·all_goals (repeat' (fail))
   refine qC ⟨_,rfl,?_⟩;refine ⟨.inr ⟨rfl,fun q=>?_⟩,S.drop⟩;simp only [Gu.mk.injEq] at q;exact z q.2.2.2.2.2.2.2.2
 all_goals
  refine qC ⟨_,rfl,?_⟩;refine ⟨.inr ⟨rfl,fun q=>?_⟩,S.drop⟩;simp only [Gu.mk.injEq] at q;exact absurd (by first|exact q.1|exact q.2.1|exact q.2.2.1|exact q.2.2.2.1|exact q.2.2.2.2.1|exact q.2.2.2.2.2.1|exact q.2.2.2.2.2.2.1|exact q.2.2.2.2.2.2.2.1) hc
theorem xC {h0:AH} (w:WfH h0) (v u:Value) (gs ks:List QM) (rv:Qq h0 v 9 eG gs) (ru:Qq h0 u 9 eG ks) (tv:∀ i,i<gs.length→Qq h0 (gs.getD i default).tv.val 1 eS (gs.getD i default).tg∧(gs.getD i default).tg.length≤9223372036854775807) (tu:∀ i,i<ks.length→Qq h0 (ks.getD i default).tv.val 1 eS (ks.getD i default).tg∧(ks.getD i default).tg.length≤9223372036854775807) (hl:gs.length≤9223372036854775807) (hm:ks.length≤9223372036854775807) :
 Fn Tryz.prog Xh 67 [v,u] h0 (fun x h'=>Zk x (gs.map (·.toGu)=ks.map (·.toGu))∧Hs h0 h' []):=by
 have S:=Hs.start w;refine qV rfl Tryz.func67 rfl rfl ?_;all_goals (repeat' (first|refine qi ?_|refine qg rfl ?_|refine qj ?_|refine qh ?_|(refine qc 0 ?_;refine mv ?_;refine qf ?_)|(refine qc 1 ?_;refine mv ?_;refine Qa S ?_;refine mv ?_;refine Qa S ?_;(first|(refine cS ?_ ?_<;>intro hc))<;>(refine qf ?_))|(refine qc 2 ?_;refine mv ?_;refine qf ?_)|(refine qc 3 ?_;refine mv ?_;refine qf ?_)))
 ·refine qC ⟨_,rfl,?_⟩;exact ⟨.inr ⟨rfl,fun q=>by have:=congrArg List.length q;simp at this;omega⟩,S⟩
 ·refine qJ (σ:=Nat) (fun i h'=>Hs h0 h' []∧i≤gs.length∧∀ j,j<i→(gs.getD j default).toGu=(ks.getD j default).toGu) (fun i=>gs.length - i) (fun i=>[(0,v),(1,u),(5,.int .i64 i)]) 0 qy ?_ ?_
  ·exact ⟨S,zB0 _,fun j hj=>absurd hj (zB7 _)⟩
  clear S;rintro i h ⟨S,g1,g2⟩;all_goals (repeat' (first|refine qi ?_|refine qg rfl ?_|refine qj ?_|refine qo ?_|refine qh ?_|(refine qc 4 ?_;refine mv ?_;refine mv ?_;refine Qa S ?_;(first|(refine cS ?_ ?_<;>intro hc))<;>(refine qf ?_))|(refine qc 8 ?_;refine mv ?_;refine qf ?_)))
  ·have e1:=tv i (by omega);have e2:=tu i (by omega);all_goals (repeat' (first|(refine qK 6 ?_;refine mv ?_;refine mv ?_;refine Qv S ?_;refine zu S ?_;refine mv ?_;refine mv ?_;refine Qv S ?_;refine zu S ?_)))
   simp only [zA0];(refine qx rfl rfl rfl rfl rfl ((ve S.wf (gs.getD i default) (ks.getD i default) (e1.1.ext w S.ext) (e2.1.ext w S.ext) e1.2 e2.2).mono ?_);rintro _ h ⟨⟨rfl,z⟩|⟨rfl,z⟩,x⟩)<;>(replace S:=S.qL x;clear x;refine vl ?_;refine qf ?_)
   ·all_goals (repeat' (first|refine qg rfl ?_|refine qj ?_|(refine qc 5 ?_;refine mv ?_;refine ad ?_;refine mv ?_;refine qf ?_)))
    refine ⟨i+1,?_,?_,qy⟩
    ·show gs.length - (i+1)<gs.length - i;omega
    ·exact ⟨S,by omega,Zb g2 z⟩
   ·all_goals (repeat' (first|refine qi ?_|refine qg rfl ?_|(refine qc 7 ?_;refine mv ?_;refine qf ?_)))
    refine qC ⟨_,rfl,?_⟩;refine ⟨.inr ⟨rfl,fun q=>z ?_⟩,S⟩;rw [← zx (f:=fun g:QM=>g.toGu) (show i<gs.length by omega),← zx (f:=fun g:QM=>g.toGu) (show i<ks.length by omega),q]
  ·refine qC ⟨_,rfl,?_⟩;refine ⟨.inl ⟨rfl,Q7 (by simp;omega) fun j hj=>?_⟩,S⟩;simp at hj;rw [zx (by omega),zx (by omega)];exact g2 j (by omega)
theorem ZJ {h0:AH} (w:WfH h0) (v u:RlV) (r q:Rl) (hv:RlOk h0 v r) (hu:RlOk h0 u q):Fn Tryz.prog Xh 22 [v.val,u.val] h0 (fun x h'=>Zk x (r=q)∧Hs h0 h' []):=by
 have S:=Hs.start w;have e1:=hv.len;have e2:=hu.len;have l1:=hv.lg;have l2:=hu.lg;unfold RlV.val;refine qV rfl Tryz.func22 rfl rfl ?_;all_goals (repeat' (first|refine qi ?_|(refine qc 0 ?_;(refine bx S ?_;clear S;intro b h S);(refine bx S ?_;clear S;intro b h S);refine mv ?_;refine qf ?_)|(refine qc 1 ?_;refine vl ?_;refine lB S rfl rfl ?_;refine vl ?_;refine lB S rfl rfl ?_)))
 (refine qx rfl rfl rfl rfl rfl ((xC S.wf v.vg.val u.vg.val v.gs u.gs (hv.rg.ext w S.ext) (hu.rg.ext w S.ext) (fun i hi=>⟨(hv.tg i hi).1.ext w S.ext,(hv.tg i hi).2⟩) (fun i hi=>⟨(hu.tg i hi).1.ext w S.ext,(hu.tg i hi).2⟩) (by omega) (by omega)).mono ?_);rintro _ h ⟨⟨rfl,z⟩|⟨rfl,z⟩,x⟩)<;>(replace S:=S.qL x;clear x;refine mv ?_;(first|refine off ?_|(refine vl ?_));(first|refine off ?_|(refine lB S rfl rfl ?_));(first|refine off ?_|(refine vl ?_));(first|refine off ?_|(refine lB S rfl rfl ?_));(first|(refine off ?_;refine vl ?_;refine mv ?_;refine qf ?_)|skip))
 ·(refine qx rfl rfl rfl rfl rfl ((kK S.wf v.vt.val u.vt.val r.ts q.ts (hv.rt.ext w S.ext) (hu.rt.ext w S.ext) hv.lt hu.lt).mono ?_);rintro _ h ⟨⟨rfl,z2⟩|⟨rfl,z2⟩,x⟩)<;>(replace S:=S.qL x;clear x;refine vl ?_;refine mv ?_;refine qf ?_)
  ·all_goals (repeat' (fail))
   refine qC ⟨_,rfl,?_⟩;refine ⟨.inl ⟨rfl,?_⟩,S.drop⟩;rw [hv.us,hu.us] at z;cases r;cases q;simp only [Rl.mk.injEq];exact ⟨z,z2⟩
  ·all_goals (repeat' (fail))
   refine qC ⟨_,rfl,?_⟩;exact ⟨.inr ⟨rfl,fun e=>z2 (by rw [e])⟩,S.drop⟩
 ·all_goals (repeat' (fail))
  refine qC ⟨_,rfl,?_⟩;exact ⟨.inr ⟨rfl,fun e=>z (by rw [hv.us,hu.us,e])⟩,S.drop⟩
theorem Pi {h0:AH} (w:WfH h0) {p:Nat} {r:Rl} (B:BkRd h0 p r) (H:RO r):Fn Tryz.prog Xh 39 [.pointer (some ⟨p,0,none⟩)] h0 (fun u h'=>∃ v:RlV,u=v.val∧v.gs.map (·.toGu)=r.us∧Hs h0 h' (qaa v r.ts)):=by
 have S:=Hs.start w;obtain ⟨s,B⟩:=B;have hb:=B.bk;have hrg:=B.rg;have hgl:=B.len;have h64:=H.l64;have h256:=H.l256;refine qV rfl Tryz.func39 rfl rfl ?_;all_goals (repeat' (first|refine qi ?_|(refine qc 0 ?_;(refine al S ?_;clear S;intro b h S);refine qf ?_)|(refine qc 1 ?_;refine mv ?_)))
 (refine qx rfl rfl rfl rfl rfl ((QK S.wf (S.ext.get w hb)).mono ?_);rintro _ h ⟨rfl,x⟩)<;>(replace S:=S.qL x;clear x;refine qf ?_)
 obtain ⟨b2,hnm⟩:∃ x,x=b:=⟨_,rfl⟩;subst hnm;all_goals (repeat' (first|refine qi ?_|refine qg rfl ?_|refine qj ?_|(refine qc 3 ?_;(refine al S ?_;clear S;intro b h S);refine qf ?_)))
 obtain ⟨b3,hnm⟩:∃ x,x=b:=⟨_,rfl⟩;subst hnm;have S:=((S.Zg (e:=24) (z:=9) (enc:=eG))).anyS (p:=fun h fp=>Star h (([]:List QM).map Zx) fp) fun h'=>trivial;replace S:Hs h0 h [JR [],.sl (SlV.val ⟨none,0,0⟩) 24 9 eG [],.blk b3 [SlV.val ⟨none,0,0⟩,.slice none 0 0] 32,.blk b2 [.slice none 0 0,.slice none 0 0] 32]:=S;all_goals (repeat' (first|refine qh ?_|(refine qc 4 ?_;refine mv ?_;refine vl ?_;refine vl ?_;refine vl ?_;refine lH S ?_;refine Qa S ?_;refine mv ?_;refine qf ?_)))
 refine qJ (σ:=Nat×SlV×List QM) (fun (i,vg,gs) h'=>Hs h0 h' [JR gs,.sl vg.val 24 9 eG gs,.blk b3 [vg.val,.slice none 0 0] 32,.blk b2 [.slice none 0 0,.slice none 0 0] 32]∧i≤r.us.length∧gs.map (·.toGu)=r.us.take i) (fun (i,vg,gs)=>r.us.length - i) (fun (i,vg,gs)=>[(0,.pointer (some ⟨p,0,none⟩)),(2,.pointer (some ⟨b2,0,none⟩)),(3,.pointer (some ⟨b3,0,none⟩)),(13,s.vg.val),(14,.int .i64 s.gs.length),(15,.int .i64 i)]) (0,⟨none,0,0⟩,[]) qy ?_ ?_
 ·exact ⟨S,zB0 _,rfl⟩
 clear S;rintro ⟨i,vg,gs⟩ h ⟨S,g1,g2⟩;all_goals (repeat' (first|refine qi ?_|refine qg rfl ?_|refine qj ?_|refine qo ?_|refine qh ?_|(refine qc 5 ?_;(first|(refine cS ?_ ?_<;>intro hc))<;>(refine qf ?_))))
 ·have hil:i<s.gs.length:=by omega
  have hg:=B.g hil;have h4:=(wu (H.chk _ (qO (show i<r.us.length by omega)))).2.2.2.1;have hl4:(s.gs.getD i default).tg.length≤1000000:=by rw [hg];omega
  have hgs:gs.length≤64:=by have:=congrArg List.length g2;simp at this;omega
  all_goals (repeat' (first|(refine qc 6 ?_;refine Qv S ?_;refine zu S ?_;(refine al S ?_;clear S;intro b h S);(first|(refine sB S rfl rfl ?_;clear S;intro h S));refine qf ?_)))
  simp only [zA0] at S;simp only [zA0];replace S:Hs h0 h [.blk b (eG (s.gs.getD i default)) 24,JR gs,.sl vg.val 24 9 eG gs,.blk b3 [vg.val,.slice none 0 0] 32,.blk b2 [.slice none 0 0,.slice none 0 0] 32]:=S;(repeat (refine qi ?_));refine Q9 (id:=7) [(1,(0,2))] [some (b3)] ?_;refine qA ?_;(first|(refine vl ?_<;>refine qf ⟨⟨by (first|exact True.intro),rfl⟩,?_⟩));refine qA ?_;(first|(refine lB S rfl rfl ?_<;>refine qf ⟨⟨by (first|exact Or.inr rfl),rfl⟩,?_⟩));refine qA ?_;(first|(refine lB S rfl rfl ?_<;>refine qf ⟨⟨by (first|exact True.intro),rfl⟩,?_⟩));((refine qA ?_;first|refine qx rfl rfl rfl rfl rfl ((yL S.wf (s.gs.getD i default) ((B.tg i hil).ext w S.ext) hl4).mono ?_));rintro _ h ⟨tv,rfl,x⟩)<;>((refine qf ⟨⟨True.intro,?_⟩,?_⟩;(focus ((show keepsX _ _ _ _ _;simp only [keepsX];(repeat' (first|exact True.intro|refine And.intro ?_ ?_));all_goals (intro hw;first|exact x.ext.old _ S.bB)))));replace S:=S.Qd x;clear x;refine qA ?_;(first|((refine one 9 S ?_;have S0:=S;clear S;intro u h S);refine qf ⟨⟨True.intro,?_⟩,?_⟩;(focus ((show keepsX _ _ _ _ _;simp only [keepsX];(repeat' (first|exact True.intro|refine And.intro ?_ ?_));all_goals (intro hw;first|exact (S.gB).trans (S0.gB).symm))));clear S0)))
  refine qA ?_;refine app (y0:={ s.gs.getD i default with tv:=tv }) S rfl rfl ?_;have S0:=S;clear S;intro v h S;obtain ⟨vg',rfl⟩:=S.sV v;refine qf ⟨⟨True.intro,?_⟩,?_⟩;(focus ((show keepsX _ _ _ _ _;simp only [keepsX];(repeat' (first|exact True.intro|refine And.intro ?_ ?_));all_goals (intro hw;first|exact (S.gB).trans (S0.gB).symm))));clear S0;(refine qA ?_;(first|(refine vl ?_<;>refine qf ⟨⟨by (first|exact True.intro),rfl⟩,?_⟩));refine qA ?_;(first|((refine sB S rfl rfl ?_;have S0:=S;clear S;intro h S);refine qf ⟨⟨True.intro,?_⟩,?_⟩;(focus ((show keepsX _ _ _ _ _;simp only [keepsX];(repeat' (first|exact True.intro|refine And.intro ?_ ?_));all_goals (intro hw;first|exact absurd hw (by decide +kernel)))));clear S0));refine ZG ?_);all_goals (repeat' (first|(refine qc 8 ?_;refine ad ?_;refine mv ?_;refine qf ?_)))
  refine ⟨(i+1,vg',gs ++ [{ s.gs.getD i default with tv:=tv }]),?_,?_,qy⟩
  ·show r.us.length - (i+1)<r.us.length - i;omega
  ·replace S:Hs h0 h (.sl vg'.val 24 9 eG (gs ++ [{ s.gs.getD i default with tv:=tv }]) :: .sl tv.val 9 1 eS (s.gs.getD i default).tg :: .blk b (eG (s.gs.getD i default)) 24 :: JR gs :: .blk b3 [vg'.val,.slice none 0 0] 32 :: .blk b2 [.slice none 0 0,.slice none 0 0] 32 :: []):=S;have S:=(show Hs h0 h (.sl tv.val 9 1 eS (s.gs.getD i default).tg :: JR gs :: .sl vg'.val 24 9 eG (gs ++ [{ s.gs.getD i default with tv:=tv }]) :: .blk b3 [vg'.val,.slice none 0 0] 32 :: .blk b2 [.slice none 0 0,.slice none 0 0] 32 :: []) from S.pick)
   refine ⟨Hs.qaN (g:={ s.gs.getD i default with tv:=tv }) S,by (try dsimp only);omega,?_⟩;dsimp only;rw [zi (by omega),zC9,g2,← hg];rfl
 ·obtain rfl:i=r.us.length:=by omega
  rw [zD4] at g2;all_goals (repeat' (first|(refine qc 9 ?_;refine mv ?_;refine vl ?_;refine vl ?_;refine vl ?_;refine lH S ?_)))
  (refine qx rfl rfl rfl rfl rfl ((qaw S.wf s.vt.val r.ts (B.rt.ext w S.ext) (by omega)).mono ?_);rintro v h x)<;>(replace S:=S.Qd x;clear x;obtain ⟨vt',rfl⟩:=S.sV v;refine vl ?_;(first|(refine sB S rfl rfl ?_;clear S;intro h S));refine qf ?_)
  all_goals (repeat' (first|refine qi ?_|(refine qc 10 ?_;refine lB S rfl rfl ?_;(first|(refine sB S rfl rfl ?_;clear S;intro h S));refine qf ?_)))
  refine qC ⟨_,Za S rfl (by first|exact .there (.there (.there (.there .here)))) (by exact rfl) (by exact rfl),?_⟩;refine ⟨⟨vg,vt',gs⟩,rfl,g2,?_⟩;exact (show Hs h0 h [.sl vg.val 24 9 eG gs,.sl vt'.val 111 3 jb r.ts,JR gs] from S.pick)
end Go.Proofs.Xx
namespace Go.Proofs.Xx
open Go Go.Proofs
structure Chg (h h':AH) (b:Nat) (o:AObj):Prop where
 at_:h'.get b=some o
 old:∀ j,j≠b→j<h.next→h'.get j=h.get j
 next:h.next≤h'.next
 wf:WfH h'
theorem Chg.trans {h h' h'':AH} {b:Nat} {o o':AObj} (c:Chg h h' b o) (d:Chg h' h'' b o'):Chg h h'' b o' :=
 ⟨d.at_,fun j hj hn=>(d.old j hj (zE4 hn c.next)).trans (c.old j hj hn),zD0 c.next d.next,d.wf⟩
theorem Ws {c:List Value} {o:Nat} (h:o≤c.length):splice c o []=c:=by simp [splice]
section
variable {P:Program} {X:Extern} {sz:Nat} {L L':Ks} {h:AH} {ops:Array Oper} {os:List Oper} {o:Oper} {R:Ks→AH→Prop}
theorem rw3 {x lo hi mx:Operand} {vl vr vm:Value} {ty e' e:TypeId} {b o' n cap l r m z:Nat} {cc:List Value} {slk:Option Nat} {ro:Bool} (hb:h.get b=some (.cells cc e slk ro)) (wf:WfH h)
 (w:∀ h',Chg h h' b (.cells cc e slk ro)→KO P X sz ops os L' h' R) (ho:o.op = .slice ty x (some lo) (some hi) (some mx):=by exact rfl) (hg:qE ops L.tree o.guard=some true:=by exact rfl) (hx:kA L x=some (.slice (some ⟨b,o',none⟩) n cap):=by exact rfl)
 (h1:kA L lo=some vl:=by exact rfl) (h2:kA L hi=some vr:=by exact rfl) (h3:kA L mx=some vm:=by exact rfl) (b1:zt (some vl) 0=some l:=by exact rfl) (b2:zt (some vr) n=some r:=by exact rfl) (b3:zt (some vm) cap=some m:=by exact rfl)
 (hc:l≤r∧r≤m∧m≤cap:=by omega) (hu:P.underlying ty=some (.slice e'):=by exact rfl) (hz:zK P e'=some z:=by exact rfl) (hp:qW sz L o.dst (.slice (some ⟨h.next,0,none⟩) (r - l) (m - l))=some L':=by exact rfl):KO P X sz ops (o :: os) L h R:=by
 refine zI (v:=.slice (some ⟨h.next,0,none⟩) (r - l) (m - l)) (h':={ tr:=h.tr,next:=h.next+1,low:=lowest h.low b }) hg ?_ hp (w _ ⟨hb,fun j _ _=>rfl,Nat.le_succ _,fun j hj=>wf j (Nat.le_of_succ_le hj)⟩);rw [ho];simp only [jl,qR hx,jc,qR h1,qR h2,qR h3,YG,hu,hb,hz,b1,b2,b3,zB3 hc.1,zB3 hc.2.1,zB3 hc.2.2,zF9]
theorem rw2 {x:Operand} {lo hi:Option Operand} {vl vr:Option Value} {ty e' e:TypeId} {b o' n cap l r z:Nat} {cc:List Value} {slk:Option Nat} {ro:Bool} {d:Tmp} (hb:h.get b=some (.cells cc e slk ro))
 (w:∀ o2,(l<cap→o2=o'+l*z)→(slk≠none→o2=o'+l*z)→KO P X sz ops os (L.put d (.slice (some ⟨b,o2,none⟩) (r - l) (cap - l))) h R) (ho:o.op = .slice ty x lo hi none:=by exact rfl) (hg:qE ops L.tree o.guard=some true:=by exact rfl) (hx:kA L x=some (.slice (some ⟨b,o',none⟩) n cap):=by exact rfl)
 (h1:jc L.tree lo=some vl:=by exact rfl) (h2:jc L.tree hi=some vr:=by exact rfl) (b1:zt vl 0=some l:=by exact rfl) (b2:zt vr n=some r:=by exact rfl)
 (hc:l≤r∧r≤cap:=by omega) (hu:P.underlying ty=some (.slice e'):=by exact rfl) (hz:zK P e'=some z:=by exact rfl) (hdst:o.dst=some d:=by exact rfl) (hds:Nat.blt d sz=true:=by exact rfl):KO P X sz ops (o :: os) L h R:=by
 have key:∀ o2,zO P ty (.slice (some ⟨b,o',none⟩) n cap) vl vr none h=some (.slice (some ⟨b,o2,none⟩) (r - l) (cap - l))→(l<cap→o2=o'+l*z)→(slk≠none→o2=o'+l*z)→KO P X sz ops (o :: os) L h R:=fun o2 q1 q2 q3=>by
  refine zI (v:=.slice (some ⟨b,o2,none⟩) (r - l) (cap - l)) (h':=h) hg ?_ (by simp only [qW,hdst,hds]) (w o2 q2 q3);rw [ho];simp only [jl,qR hx,h1,h2,show jc L.tree none=some none from rfl,q1,qZ,jf]
 cases hq:slk.isNone && Nat.beq l cap with
 | true =>
  rw [zA8] at hq;have hl:=zA6 hq.2;subst hl;refine key o' ?_ (fun q=>by omega) (fun q=>by cases slk with|none=>exact absurd rfl q|some k=>cases hq.1);simp only [zO,hu,hb,hz,b1,b2,zB3 hc.1,zB3 hc.2,zF9,hq.1,show Nat.beq l l=true by simp]
 | false =>
  refine key (o'+l*z) ?_ (fun _=>rfl) (fun _=>rfl);simp only [zO,hu,hb,hz,b1,b2,zB3 hc.1,zB3 hc.2,zF9,hq]
theorem rwa {x y:Operand} {ts tx e e2:TypeId} {zc new cc:List Value} {by_ b o' n cap m z:Nat} {slk:Option Nat} {u:Value} {d:Tmp} (hb:h.get b=some (.cells cc e2 slk false)) (wf:WfH h) (hr:Rd h u z m new)
 (w:∀ h',Chg h h' b (.cells (splice cc (o'+n*z) new) e2 slk false)→KO P X sz ops os (L.put d (.slice (some ⟨b,o',none⟩) (n+m) cap)) h' R)
 (ho:o.op = .call { callee:=.builtin .append,args:=#[x,y],argTypes:=#[ts,tx] }:=by exact rfl) (hg:qE ops L.tree o.guard=some true:=by exact rfl) (hx:kA L x=some (.slice (some ⟨b,o',none⟩) n cap):=by exact rfl) (hy:kA L y=some u:=by exact rfl)
 (hs:zg P ts=some e:=by exact rfl) (hz:zo P e=some zc:=by exact rfl) (hzl:zc.length=z:=by exact rfl) (hby:QV P e=some (by_+1):=by exact rfl) (hxs:P.underlying tx=some (.slice e):=by exact rfl)
 (hc:n+m≤cap:=by omega) (hcc:o'+cap*z≤cc.length:=by assumption) (h1:new.all one? = true:=by assumption) (hsz:(m+1)*(by_+1)≤140737488355328:=by omega) (hdst:o.dst=some d:=by exact rfl) (hds:Nat.blt d sz=true:=by exact rfl):KO P X sz ops (o :: os) L h R:=by
 subst hzl;have hlen:=hr.length;have hfit:o'+n*zc.length+new.length≤cc.length:=by
  rw [hlen,zF7,← zE1];exact zD0 (Nat.add_le_add_left (zD3 _ hc) _) hcc
 have k2:Nat.beq new.length (m*zc.length)=true:=by rw [hlen];simp
 have hsrc:Xr zc.length u h=some (m,new):=hr.source;have go:∀ h',jM P [ts,tx] (.slice (some ⟨b,o',none⟩) n cap) u h=some (.slice (some ⟨b,o',none⟩) (n+m) cap,h')→Chg h h' b (.cells (splice cc (o'+n*zc.length) new) e2 slk false)→KO P X sz ops (o :: os) L h R:=fun h' q1 q2=>by
  refine zI (v:=.slice (some ⟨b,o',none⟩) (n+m) cap) (h':=h') hg ?_ (by simp only [qW,hdst,hds]) (w h' q2);rw [ho];simp [jl,qR hx,qR hy,jv,jr,q1,QF]
 cases m with
 | zero =>
  have hn:new=[]:=zE9.1 (by omega);subst hn;refine go h ?_ ⟨by rw [Ws (by simp at hfit;omega)];exact hb,fun _ _ _=>rfl,zA3 _,wf⟩;simp only [jM,hs,hxs,hz,hby,hsrc,zB3 hsz,h1,k2,zF9,hb,zB3 (show n≤cap from hc),Nat.add_zero]
 | succ m =>
  refine go (h.put b (.cells (splice cc (o'+n*zc.length) new) e2 slk false)) ?_ ⟨by rw [AH.get_put,if_pos rfl],fun j hj _=>by rw [AH.get_put,if_neg hj],zA3 _,wf.put (wf.lt hb) _⟩;simp only [jM,hs,hxs,hz,hby,hsrc,zB3 hsz,h1,k2,zF9,hb,zB3 hc,putCells,zB3 hfit]
theorem V7 (zc:List Value):∀ n,(qX zc n).length=n*zc.length
 | 0=>by simp [qX]
 | n+1=>by rw [qX,zB2,V7 zc n,zE1,Nat.one_mul,Nat.add_comm]
theorem wX {zc:List Value} (h:zc.all one? = true):∀ n,(qX zc n).all one? = true
 | 0=>rfl
 | n+1=>by rw [qX,List.all_append,h,wX h n];rfl
theorem rwc {x:Operand} {ty e e2:TypeId} {zc cc:List Value} {b o' n cap:Nat} {slk:Option Nat} (hb:h.get b=some (.cells cc e2 slk false)) (wf:WfH h)
 (w:∀ h',Chg h h' b (.cells (splice cc o' (qX zc n)) e2 slk false)→KO P X sz ops os L' h' R)
 (ho:o.op = .call { callee:=.builtin .clear,args:=#[x],argTypes:=#[ty] }:=by exact rfl) (hg:qE ops L.tree o.guard=some true:=by exact rfl) (hx:kA L x=some (.slice (some ⟨b,o',none⟩) n cap):=by exact rfl)
 (hu:P.underlying ty=some (.slice e):=by exact rfl) (hz:zo P e=some zc:=by exact rfl) (h1:zc.all one? = true:=by exact rfl) (hfit:o'+n*zc.length≤cc.length:=by omega) (hp:qW sz L o.dst (.tuple #[])=some L':=by exact rfl):KO P X sz ops (o :: os) L h R:=by
 have go:∀ h',Xg P ty (.slice (some ⟨b,o',none⟩) n cap) h=some h'→Chg h h' b (.cells (splice cc o' (qX zc n)) e2 slk false)→KO P X sz ops (o :: os) L h R:=fun h' q1 q2=>by
  refine zI (v:=.tuple #[]) (h':=h') hg ?_ hp (w h' q2);rw [ho];simp [jl,qR hx,jv,jr,q1]
 have hfit2:o'+(qX zc n).length≤cc.length:=by rw [V7];exact hfit
 cases n with
 | zero =>
  refine go h ?_ ⟨by show _=some (AObj.cells (splice cc o' []) e2 slk false);rw [Ws (by omega)];exact hb,fun _ _ _=>rfl,zA3 _,wf⟩;simp only [Xg,hu]
 | succ n =>
  refine go (h.put b (.cells (splice cc o' (qX zc (n+1))) e2 slk false)) ?_ ⟨by rw [AH.get_put,if_pos rfl],fun j hj _=>by rw [AH.get_put,if_neg hj],zA3 _,wf.put (wf.lt hb) _⟩;simp only [Xg,hu,hz,hb,putCells,wX h1,zB3 hfit2,zF9]
end
theorem qct {cc old zr:List Value} {s a b z n:Nat} (ho:∀ j,j<n→cc[s+j]? = old[j]?) (hn:old.length=n) (hab:a≤b∧b≤n) (hz:zr.length=b - a) (hs:s+n≤cc.length) :
 ∀ j,j<a+(n - b)→(splice (splice cc (s+a) (old.drop b)) (s+(a+(n - b))) zr)[s+j]? = (old.take a ++ old.drop b)[j]?:=by
 intro j hj;have l1:s+a+(old.drop b).length≤cc.length:=by rw [zB4];omega
 have l2:(splice cc (s+a) (old.drop b)).length=cc.length:=qY _ _ _ l1;have hd:(old.drop b).length=n - b:=by rw [zB4,hn]
 have ht:(old.take a).length=a:=by rw [zA9];omega
 rw [zM _ _ _ (by rw [l2];omega),zM _ _ _ l1,if_pos (by omega),zF0,ht];by_cases h1:j<a
 ·rw [if_pos (by omega),if_pos h1,zC7,if_pos h1,ho j (by omega)]
 ·rw [if_neg (by omega),if_pos (by omega),if_neg h1];congr 1;omega
theorem KZ {c xs:List Value} {o n:Nat} (hl:xs.length=n) (hfit:o+n≤c.length) (hg:∀ j,j<n→c[o+j]? = xs[j]?):zC c o n=some xs:=by
 rw [Ja hfit];congr 1
 apply List.ext_getElem?
 intro j;rw [zC7];split
 ·rw [zC3];exact hg j (by assumption)
 ·rw [zG5 (by omega)]
variable [Flag]
theorem qcu {h0 h:AH} {rs:List Rs} {v:SlV} {l:List Ti} (i:Nat) (hi:i<l.length) (hl:l.length≤1000000) (S:Hs h0 h (.sl v.val 111 3 jb l :: rs)) :
 Fn Tryz.prog Xh 97 [v.val,.int .i64 i,.int .i64 ((i:Int)+1)] h (fun u h'=>Hs h0 h' (.sl u 111 3 jb (l.take i ++ l.drop (i+1)) :: rs)):=by
 have S0:=S;obtain ⟨f1,k1,k2,k3⟩:=S.sep;have hr:=Rd.Qc S .here;rcases k1 with ⟨-,rfl⟩|⟨b,o,cc,slk,cap,e1,g1,fb,t1,c1,s1⟩
 ·simp at hi
 rw [e1] at hr ⊢;have hb:=g1;have w:=S.wf;have hcc:o+cap*3≤cc.length:=c1.2;replace S:=Hs.start S.wf;have hfl:=zn (enc:=jb) (z:=3) (by intro _;rfl) l;have hcap:=c1.1;refine qV rfl Tryz.func97 rfl rfl ?_;all_goals (repeat' (first|refine qi ?_|(refine qc 0 ?_;refine mv ?_;refine qf ?_)|(refine qc 1 ?_;(iterate 4 refine mv ?_);refine Qa S ?_)))
 refine rw3 (l:=i) (r:=i+1) (m:=l.length) hb w (fun ha ca=>?_);have xa:Ext h ha:=⟨ca.next,fun j hj=>by
  by_cases q:j=b
  ·subst q;rw [ca.at_,hb]
  ·exact ca.old j q hj,ca.wf⟩
 have ra:=hr.ext w xa;have wa:=ca.wf;have ba:=ca.at_;clear S;have S:=Hs.start wa;(refine qf ?_);all_goals (repeat' (first|refine qi ?_|refine qg rfl ?_|refine qj ?_|(refine qc 2 ?_;refine mv ?_;refine mv ?_;(refine cF ?_)<;>(refine qf ?_))|(refine qc 4 ?_;refine mv ?_;refine Qa S ?_;refine mv ?_;refine qf ?_)|(refine qK 5 ?_;refine mv ?_;refine mv ?_)))
 refine rw2 (l:=0) (r:=i) ba (fun o2 q1 _=>?_);rw [show o2=o by have:=q1 (by omega);omega];refine mv ?_;refine mv ?_;refine rw2 (l:=i+1) (r:=l.length) ba (fun o3 q3 q4=>?_);have ru:Rd ha (.slice (some ⟨b,o3,none⟩) (l.length - (i+1)) (cap - (i+1))) 3 (l.length - (i+1)) ((l.drop (i+1)).flatMap jb):=by
  refine .inr ⟨b,o3,_,cc,111,slk,false,rfl,ba,?_⟩;rcases zA7 (i+1) cap with z|z
  ·have z1:=q3 z;have z2:o3=o+(i+1)*3:=z1;have:=jR (i:=(i+1)*3) (m:=(l.length - (i+1))*3) t1 (by omega);rw [z2,this,jB (z:=3) (by intro _;rfl),zF8 (by rw [zB4,hfl];omega)]
  ·rw [show l.length - (i+1)=0 by omega,List.drop_of_length_le (by omega)];rfl
 have hone:((l.drop (i+1)).flatMap jb).all one? = true:=by
  rw [zC8];intro x hx;obtain ⟨y,-,hy⟩:=zH0.1 hx;simp [jb] at hy
  rcases hy with rfl|rfl|rfl<;>rfl
 refine rwa (z:=3) ba wa ru (fun hd cd=>?_);(refine mv ?_;refine qf ?_);have hln:l.length - (i - 0+(l.length - (i+1)))=1:=by omega
 (repeat (refine qi ?_));refine qc 6 ?_;refine mv ?_;refine mv ?_;refine vl ?_;refine mv ?_;refine rw2 (l:=i - 0+(l.length - (i+1))) (r:=l.length) cd.at_ (fun o4 q5 _=>?_);have q6:=q5 (by omega);have hq6:o4=o+(i - 0+(l.length - (i+1)))*3:=q6;have hsl:(splice cc (o+(i - 0)*3) ((l.drop (i+1)).flatMap jb)).length=cc.length:=qY _ _ _ (by rw [zn (z:=3) (by intro _;rfl),zB4];omega);refine rwc cd.at_ cd.wf (fun he ce=>?_) (hfit:=?_);rotate_left
 ·rw [hsl];show o4+(l.length - (i - 0+(l.length - (i+1))))*3≤cc.length
  omega
 (refine qf ?_)
 all_goals (repeat' (first|refine qi ?_|(refine qc 7 ?_;refine mv ?_;refine mv ?_;refine qf ?_)))
 refine qC ⟨_,rfl,?_⟩;have C:=(ca.trans cd).trans ce;have hm:∀ a c:Nat,a - 0+c=a+c:=fun a c=>by omega
 have hlen:(l.take i ++ l.drop (i+1)).length=i - 0+(l.length - (i+1)):=by rw [zB2,zA9,zB4];omega
 have hzl:(qX (Value.agg #[Value.string { data:=#[] },Value.string { data:=#[] },Value.int IntKind.u8 0]).cells.toList (l.length - (i - 0+(l.length - (i+1))))).length=(i+1)*3 - i*3:=by
  rw [V7,hln];show 1*3=_;omega
 have hdrop:=jB (enc:=jb) (z:=3) (by intro _;rfl) l (i+1);have htake:=Qb (enc:=jb) (z:=3) (by intro _;rfl) l i;show Hs h0 he (.sl (.slice (some ⟨b,o,none⟩) (i - 0+(l.length - (i+1))) (cap - 0)) 111 3 jb (l.take i ++ l.drop (i+1)) :: rs)
 refine S0.turn .here C.next C.wf fun fp p1 p2=>?_
 rcases p1 with ⟨p1,-⟩|⟨b2,o2,cc2,sl2,cap2,p1,-,p3,-⟩
 ·rw [p1] at e1;cases e1
 obtain rfl:b2=b:=by rw [p1] at e1;cases e1;rfl
 refine ⟨fun j hj hf=>C.old j (fun q=>by subst q;exact hf p3) hj,fun j=>j=b2,.inr ⟨b2,o,_,slk,cap - 0,by rw [hlen],C.at_,rfl,?_,⟨by rw [hlen];omega,?_⟩,s1⟩,fun j hj=>?_⟩
 ·rw [hlen];have hg:∀ j,j<l.length*3→cc[o+j]? = (l.flatMap jb)[j]?:=fun j hj=>Wi t1 hj;have D:=qct (zr:=qX (Value.agg #[Value.string { data:=#[] },Value.string { data:=#[] },Value.int IntKind.u8 0]).cells.toList (l.length - (i - 0+(l.length - (i+1))))) (a:=i*3) (b:=(i+1)*3) (z:=3) hg hfl (by omega) hzl (by omega);rw [hdrop,hq6,Nat.sub_zero,show (i+(l.length - (i+1)))*3=i*3+(l.length*3 - (i+1)*3) by omega];have e2:(l.take i ++ l.drop (i+1)).flatMap jb=(l.flatMap jb).take (i*3) ++ (l.flatMap jb).drop ((i+1)*3):=by rw [List.flatMap_append,htake,hdrop]
  rw [e2];rw [Nat.sub_zero] at D;refine KZ ?_ ?_ D
  ·rw [zB2,zA9,zB4,hfl];omega
  ·rw [qY,qY]
   ·omega
   ·rw [zB4,hfl];omega
   ·rw [qY _ _ _ (by rw [zB4,hfl];omega)];have hz2:=hzl;simp only [Nat.sub_zero] at hz2 ⊢;rw [hz2];omega
 ·rw [qY,hsl]
  ·show o+(cap - 0)*3≤_;omega
  ·rw [hsl,hzl];omega
 ·subst hj;exact ⟨C.wf.lt C.at_,.inl p3⟩
end Go.Proofs.Xx
namespace Go.Proofs.Xx
open Go Go.Proofs
def kz (ts:List Ti) (a b:List UInt8):List Ti:=ts.filter fun t=>!decide (t.a=jV a b∧t.b=jW a b)
open Classical in
noncomputable def Jv (r:Rl) (a b:List UInt8):Rl×Int:=if tied r.ts a b then (⟨r.us,kz r.ts a b⟩,0) else (r,6)
theorem qbX {ts:List Ti} {a b:List UInt8} {i:Nat} (hs:TS ts) (hi:i<ts.length) (h1:(ts.getD i default).a=jV a b) (h2:(ts.getD i default).b=jW a b):kz ts a b=ts.take i ++ ts.drop (i+1):=by
 have hne:∀ j,j<ts.length→j≠i→¬ ((ts.getD j default).a=jV a b∧(ts.getD j default).b=jW a b):=fun j hj hji q=>by
  rcases zA7 j i with z|z
  ·rcases hs.lt z hi with y|y
   ·rw [q.1,h1] at y;exact zh _ y
   ·rw [q.2,h2] at y;exact zh _ y.2
  ·rcases hs.lt (show i<j by omega) hj with y|y
   ·rw [q.1,h1] at y;exact zh _ y
   ·rw [q.2,h2] at y;exact zh _ y.2
 have e:ts=ts.take i ++ (ts.getD i default :: ts.drop (i+1)):=by
  conv=>lhs;rw [← zH1 i ts]
  rw [zG7 hi];congr 2
  rw [zA2,zA4 hi];rfl
 unfold kz;conv=>lhs;rw [e]
 rw [zD1,zD8,if_neg (by rw [decide_eq_true ⟨h1,h2⟩];decide)];congr 1
 ·rw [List.filter_eq_self];intro t ht;obtain ⟨j,hj,rfl⟩:=qQ.1 ht;simp only [zA9] at hj;rw [getD_take (by omega)];have:=hne j (by omega) (by omega);rw [zG3,decide_eq_false this]
 ·rw [List.filter_eq_self];intro t ht;obtain ⟨j,hj,rfl⟩:=qQ.1 ht;simp only [zB4] at hj;have ej:(ts.drop (i+1)).getD j default=ts.getD (i+1+j) default:=by
   rw [zA2,zA2,zC3]
  rw [ej];have:=hne (i+1+j) (by omega) (by omega);rw [zG3,decide_eq_false this]
variable [Flag]
theorem qaK {h0 h:AH} {rs:List Rs} {p:Nat} {r:Rl} (S:Hs h0 h (zT p r :: rs)) (a b:List UInt8) (hl:r.ts.length≤256) (hs:TS r.ts) :
 Fn Tryz.prog Xh 42 [.pointer (some ⟨p,0,none⟩),str a,str b] h (fun v h'=>v = .int .i64 (Jv r a b).2∧Hs h0 h' (zT p (Jv r a b).1 :: rs)):=by
 obtain ⟨⟨vg,vt,m,mp,gs⟩,⟨q1,q2⟩,S⟩:=S.unpack;dsimp only [bkL,List.cons_append,List.nil_append] at q1 q2 S;refine qV rfl Tryz.func42 rfl rfl ?_;all_goals (repeat' (first|refine qi ?_|refine qg rfl ?_|refine qj ?_|refine qo ?_|refine qh ?_|refine qp ?_|refine qw ?_|(refine qc 0 ?_;refine mv ?_;refine qf ?_)|(refine qc 1 ?_;refine mv ?_)))
 (refine qx rfl rfl rfl rfl rfl ((QK S.wf (Zr S .here)).mono ?_);rintro _ h ⟨rfl,x⟩)<;>(replace S:=S.qL x;clear x;refine qf ?_)
 all_goals (repeat' (first|refine qi ?_|refine qg rfl ?_|refine qj ?_|refine qo ?_|refine qh ?_|refine qp ?_|refine qw ?_|(refine qc 2 ?_;refine mv ?_;refine qf ?_)|(refine qc 3 ?_;(iterate 3 refine mv ?_);skip)))
 (refine qx rfl rfl rfl rfl rfl ((kQ S.wf (Zr S .here) (Rd.Qc S (.there (.there .here))) (by omega) hs a b).mono ?_);rintro _ h ⟨⟨j,_ | _,rfl,p1,p2⟩,x⟩)<;>(replace S:=S.qL x;clear x;refine mv ?_;refine vl ?_;refine vl ?_;refine mv ?_;refine mv ?_;refine qf ?_)
 ·have hk3:¬ tied r.ts a b:=fun q=>by have:=p2.2 ((p1.tied hs).1 q);cases this
  all_goals (repeat' (first|refine qi ?_|refine qg rfl ?_|refine qj ?_|refine qo ?_|refine qh ?_|refine qp ?_|refine qw ?_|(refine qc 4 ?_;refine mv ?_;refine vl ?_;refine qf ?_)|(refine qc 5 ?_;refine mv ?_;refine qf ?_)|(refine qc 6 ?_;refine mv ?_;refine mv ?_;refine vl ?_;(first|refine vl ?_|refine fB S ?_|refine fS S rfl rfl ?_|refine fA ?_);(first|refine vl ?_|refine fB S ?_|refine fS S rfl rfl ?_|refine fA ?_);(first|refine lB S rfl rfl ?_|refine qB S rfl rfl ?_|refine zu S ?_|refine lH S ?_);refine mv ?_;refine mv ?_;(first|refine ad ?_|refine vl ?_))))
  refine qC ⟨_,rfl,?_⟩;rw [show Jv r a b=(r,6) by unfold Jv;rw [if_neg hk3]];exact ⟨rfl,S.bk vg vt m mp gs q1 q2⟩
 ·obtain ⟨z1,z2,z3⟩:=p2.1 rfl;have hk3:tied r.ts a b:=(p1.tied hs).2 ⟨z1,z2,z3⟩;all_goals (repeat' (first|refine qi ?_|refine qg rfl ?_|refine qj ?_|refine qo ?_|refine qh ?_|refine qp ?_|refine qw ?_|(refine qc 4 ?_;refine mv ?_;refine vl ?_;refine qf ?_)|(refine qc 5 ?_;refine mv ?_;refine qf ?_)|(refine qc 6 ?_;refine mv ?_;refine mv ?_;refine vl ?_;(first|refine vl ?_|refine fB S ?_|refine fS S rfl rfl ?_|refine fA ?_);(first|refine vl ?_|refine fB S ?_|refine fS S rfl rfl ?_|refine fA ?_);(first|refine lB S rfl rfl ?_|refine qB S rfl rfl ?_|refine zu S ?_|refine lH S ?_);refine mv ?_;refine mv ?_;(first|refine ad ?_|refine vl ?_))))
  have S:=(show Hs h0 h (.sl vt.val 111 3 jb r.ts :: .blk p [vg.val,vt.val,.map (some m)] 86 :: .sl vg.val 24 9 eG gs :: .mp m (.int .i64) mp :: PZ gs :: rs) from S.pick)
  (refine qx rfl rfl rfl rfl rfl ((qcu j z1 (by omega) S).mono ?_);rintro v h S)<;>(obtain ⟨vt',rfl⟩:=S.sV v;refine vl ?_;(first|refine vl ?_|refine fB S ?_|refine fS S rfl rfl ?_|refine fA ?_);(first|refine vl ?_|refine fB S ?_|refine fS S rfl rfl ?_|refine fA ?_);(first|(refine sB S rfl rfl ?_;clear S;intro h S)|(refine zZ S rfl rfl ?_;clear S;intro h S));refine qf ?_)
  all_goals (repeat' (first|refine qi ?_|refine qg rfl ?_|refine qj ?_|refine qo ?_|refine qh ?_|refine qp ?_|refine qw ?_|(refine qc 7 ?_;refine mv ?_;refine qf ?_)))
  refine qC ⟨_,rfl,?_⟩;rw [show Jv r a b=(⟨r.us,kz r.ts a b⟩,0) by unfold Jv;rw [if_pos hk3],qbX hs z1 z2 z3];replace S:Hs h0 h (.sl vt'.val 111 3 jb (r.ts.take j ++ r.ts.drop (j+1)) :: .blk p [vg.val,vt'.val,.map (some m)] 86 :: _):=S;exact ⟨rfl,S.bk vg vt' m mp gs q1 q2⟩
end Go.Proofs.Xx
namespace Go.Proofs.Xx
open Go Go.Proofs
theorem YP (a b:List UInt8):jV a b=jV b a:=by
 unfold jV;rcases ZK a b with h|h|h
 ·rw [if_neg (zX h),if_pos h]
 ·subst h;rfl
 ·rw [if_pos h,if_neg (zX h)]
theorem YQ (a b:List UInt8):jW a b=jW b a:=by
 unfold jW;rcases ZK a b with h|h|h
 ·rw [if_pos h,if_neg (zX h)]
 ·subst h;rfl
 ·rw [if_neg (zX h),if_pos h]
theorem YN {ts:List Ti} {a b:List UInt8}:tied ts a b↔tied ts b a:=by unfold tied;rw [YP a b,YQ a b]
theorem qce {a b:List UInt8} (h:a≠b):zB (jV a b) (jW a b)∧((jV a b=a∧jW a b=b)∨(jV a b=b∧jW a b=a)):=by
 rcases ZK a b with q|q|q
 ·rw [QY q,QZ q];exact ⟨q,.inl ⟨rfl,rfl⟩⟩
 ·exact absurd q h
 ·rw [YP,YQ,QY q,QZ q];exact ⟨q,.inr ⟨rfl,rfl⟩⟩
theorem qdm {ts:List Ti} (hs:TS ts) (y:Ti):∃ i,Plc ts y i:=by
 induction ts with
 | nil=>exact ⟨0,zA3 _,fun j hj=>absurd hj (zB7 _),fun j _ hj=>absurd hj (zB7 _)⟩
 | cons x r ih =>
  by_cases h:Zu x y
  ·obtain ⟨i,i1,i2,i3⟩:=ih (zH6.1 hs).2;refine ⟨i+1,by simp;exact i1,fun j hj=>?_,fun j h1 h2=>?_⟩
   ·cases j with
    | zero=>exact h
    | succ j=>exact i2 j (by omega)
   ·cases j with
    | zero=>omega
    | succ j=>exact i3 j (by omega) (by simp at h2;omega)
  ·refine ⟨0,zB0 _,fun j hj=>absurd hj (zB7 _),fun j _ hj q=>h ?_⟩;rcases zF4 j with z|z
   ·subst z;exact q
   ·exact QW (hs.lt z hj) q
theorem Plc.kind {ts:List Ti} {a b:List UInt8} {k k':Int} {i:Nat} (h:Plc ts ⟨a,b,k⟩ i):Plc ts ⟨a,b,k'⟩ i:=⟨h.1,h.2.1,h.2.2⟩
theorem qc9 {ts:List Ti} {a b:List UInt8} {k:Int} (hs:TS ts) (hn:¬ tied ts a b):∃ i,i≤ts.length∧vz ts (XL a b k)=ts.take i ++ XL a b k :: ts.drop i∧TS (vz ts (XL a b k)):=by
 obtain ⟨i,hi⟩:=qdm hs ⟨jV a b,jW a b,0⟩;have e:=Yo (t:=XL a b k) (hi.kind (k':=k));refine ⟨i,hi.1,e,?_⟩;rw [e,TS,List.pairwise_append];refine ⟨List.Pairwise.sublist (List.take_sublist i ts) hs,zH6.2 ⟨fun y hy=>?_,List.Pairwise.sublist (List.drop_sublist i ts) hs⟩,fun x hx y hy=>?_⟩
 ·obtain ⟨j,hj,rfl⟩:=qQ.1 hy;simp only [zB4] at hj;have ej:(ts.drop i).getD j default=ts.getD (i+j) default:=by
   rw [zA2,zA2,zC3]
  rw [ej];rcases V6 (ts.getD (i+j) default) (XL a b k) with q|q|q
  ·exact absurd q (hi.2.2 (i+j) (by omega) (by omega))
  ·exact absurd ⟨_,qO (show i+j<ts.length by omega),q⟩ hn
  ·exact q
 ·obtain ⟨j,hj,rfl⟩:=qQ.1 hx;simp only [zA9] at hj;rw [getD_take (by omega)];have h1:=hi.2.1 j (by omega);rcases zE8.1 hy with rfl|hy
  ·exact h1
  ·obtain ⟨m,hm,rfl⟩:=qQ.1 hy;simp only [zB4] at hm;have ej:(ts.drop i).getD m default=ts.getD (i+m) default:=by
    rw [zA2,zA2,zC3]
   rw [ej];exact hs.lt (by omega) (by omega)
theorem RO.tie {r:Rl} (H:RO r) {a b:List UInt8} {k:Int} (h:(QP r a b k).2=0):RO (QP r a b k).1:=by
 obtain ⟨h1,h2,h3,h4,h5,h6,h7⟩:=Z9 h;rw [h7];obtain ⟨i,hi,e,hs⟩:=qc9 (k:=k) H.ts h5;obtain ⟨m1,m2⟩:=qce h2;refine ⟨H.chk,H.nd,H.l64,hs,fun t ht=>?_,?_⟩
 ·simp only at ht;rw [e] at ht;have:t∈r.ts∨t=XL a b k:=by
   rcases zB8.1 ht with q|q
   ·exact .inl (List.mem_of_mem_take q)
   ·rcases zE8.1 q with q|q
    ·exact .inr q
    ·exact .inl (List.mem_of_mem_drop q)
  rcases this with q|rfl
  ·exact H.tt t q
  ·refine ⟨m1,h1,?_⟩;rcases m2 with ⟨e1,e2⟩|⟨e1,e2⟩
   ·show Xx.gat r.us (jV a b)≠none∧Xx.gat r.us (jW a b)≠none
    rw [e1,e2];exact ⟨h3,h4⟩
   ·show Xx.gat r.us (jV a b)≠none∧Xx.gat r.us (jW a b)≠none
    rw [e1,e2];exact ⟨h4,h3⟩
 ·simp only;rw [e];simp;omega
def Zv (ts:List Ti) (a b:List UInt8):Option Ti:=ts.find? fun t=>decide (t.a=jV a b∧t.b=jW a b)
theorem V9 (ts:List Ti) (a b:List UInt8):Zv ts a b=Zv ts b a:=by unfold Zv;rw [YP a b,YQ a b]
theorem Jy {ts:List Ti} {a b:List UInt8} {t:Ti} (h:Zv ts a b=some t):t∈ts∧t.a=jV a b∧t.b=jW a b:=by
 have h1:=List.find?_some h;exact ⟨List.mem_of_find?_eq_some h,by simpa using h1⟩
theorem KU {ts:List Ti} {a b:List UInt8} (h:Zv ts a b=none):¬ tied ts a b:=by
 rintro ⟨t,ht,h1,h2⟩;have:=List.find?_eq_none.1 h t ht;simp [h1,h2] at this
theorem Ye {ts:List Ti} {a b:List UInt8} {t:Ti} (hs:TS ts) (ht:t∈ts) (h1:t.a=jV a b) (h2:t.b=jW a b):Zv ts a b=some t:=by
 cases h:Zv ts a b with
 | none=>exact absurd ⟨t,ht,h1,h2⟩ (KU h)
 | some u =>
  obtain ⟨hu,u1,u2⟩:=Jy h;obtain ⟨i,hi,rfl⟩:=qQ.1 ht;obtain ⟨j,hj,rfl⟩:=qQ.1 hu;rcases zE7 i j with q|q|q
  ·rcases hs.lt q hj with y|y
   ·rw [h1,u1] at y;exact absurd y (zh _)
   ·rw [h2,u2] at y;exact absurd y.2 (zh _)
  ·rw [q]
  ·rcases hs.lt q hi with y|y
   ·rw [h1,u1] at y;exact absurd y (zh _)
   ·rw [h2,u2] at y;exact absurd y.2 (zh _)
def tkd (o:Option Ti):Value:=match o with|some t=>.tuple #[.int .u8 t.k,.bool true]|none=>.tuple #[.int .u8 0,.bool false]
variable [Flag]
end Go.Proofs.Xx
namespace Go.Proofs.Xx
open Go Go.Proofs
theorem xY {r:Rl} (H:RO r) {k:Int} {a b:List UInt8} (h:adj r k a b):∃ t,Zv r.ts a b=some t∧t.k=k:=by
 obtain ⟨t,h1,h2,h3⟩:=h;have hlt:=(H.tt t h1).1;refine ⟨t,?_,h2⟩;rcases h3 with ⟨rfl,rfl⟩|⟨rfl,rfl⟩
 ·exact Ye H.ts h1 (QY hlt).symm (QZ hlt).symm
 ·rw [V9];exact Ye H.ts h1 (QY hlt).symm (QZ hlt).symm
theorem yN {r:Rl} {a b:List UInt8} {t:Ti} (h:Zv r.ts a b=some t):adj r t.k a b:=by
 obtain ⟨h1,h2,h3⟩:=Jy h;refine ⟨t,h1,rfl,?_⟩;by_cases q:zB b a
 ·have e1:jV a b=b:=if_pos q;have e2:jW a b=a:=if_neg (zX q);exact .inr ⟨by rw [h3,e2],by rw [h2,e1]⟩
 ·have e1:jV a b=a:=if_neg q;refine .inl ⟨by rw [h2,e1],?_⟩;rw [h3];unfold jW;split
  ·rfl
  ·rename_i q2
   rcases JB q with e|e
   ·exact e
   ·exact absurd e q2
variable [Flag]
end Go.Proofs.Xx
namespace Go.Proofs.Xx
open Go Go.Proofs
variable [Flag]
end Go.Proofs.Xx
namespace Go.Proofs.Xx
open Go Go.Proofs
section
variable {P:Program} {X:Extern} {sz:Nat} {L L':Ks} {h h0:AH} {rs:List Rs} {ops:Array Oper} {os:List Oper} {o:Oper} {R:Ks→AH→Prop}
end
variable [Flag]
end Go.Proofs.Xx
