/-
  A book is asked: names,Find,Tied,With.
-/
import Derived.Test.YtidmdnenlgjpeaaGreatDoorM9
import Derived.Test.YtidmdnenlgjpeaaGreatDoorM11
set_option linter.unusedSimpArgs false
set_option linter.unusedVariables false
set_option linter.unusedSectionVars false
set_option maxRecDepth 100000
set_option maxHeartbeats 4000000
namespace Go.Proofs.Xx
open Go Go.Proofs
def MpRd {α:Type} (h:AH) (b:Nat) (enc:α→Value) (l:List (List UInt8×α)):Prop:=∃ es clock,h.get b=some (.map es clock)∧es.map (fun e=>(e.1,e.2.1))=l.map (fun p=>(Value.string ⟨p.1.toArray⟩,enc p.2))
theorem MpRd.ext {α:Type} {h h':AH} {b:Nat} {enc:α→Value} {l:List (List UInt8×α)} (r:MpRd h b enc l) (w:WfH h) (x:Ext h h'):MpRd h' b enc l:=by
 obtain ⟨es,clock,h1,h2⟩:=r;exact ⟨es,clock,x.get w h1,h2⟩
section
variable {P:Program} {X:Extern} {sz:Nat} {L:Ks} {h h0:AH} {rs:List Rs} {ops:Array Oper} {os:List Oper} {o:Oper} {R:Ks→AH→Prop}
theorem lkR {α:Type} {b:Nat} {enc:α→Value} {l:List (List UInt8×α)} {m k:Operand} {ty kt et:TypeId} {key:List UInt8} {z:Value} {d:Tmp} {ok:Bool} (r:MpRd h b enc l)
 (w1:∀ x,zK l key=some x→KO P X sz ops os (L.put d (okV ok (enc x) true)) h R)
 (w2:zK l key=none→KO P X sz ops os (L.put d (okV ok z false)) h R)
 (ho:o.op = .lookup ty m k ok:=by exact rfl) (hg:qF ops L.tree o.guard=some true:=by exact rfl) (hm:kA L m=some (.map (some b)):=by exact rfl) (hk:kA L k=some (str key):=by exact rfl)
 (hu:P.underlying ty=some (.map kt et):=by exact rfl) (hkt:P.underlying kt=some .string:=by exact rfl) (hz:zeroV P et=some z:=by exact rfl) (hdst:o.dst=some d:=by exact rfl) (hds:Nat.blt d sz=true:=by exact rfl):KO P X sz ops (o :: os) L h R:=by
 obtain ⟨es,clock,h1,h2⟩:=r;have hT:xW P ty (str key)=some (.string,et):=by
  unfold xW;simp only [hu,hkt];rfl
 have hM:Xv (.map (some b)) h=some es:=by
  unfold Xv;simp only [h1]
 have hF:=Vh (enc:=enc) (k:=key) (i:=0) h2;cases hq:zK l key with
 | none =>
  refine zT hg (v:=okV ok z false) (h':=h) ?_ (show qW sz L o.dst _=some (L.put d _) by simp only [qW,hdst,hds]) (w2 hq);rw [ho];simp only [jB,qY hm,qY hk,QT,hT,hM,hF,X8 hq,Option.map_none,hz,zn];rfl
 | some x =>
  obtain ⟨i,hi⟩:=wE hq;refine zT hg (v:=okV ok (enc x) true) (h':=h) ?_ (show qW sz L o.dst _=some (L.put d _) by simp only [qW,hdst,hds]) (w1 x hq);rw [ho];simp only [jB,qY hm,qY hk,QT,hT,hM,hF,hi,Option.map_some,zn];rfl
end
structure BkAt (h:AH) (p:Nat) (r:Rl) (s:BkS):Prop where
 bk:h.get p=some (.cells [s.vg.val,s.vt.val,.map (some s.m)] 86 none false)
 rg:Qh h s.vg.val 9 eG s.gs
 rt:Qh h s.vt.val 3 zh r.ts
 mp:MpRd h s.m (.int .i64) s.mp
 tg:∀ i,i<s.gs.length→Qh h (s.gs.getD i default).tv.val 1 eS (s.gs.getD i default).tg
 us:s.gs.map (·.toGu)=r.us
 at_:AtOk s.mp r.us
def BkRd (h:AH) (p:Nat) (r:Rl):Prop:=∃ s,BkAt h p r s
theorem BkRd.ext {h h':AH} {p:Nat} {r:Rl} (b:BkRd h p r) (w:WfH h) (x:Ext h h'):BkRd h' p r:=by
 obtain ⟨s,b⟩:=b;exact ⟨s,x.get w b.bk,b.rg.ext w x,b.rt.ext w x,b.mp.ext w x,fun i hi=>(b.tg i hi).ext w x,b.us,b.at_⟩
theorem BkAt.len {h:AH} {p:Nat} {r:Rl} {s:BkS} (b:BkAt h p r s):s.gs.length=r.us.length:=by rw [← b.us];simp
theorem BkAt.g {h:AH} {p:Nat} {r:Rl} {s:BkS} (b:BkAt h p r s) {i:Nat} (hi:i<s.gs.length):(s.gs.getD i default).toGu=r.us.getD i default:=by rw [← b.us,zf hi]
theorem Hs.qeK {h0 h:AH} {rs:List Rs} {p:Nat} {r:Rl} (S:Hs h0 h (zN p r :: rs)):BkRd h p r:=by
 obtain ⟨s,⟨q1,q2⟩,S⟩:=S.unpack;obtain ⟨fp,k⟩:=Hs.qdu (p:=TgsOk s.gs) S (.there (.there (.there (.there .here))));obtain ⟨es,clock,m1,m2,-⟩:=xU S (.there (.there (.there .here)));exact ⟨s,jV S .here,Rd.jm S (.there .here),Rd.jm S (.there (.there .here)),⟨es,clock,m1,m2⟩,fun i hi=>TgsOk.rd k hi,q1,q2⟩
def SS (l:List (List UInt8)):Prop:=∀ i j,i<j→j<l.length→zG (l.getD i default) (l.getD j default)
theorem ZI {l:List (List UInt8)} (h:l.Nodup) {i j:Nat} (hij:i<j) (hj:j<l.length):l.getD i default≠l.getD j default:=by
 rw [zA2,zA2,zA4 hj,zA4 (show i<l.length by omega)];exact zD2.1 h i j (by omega) hj hij
theorem SS.of {l l':List (List UInt8)} (s:Sw 0 l.length l l') (h:Srt zG 0 l.length l') (hn:l.Nodup):SS l':=fun i j hij hj=>by
 have hl:=s.len;have hn':l'.Nodup:=s.perm.nodup_iff.2 hn;have h1:=h i j (zB0 _) hij (by omega);rcases Zr h1 with q|q
 ·exact absurd q (ZI hn' hij hj)
 ·exact q
theorem SS.nodup {l:List (List UInt8)} (h:SS l):l.Nodup:=by
 rw [List.nodup_iff_pairwise_ne,zD2];intro i j hi hj hij;have:=h i j hij hj;rw [zA2,zA2,zA4 hj,zA4 hi] at this;exact xx this
def adj (r:Rl) (k:Int) (n x:List UInt8):Prop:=∃ t∈r.ts,t.k=k∧((t.a=n∧t.b=x)∨(t.b=n∧t.a=x))
theorem adj.symm {r:Rl} {k:Int} {n x:List UInt8} (h:adj r k n x):adj r k x n:=by
 obtain ⟨t,h1,h2,h3⟩:=h;exact ⟨t,h1,h2,h3.elim (fun q=>.inr ⟨q.2,q.1⟩) (fun q=>.inl ⟨q.2,q.1⟩)⟩
def ZZ (k:Int) (n:List UInt8) (t:Ti):List (List UInt8):=if t.k≠k then [] else if t.a=n then [t.b] else if t.b=n then [t.a] else []
theorem qah {r:Rl} (H:RO r) {k:Int} {n x:List UInt8}:x∈r.ts.flatMap (ZZ k n)↔adj r k n x:=by
 rw [zH1];constructor
 ·rintro ⟨t,ht,hx⟩;unfold ZZ at hx;split at hx
  ·cases hx
  ·rename_i hk
   split at hx
   ·rename_i ha
    exact ⟨t,ht,zF4.1 hk,.inl ⟨ha,(zB5.1 hx).symm⟩⟩
   ·split at hx
    ·rename_i hb
     exact ⟨t,ht,zF4.1 hk,.inr ⟨hb,(zB5.1 hx).symm⟩⟩
    ·cases hx
 ·rintro ⟨t,ht,hk,h⟩;refine ⟨t,ht,?_⟩;unfold ZZ;rw [if_neg (by simpa using hk)];rcases h with ⟨h1,h2⟩|⟨h1,h2⟩
  ·rw [if_pos h1];simp [h2]
  ·have:=(H.tt t ht).1;rw [if_neg (fun q=>by rw [q,h1] at this;exact zA _ this),if_pos h1];simp [h2]
theorem vF {ts:List Ti} (hs:TS ts) (hlt:∀ t∈ts,zG t.a t.b) (k:Int) (n:List UInt8):(ts.flatMap (ZZ k n)).Nodup:=by
 rw [List.Nodup,List.pairwise_flatMap];refine ⟨fun t ht=>?_,?_⟩
 ·unfold ZZ;split
  ·exact List.Pairwise.nil
  ·split
   ·simp
   ·split<;>simp
 ·refine List.Pairwise.imp_of_mem ?_ hs;intro t u ht hu hb x hx y hy;have l1:=hlt t ht;have l2:=hlt u hu;unfold ZZ at hx hy;split at hx
  ·cases hx
  ·split at hy
   ·cases hy
   ·intro e;subst e;split at hx
    ·rename_i a1
     have ex:=zB5.1 hx;split at hy
     ·rename_i a2
      have ey:=zB5.1 hy;rcases hb with q|q
      ·rw [a1,a2] at q;exact zA _ q
      ·rw [← ex,← ey] at q;exact zA _ q.2
     ·split at hy
      ·rename_i a2
       have ey:=zB5.1 hy;rw [a1,← ex] at l1;rw [a2,← ey] at l2;exact zZ l1 l2
      ·cases hy
    ·split at hx
     ·rename_i a1
      have ex:=zB5.1 hx;split at hy
      ·rename_i a2
       have ey:=zB5.1 hy;rw [a1,← ex] at l1;rw [a2,← ey] at l2;exact zZ l1 l2
      ·split at hy
       ·rename_i a2
        have ey:=zB5.1 hy;rcases hb with q|q
        ·rw [← ex,← ey] at q;exact zA _ q
        ·rw [a1,a2] at q;exact zA _ q.2
       ·cases hy
     ·cases hx
theorem P6 (k:Int) (n:List UInt8):∀ ts:List Ti,(ts.flatMap (ZZ k n)).length≤ts.length
 | []=>zA3 _
 | t :: r=>by
  have:=P6 k n r;rw [zG3,zB2,zC4];have:(ZZ k n t).length≤1:=by
   unfold ZZ;split
   ·simp
   ·split
    ·simp
    ·split<;>simp
  omega
theorem jw {α:Type} [DecidableEq α]:∀ {l m:List α},l.Nodup→(∀ x∈l,x∈m)→l.length≤m.length
 | [],m,_,_=>zB0 _
 | x :: l,m,h,hs=>by
  have hx:=hs x (by simp);have h2:=List.nodup_cons.1 h;have:=jw (l:=l) (m:=m.erase x) h2.2 fun y hy=>by
   rw [List.mem_erase_of_ne (show y≠x from fun e=>h2.1 (by rw [← e];exact hy))];exact hs y (by simp [hy])
  rw [List.length_erase_of_mem hx] at this;have:0<m.length:=List.length_pos_of_mem hx;rw [zC4];omega
theorem QJ {r:Rl} (H:RO r) {k:Int} {n x:List UInt8} (h:adj r k n x):gat r.us n≠none∧gat r.us x≠none∧n≠x:=by
 obtain ⟨t,h1,h2,h3⟩:=h;obtain ⟨t1,t2,t3,t4⟩:=H.tt t h1;rcases h3 with ⟨rfl,rfl⟩|⟨rfl,rfl⟩
 ·exact ⟨t3,t4,xx t1⟩
 ·exact ⟨t4,t3,(xx t1).symm⟩
theorem ZL {us:List Gu} {n:List UInt8} (h:gat us n≠none):n∈us.map (·.name):=by
 obtain ⟨g,h1,h2⟩:=Je.1 h;exact zF2.2 ⟨g,h1,h2⟩
theorem qbj {r:Rl} (H:RO r) (k:Int) (n:List UInt8):(r.ts.flatMap (ZZ k n)).length≤64:=by
 have:=jw (vF H.ts (fun t ht=>(H.tt t ht).1) k n) (m:=r.us.map (·.name)) fun x hx=>ZL (QJ H ((qah H).1 hx)).2.1;have:=H.l64;simp at *;omega
variable [Flag]
theorem wV {h0:AH} (w:WfH h0) {p:Nat} {r:Rl} (B:BkRd h0 p r) (H:RO r) (n:List UInt8) (k:Int):Fn Tryz.prog Xh 27 [.pointer (some ⟨p,0,none⟩),str n,.int .u8 k] h0 (fun u h'=>∃ l,Hs h0 h' [.sl u 9 1 eS l]∧SS l∧(∀ x,x∈l↔adj r k n x)∧l.length≤64):=by
 have S:=Hs.start w;obtain ⟨s,B⟩:=B;have h64:=qbj H k n;have hb:=B.bk;have hrt:=B.rt;have h256:=H.l256;refine qZ rfl Tryz.func27 rfl rfl ?_;all_goals (repeat' (first|refine qg ?_|(refine qc 0 ?_;refine qK ?_)|(refine qc 1 ?_;refine mv ?_)))
 (refine qx rfl rfl rfl rfl rfl ((jD S.wf hb).mono ?_);rintro _ h ⟨rfl,x⟩)<;>(replace S:=S.qN x;clear x;refine qf ?_)
 all_goals (repeat' (first|refine qg ?_|refine qh rfl ?_|refine qj ?_|(refine qc 3 ?_;refine qK ?_)))
 have S:=S.Qb (e:=9) (z:=1) (enc:=eS);all_goals (repeat' (first|refine qi ?_|(refine qc 4 ?_;refine Qz ?_;refine lH S ?_;refine Zx S ?_;refine qK ?_)))
 refine qH (σ:=Nat×Value) (fun (i,v) h'=>Hs h0 h' [.sl v 9 1 eS ((r.ts.take i).flatMap (ZZ k n))]∧i≤r.ts.length) (fun (i,v)=>r.ts.length - i) (fun (i,v)=>[(0,.pointer (some ⟨p,0,none⟩)),(1,str n),(2,.int .u8 k),(7,v),(16,s.vt.val),(17,.int .i64 r.ts.length),(18,.int .i64 i)]) (0,.slice none 0 0) qo ?_ ?_
 ·exact ⟨S,zB0 _⟩
 clear S;rintro ⟨i,v⟩ h ⟨S,g1⟩;all_goals (repeat' (first|refine qg ?_|refine qh rfl ?_|refine qj ?_|refine qw ?_|(refine qc 5 ?_;(first|(refine cS ?_ ?_<;>intro hc))<;>(refine qf ?_))))
 ·have htl:((r.ts.take i).flatMap (ZZ k n)).length≤256:=by
   have:=P6 k n (r.ts.take i);simp at this ⊢;omega
  have hts:(r.ts.take (i+1)).flatMap (ZZ k n)=(r.ts.take i).flatMap (ZZ k n) ++ ZZ k n (r.ts.getD i default):=by
   rw [qQ (by omega)];simp
  (repeat (refine qg ?_));first|refine ZG (σ:=Value) (fun v h'=>Hs h0 h' [.sl v 9 1 eS ((r.ts.take (i+1)).flatMap (ZZ k n))]) (fun v=>[(0,.pointer (some ⟨p,0,none⟩)),(1,str n),(2,.int .u8 k),(7,v),(16,s.vt.val),(17,.int .i64 r.ts.length),(18,.int .i64 i)]) ?_ ?_
  ·all_goals (repeat' (first|refine qg ?_|refine qi ?_))
   all_goals (repeat' (first|refine qg ?_|refine qh rfl ?_|refine qj ?_|refine qi ?_|(refine qc 6 ?_;refine QN S ?_;refine jQ S ?_;(refine al S ?_;clear S;intro b h S);(first|(refine sB S rfl rfl ?_;clear S;intro h S));refine qf ?_)|(refine qc 7 ?_;refine vl ?_;refine lB S rfl rfl ?_;refine mv ?_;(first|(refine cS ?_ ?_<;>intro hc))<;>(refine qK ?_))|(refine qc 8 ?_;refine vl ?_;refine lB S rfl rfl ?_;refine mv ?_;(refine tS ?_ ?_<;>intro hc)<;>(refine qK ?_))|(refine qc 9 ?_;refine mv ?_;refine vl ?_;refine lB S rfl rfl ?_;(refine one 1 S ?_;clear S;intro u h S))|(refine qc 10 ?_;refine vl ?_;refine lB S rfl rfl ?_;refine mv ?_;(refine tS ?_ ?_<;>intro hc)<;>(refine qK ?_))|(refine qc 11 ?_;refine mv ?_;refine vl ?_;refine lB S rfl rfl ?_;(refine one 1 S ?_;clear S;intro u h S))))
   all_goals (try simp only [zA0] at *)
   ·have e:ZZ k n (r.ts.getD i default)=[]:=by unfold ZZ;rw [if_pos hc]
    exact ⟨v,by rw [hts,e,zD7];exact S.pick,(qo)⟩
   ·have e:ZZ k n (r.ts.getD i default)=[(r.ts.getD i default).b]:=by unfold ZZ;rw [if_neg (by assumption),if_pos (by assumption)]
    refine app (y0:=(r.ts.getD i default).b) S rfl rfl ?_;clear S;intro v' h S;(refine qK ?_);all_goals (repeat' (fail))
    exact ⟨v',by rw [hts,e];exact S.pick,(qo)⟩
   ·have e:ZZ k n (r.ts.getD i default)=[(r.ts.getD i default).a]:=by unfold ZZ;rw [if_neg (by assumption),if_neg (by assumption),if_pos (by assumption)]
    refine app (y0:=(r.ts.getD i default).a) S rfl rfl ?_;clear S;intro v' h S;(refine qK ?_);all_goals (repeat' (fail))
    exact ⟨v',by rw [hts,e];exact S.pick,(qo)⟩
   ·have e:ZZ k n (r.ts.getD i default)=[]:=by unfold ZZ;rw [if_neg (by assumption),if_neg (by assumption),if_neg (by assumption)]
    exact ⟨v,by rw [hts,e,zD7];exact S.pick,(qo)⟩
  ·clear S;rintro v h S;all_goals (repeat' (first|(refine qc 12 ?_;refine jR ?_)))
   refine ⟨(i+1,v),?_,?_,qo⟩
   ·show r.ts.length - (i+1)<r.ts.length - i;omega
   ·exact ⟨S,by (try dsimp only);omega⟩
 ·obtain rfl:i=r.ts.length:=by omega
  rw [zD4] at S;all_goals (repeat' (first|(refine qc 13 ?_;refine mv ?_)))
  (refine qx rfl rfl rfl rfl rfl ((pX S (by omega)).mono ?_);rintro _ h ⟨l,z1,z2,S⟩)<;>(refine qf ?_)
  all_goals (repeat' (first|refine qg ?_|(refine qc 14 ?_;refine qX ?_)))
  refine qC ⟨_,rfl,?_⟩;refine ⟨l,S,SS.of z1 z2 (vF H.ts (fun t ht=>(H.tt t ht).1) k n),fun x=>by rw [z1.perm.mem_iff];exact qah H,(by rw [z1.len];exact h64)⟩
theorem wQ {h0:AH} (w:WfH h0) {p:Nat} {r:Rl} (B:BkRd h0 p r) (H:RO r):Fn Tryz.prog Xh 73 [.pointer (some ⟨p,0,none⟩)] h0 (fun u h'=>∃ l,Hs h0 h' [.sl u 9 1 eS l]∧SS l∧(∀ x,x∈l↔gat r.us x≠none)∧l.length=r.us.length):=by
 have S:=Hs.start w;obtain ⟨s,B⟩:=B;have hb:=B.bk;have hrg:=B.rg;have hgl:=B.len;have h64:=H.l64;refine qZ rfl Tryz.func73 rfl rfl ?_;all_goals (repeat' (first|refine qg ?_|(refine qc 0 ?_;refine qK ?_)|(refine qc 1 ?_;refine qK ?_)))
 have S:=S.Qb (e:=9) (z:=1) (enc:=eS);all_goals (repeat' (first|refine qi ?_|(refine qc 2 ?_;refine Qz ?_;refine lH S ?_;refine Zx S ?_;refine qK ?_)))
 refine qH (σ:=Nat×Value) (fun (i,v) h'=>Hs h0 h' [.sl v 9 1 eS ((r.us.take i).map (·.name))]∧i≤r.us.length) (fun (i,v)=>r.us.length - i) (fun (i,v)=>[(3,v),(10,s.vg.val),(11,.int .i64 s.gs.length),(12,.int .i64 i)]) (0,.slice none 0 0) qo ?_ ?_
 ·exact ⟨S,zB0 _⟩
 clear S;rintro ⟨i,v⟩ h ⟨S,g1⟩;all_goals (repeat' (first|refine qg ?_|refine qh rfl ?_|refine qj ?_|refine qw ?_|refine qi ?_|(refine qc 3 ?_;(first|(refine cS ?_ ?_<;>intro hc))<;>(refine qf ?_))|(refine qc 4 ?_;refine QN S ?_;refine jQ S ?_;(refine al S ?_;clear S;intro b h S);(first|(refine sB S rfl rfl ?_;clear S;intro h S));refine qf ?_)|(refine qc 5 ?_;refine mv ?_;refine vl ?_;refine lB S rfl rfl ?_;(refine one 1 S ?_;clear S;intro u h S))))
 ·have hil:i<s.gs.length:=by omega
  have hg:=B.g hil;simp only [zA0] at *;refine app (y0:=(s.gs.getD i default).name) S rfl rfl ?_;clear S;intro v' h S;(refine qK ?_);all_goals (repeat' (first|(refine qc 6 ?_;refine jR ?_)))
  refine ⟨(i+1,v'),?_,?_,qo⟩
  ·show r.us.length - (i+1)<r.us.length - i;omega
  ·refine ⟨?_,by (try dsimp only);omega⟩;dsimp only;have e:(r.us.take (i+1)).map (·.name)=(r.us.take i).map (·.name) ++ [(s.gs.getD i default).name]:=by rw [qQ (by omega),← hg];simp
   rw [e];exact S.pick
 ·obtain rfl:i=r.us.length:=by omega
  rw [zD4] at S;all_goals (repeat' (first|(refine qc 7 ?_;refine mv ?_)))
  have hl2:(r.us.map (·.name)).length<250:=by simp;omega
  (refine qx rfl rfl rfl rfl rfl ((pX S hl2).mono ?_);rintro _ h ⟨l,z1,z2,S⟩)<;>(refine qf ?_)
  all_goals (repeat' (first|refine qg ?_|(refine qc 8 ?_;refine qX ?_)))
  refine qC ⟨_,rfl,?_⟩;have hn:(r.us.map (·.name)).Nodup:=by
   rw [List.Nodup,zD2];intro i j hi hj hij;simp only [zC5] at hi hj;have:=H.nd i j hij hj;rw [zA2,zA2,zA4 hj,zA4 hi] at this;simpa using this
  refine ⟨l,S,SS.of z1 z2 hn,fun x=>?_,(by rw [z1.len];simp)⟩;rw [z1.perm.mem_iff,Je,zF2]
theorem find_ok {h0:AH} (w:WfH h0) {p:Nat} {r:Rl} (B:BkRd h0 p r) (H:RO r) (n:List UInt8):Fn Tryz.prog Xh 26 [.pointer (some ⟨p,0,none⟩),str n] h0 (fun u h'=>(∃ (i:Nat) (tv:SlV),gat r.us n=some i∧u = .tuple #[gV ⟨r.us.getD i default,tv⟩,.bool true]∧Hs h0 h' [.sl tv.val 9 1 eS (r.us.getD i default).tg])∨(gat r.us n=none∧u = .tuple #[gV ⟨default,⟨none,0,0⟩⟩,.bool false]∧Hs h0 h' [])):=by
 have S:=Hs.start w;obtain ⟨s,B⟩:=B;have hb:=B.bk;have hrg:=B.rg;have hgl:=B.len;have h64:=H.l64;refine qZ rfl Tryz.func26 rfl rfl ?_;all_goals (repeat' (first|refine qg ?_|(refine qc 0 ?_;(refine al S ?_;clear S;intro b h S);refine qK ?_)|(refine qc 1 ?_;refine mv ?_)))
 (refine qx rfl rfl rfl rfl rfl ((jD S.wf (S.ext.get w hb)).mono ?_);rintro _ h ⟨rfl,x⟩)<;>(replace S:=S.qN x;clear x;refine qf ?_)
 all_goals (repeat' (first|refine qg ?_|refine qh rfl ?_|refine qj ?_|(refine qc 3 ?_;refine Jc ?_;refine lH S ?_;refine mv ?_)))
 have hmp:=B.mp.ext w S.ext;refine lkR hmp (fun i hi=>?_) (fun hi=>?_)
 ·simp only [okV];(refine zk ?_);rw [B.at_ n] at hi;cases hq:gat r.us n with
  | none=>rw [hq] at hi;cases hi
  | some i' =>
   rw [hq] at hi;cases hi
   obtain ⟨q1,q2,q3⟩:=jo hq;have hil:i'<s.gs.length:=by omega
   have hg:=B.g hil;have hd:=H.chk _ (qM q1);have h4:=(QI hd).2.2.2.1;all_goals (repeat' (first|refine qg ?_|refine qh rfl ?_|refine qj ?_|(refine qc 4 ?_;refine ZU ?_)|(refine qc 6 ?_;refine Qz ?_;refine lH S ?_;refine mv ?_;refine QN S ?_;refine jQ S ?_)))
   have e1:(Int.ofNat i').toNat=i':=rfl;simp only [e1];(refine qx rfl rfl rfl rfl rfl ((VK S.wf (s.gs.getD i' default) ((B.tg i' hil).ext w S.ext) (by grind)).mono ?_);rintro _ h ⟨tv,rfl,x⟩)<;>(replace S:=S.zQ x;clear x;(first|(refine sB S rfl rfl ?_;clear S;intro h S));refine qK ?_)
   rw [hg] at S;all_goals (repeat' (fail))
   refine qC ⟨_,zD S rfl (by first|exact .there .here) (by exact rfl) (by exact rfl),?_⟩;exact .inl ⟨i',tv,rfl,rfl,S.only .here⟩
 ·simp only [okV];(refine zk ?_);all_goals (repeat' (first|refine qg ?_|refine qh rfl ?_|(refine qc 4 ?_;refine ZU ?_)|(refine qc 5 ?_;refine vl ?_;(first|(refine sB S rfl rfl ?_;clear S;intro h S));refine qK ?_)))
  refine qC ⟨_,zD S rfl (by first|exact .here) (by exact rfl) (by exact rfl),?_⟩;refine .inr ⟨?_,rfl,S.drop⟩;rw [B.at_ n] at hi;cases hq:gat r.us n with
  | none=>rfl
  | some i'=>rw [hq] at hi;cases hi
theorem qcD {h0:AH} (w:WfH h0) {p:Nat} {r:Rl} (B:BkRd h0 p r) (H:RO r) (a b:List UInt8):Fn Tryz.prog Xh 36 [.pointer (some ⟨p,0,none⟩),str a,str b] h0 (fun u h'=>((∃ t∈r.ts,t.a=jY a b∧t.b=jZ a b∧u = .tuple #[.int .u8 t.k,.bool true])∨(¬ tied r.ts a b∧u = .tuple #[.int .u8 0,.bool false]))∧Hs h0 h' []):=by
 have S:=Hs.start w;obtain ⟨s,B⟩:=B;have hb:=B.bk;have hrt:=B.rt;have h256:=H.l256;refine qZ rfl Tryz.func36 rfl rfl ?_;all_goals (repeat' (first|refine qg ?_|(refine qc 0 ?_;refine qX ?_)|(refine qc 1 ?_;refine mv ?_)))
 (refine qx rfl rfl rfl rfl rfl ((jD S.wf hb).mono ?_);rintro _ h ⟨rfl,x⟩)<;>(replace S:=S.qN x;clear x;refine qf ?_)
 all_goals (repeat' (first|refine qg ?_|refine qh rfl ?_|refine qj ?_|(refine qc 3 ?_;refine qE ?_;refine mv ?_;skip)))
 (refine qx rfl rfl rfl rfl rfl ((xN S.wf (S.ext.get w hb) (hrt.ext w S.ext) (by omega) H.ts a b).mono ?_);rintro _ h ⟨⟨j,_ | _,rfl,p1,p2⟩,x⟩)<;>(replace S:=S.qN x;clear x;refine zk ?_)
 ·all_goals (repeat' (first|refine qg ?_|refine qh rfl ?_|(refine qc 4 ?_;refine ZU ?_)|(refine qc 5 ?_;refine qX ?_)))
  refine qC ⟨_,rfl,?_⟩;exact ⟨.inr ⟨fun q=>(by have:=p2.2 ((p1.tied H.ts).1 q);cases this),rfl⟩,S⟩
 ·obtain ⟨z1,z2,z3⟩:=p2.1 rfl;all_goals (repeat' (first|refine qg ?_|refine qh rfl ?_|refine qj ?_|(refine qc 4 ?_;refine ZU ?_)|(refine qc 6 ?_;refine Qz ?_;refine lH S ?_;refine mv ?_;refine QN S ?_;refine fB S ?_;refine jQ S ?_;refine qX ?_)))
  refine qC ⟨_,rfl,?_⟩;exact ⟨.inl ⟨_,qM z1,z2,z3,rfl⟩,S⟩
end Go.Proofs.Xx
namespace Go.Proofs.Xx
open Go Go.Proofs
def MetP (mp:List (List UInt8×Bool)) (M:List (List UInt8)):Prop:=∀ x,zK mp x=if x∈M then some true else none
theorem MetP.put {mp:List (List UInt8×Bool)} {M:List (List UInt8)} (h:MetP mp M) (n:List UInt8):MetP (Ql mp n true) (M ++ [n]):=fun x=>by
 rw [J5,h x];by_cases e:x=n
 ·subst e;simp
 ·simp [e]
inductive Rch (r:Rl) (k:Int) (n:List UInt8):List UInt8→Prop
 | refl:Rch r k n n
 | step {x y:List UInt8} (h:Rch r k n x) (a:adj r k x y):Rch r k n y
theorem Rch.trans {r:Rl} {k:Int} {n x y:List UInt8} (h:Rch r k n x) (g:Rch r k x y):Rch r k n y:=by
 induction g with
 | refl=>exact h
 | step g a ih=>exact .step ih a
theorem Rch.symm {r:Rl} {k:Int} {n x:List UInt8} (h:Rch r k n x):Rch r k x n:=by
 induction h with
 | refl=>exact .refl
 | step h a ih=>exact Rch.trans (.step .refl a.symm) ih
structure Dfs (r:Rl) (M:List (List UInt8)) (n:List UInt8) (N:List (List UInt8)):Prop where
 nd:N.Nodup
 dj:∀ x∈N,x ∉ M
 self:n∈M∨n∈N
 kn:∀ x∈N,gat r.us x≠none
 rc:∀ x∈N,Rch r 1 n x
 cl:∀ x∈N,∀ y,adj r 1 x y→y∈M∨y∈N
def KJ (r:Rl) (M:List (List UInt8)):Nat:=((r.us.map (·.name)).filter fun x=>decide (x ∉ M)).length
theorem qbm {r:Rl} {M M':List (List UInt8)} (h:∀ x∈M,x∈M'):KJ r M'≤KJ r M:=by
 unfold KJ;refine List.Sublist.length_le ?_;generalize r.us.map (·.name)=l
 induction l with
 | nil=>exact List.Sublist.slnil
 | cons x l ih =>
  by_cases q:x∈M
  ·simp [q,h x q];simpa using ih
  ·by_cases q2:x∈M'
   ·simp [q,q2];exact List.Sublist.cons _ (by simpa using ih)
   ·simp [q,q2];simpa using ih
theorem qbn {r:Rl} {M:List (List UInt8)} {n:List UInt8} (hn:gat r.us n≠none) (h:n ∉ M):KJ r (M ++ [n])<KJ r M:=by
 have hm:=ZL hn;unfold KJ;generalize r.us.map (·.name)=l at hm
 induction l with
 | nil=>cases hm
 | cons x l ih =>
  have mono:(l.filter fun x=>decide (x ∉ M ++ [n])).length≤(l.filter fun x=>decide (x ∉ M)).length:=by
   refine List.Sublist.length_le ?_;clear ih hm;induction l with
   | nil=>exact List.Sublist.slnil
   | cons y l ih =>
    by_cases q:y∈M
    ·simp [q];simpa using ih
    ·by_cases q2:y=n
     ·simp [q,q2,h];exact List.Sublist.cons _ (by simpa using ih)
     ·simp [q,q2];simpa using ih
  by_cases e:x=n
  ·subst e;simp only [zD8];simp [h]
   simp at mono;omega
  ·have:=ih (by rcases zE8.1 hm with q|q;exact absurd q.symm e;exact q);simp only [zD8];by_cases q:x∈M
   ·simp [q];simpa using this
   ·simp [q,e];simpa using this
def cvJ (b4 b5 b1 b6:Nat):Value:=.func (.func 72) #[] #[.pointer (some ⟨b4,0,none⟩),.pointer (some ⟨b5,0,none⟩),.pointer (some ⟨b1,0,none⟩),.pointer (some ⟨b6,0,none⟩)]
abbrev Vd (p b4 b5 b1 b6 m:Nat) (mp:List (List UInt8×Bool)) (v:SlV) (C:List (List UInt8)):List Rs :=
 [.blk b4 [.map (some m)] 112,.mp m .bool mp,.blk b5 [v.val] 22,.sl v.val 9 1 eS C,.blk b1 [.pointer (some ⟨p,0,none⟩)] 40,.blk b6 [cvJ b4 b5 b1 b6] 113]
variable [Flag]
theorem qc7 {h0:AH} (w:WfH h0) {p:Nat} {r:Rl} (B:BkRd h0 p r) (H:RO r) {b4 b5 b1 b6 m:Nat}:∀ (z:Nat) {rs:List Rs} {h:AH} {mp:List (List UInt8×Bool)} {v:SlV} {C M:List (List UInt8)} (n:List UInt8) (S:Hs h0 h (Vd p b4 b5 b1 b6 m mp v C ++ rs)) (hm:MetP mp M) (hz:KJ r M≤z) (hn:gat r.us n≠none) (hC:C.Nodup∧∀ x∈C,x∈M∧gat r.us x≠none),
 Fn Tryz.prog Xh 72 [str n,.pointer (some ⟨b4,0,none⟩),.pointer (some ⟨b5,0,none⟩),.pointer (some ⟨b1,0,none⟩),.pointer (some ⟨b6,0,none⟩)] h (fun _ h'=>∃ mp' v' N,Hs h0 h' (Vd p b4 b5 b1 b6 m mp' v' (C ++ N) ++ rs)∧MetP mp' (M ++ N)∧Dfs r M n N):=by
 intro z;induction z using Nat.strongRecOn with
 | _ z ih =>
 intro rs h mp v C M n S hm hz hn hC;dsimp only [Vd,List.cons_append,List.nil_append] at S;have hU:=jw hC.1 (m:=r.us.map (·.name)) fun x hx=>ZL (hC.2 x hx).2;have h64:=H.l64;rw [zC5] at hU;refine qZ rfl Tryz.func72 rfl rfl ?_;all_goals (repeat' (first|refine qg ?_|(refine qc 0 ?_;refine lB S rfl rfl ?_;refine mv ?_)))
 refine lk S (.there .here) (fun y hy=>?_) (fun hy=>?_)
 ·rw [hm n] at hy;have hM:n∈M:=by
   apply zG9
   intro q;rw [if_neg q] at hy;cases hy
  rw [if_pos hM] at hy;cases hy
  simp only [okV];(refine qf ?_);all_goals (repeat' (refine qh rfl ?_))
  refine qC ⟨_,rfl,?_⟩;exact ⟨mp,v,[],(by rw [zD7];exact S),(by rw [zD7];exact hm),⟨by simp,by simp,.inl hM,by simp,by simp,by simp⟩⟩
 ·have hM:n ∉ M:=fun q=>by rw [hm n,if_pos q] at hy;cases hy
  have hlt:=qbn hn hM;simp only [okV];(refine qf ?_);all_goals (repeat' (first|refine qg ?_|refine qh rfl ?_|refine qj ?_|(refine qc 1 ?_;refine lB S rfl rfl ?_;refine mv ?_)))
  refine up (x:=true) (key:=n) S (.there .here) (.there .here) (fun h S=>?_) (.inl rfl);have hm':=hm.put n;(refine qf ?_);all_goals (repeat' (first|refine qg ?_|(refine qc 2 ?_;refine lB S rfl rfl ?_;refine mv ?_;(refine one 1 S ?_;clear S;intro u h S))))
  refine app (y0:=n) S rfl rfl ?_;clear S;intro v1 h S;obtain ⟨v,rfl⟩:=S.sV v1;((first|(refine sB S rfl rfl ?_;clear S;intro h S));refine qf ?_);all_goals (repeat' (first|refine qg ?_|(refine qc 3 ?_;refine lB S rfl rfl ?_;refine mv ?_)))
  (refine qx rfl rfl rfl rfl rfl ((wV S.wf (B.ext w S.ext) H n 1).mono ?_);rintro u h ⟨l,x,l1,l2,l3⟩)<;>(replace S:=S.zQ x;clear x;refine ZJ S rfl rfl ?_;refine qK ?_)
  all_goals (repeat' (refine qi ?_))
  have S:=(show Hs h0 h (.sl u 9 1 eS l :: (Vd p b4 b5 b1 b6 m (Ql mp n true) v (C ++ [n] ++ []) ++ rs)) from by
   rw [zD7];replace S:Hs h0 h (.sl u 9 1 eS l :: .sl v.val 9 1 eS (C ++ [n]) :: .blk b4 [.map (some m)] 112 :: .mp m .bool (Ql mp n true) :: .blk b5 [v.val] 22 :: .blk b1 [.pointer (some ⟨p,0,none⟩)] 40 :: .blk b6 [cvJ b4 b5 b1 b6] 113 :: rs):=S;dsimp only [Vd,List.cons_append,List.nil_append];exact S.pick)
  refine qH (σ:=Nat×List (List UInt8×Bool)×SlV×List (List UInt8)) (fun (i,mp,v,N) h'=>Hs h0 h' (.sl u 9 1 eS l :: (Vd p b4 b5 b1 b6 m mp v (C ++ [n] ++ N) ++ rs))∧MetP mp (M ++ [n] ++ N)∧i≤l.length∧N.Nodup∧(∀ x∈N,x ∉ M∧x≠n∧gat r.us x≠none∧Rch r 1 n x∧∀ y,adj r 1 x y→y∈M∨y=n∨y∈N)∧∀ j,j<i→l.getD j default∈M∨l.getD j default=n∨l.getD j default∈N) (fun (i,mp,v,N)=>l.length - i) (fun (i,mp,v,N)=>[(4,.pointer (some ⟨b6,0,none⟩)),(19,u),(20,.int .i64 l.length),(21,.int .i64 i)]) (0,Ql mp n true,v,[]) qo ?_ ?_
  ·exact ⟨S,(by rw [zD7];exact hm'),zB0 _,by simp,by simp,fun j hj=>absurd hj (zB7 _)⟩
  clear S;rintro ⟨i,mp,v,N⟩ h ⟨S,k1,k2,k3,k4,k5⟩;dsimp only [Vd,List.cons_append,List.nil_append] at S;all_goals (repeat' (first|refine qg ?_|refine qh rfl ?_|refine qj ?_|refine qw ?_|refine qi ?_|(refine qc 4 ?_;(first|(refine cS ?_ ?_<;>intro hc))<;>(refine qf ?_))))
  ·all_goals (repeat' (first|(refine qc 5 ?_;refine qy S rfl rfl ?_;refine qI S rfl rfl ?_;refine qK ?_)|(refine qc 6 ?_;refine lB S rfl rfl ?_;refine mv ?_)))
   simp only [zA0];have hf:=(l2 _).1 (qM (show i<l.length by omega));have hfk:=(QJ H hf).2.1;have hz2:KJ r (M ++ [n] ++ N)≤KJ r (M ++ [n]):=qbm fun x hx=>zB8.2 (.inl hx);have hC2:(C ++ [n] ++ N).Nodup∧∀ x∈C ++ [n] ++ N,x∈M ++ [n] ++ N∧gat r.us x≠none:=by
    refine ⟨?_,fun x hx=>?_⟩
    ·rw [zG5,zG5];refine ⟨⟨hC.1,by simp,fun a ha b hb e=>?_⟩,k3,fun a ha b hb e=>?_⟩
     ·rw [zB5] at hb;subst e;subst hb;exact hM (hC.2 _ ha).1
     ·subst e;rcases zB8.1 ha with q|q
      ·exact (k4 a hb).1 (hC.2 a q).1
      ·exact (k4 a hb).2.1 (zB5.1 q)
    ·simp only [zB8,zB5] at hx ⊢;rcases hx with (q|q)|q
     ·exact ⟨.inl (.inl (hC.2 x q).1),(hC.2 x q).2⟩
     ·exact ⟨.inl (.inr q),q ▸ hn⟩
     ·exact ⟨.inr q,(k4 x q).2.2.1⟩
   have S:=(show Hs h0 h (Vd p b4 b5 b1 b6 m mp v (C ++ [n] ++ N) ++ (.sl u 9 1 eS l :: rs)) from by dsimp only [Vd,List.cons_append,List.nil_append];exact S.pick)
   (refine zx rfl rfl rfl rfl ((ih (KJ r (M ++ [n])) (by omega) (l.getD i default) S k1 hz2 hfk hC2).mono ?_);rintro _ h ⟨mp',v',N2,S,e1,D⟩)<;>(refine qf ?_)
   all_goals (repeat' (first|(refine qc 7 ?_;refine jR ?_)))
   refine ⟨(i+1,mp',v',N ++ N2),?_,?_,qo⟩
   ·show l.length - (i+1)<l.length - i;omega
   ·have key:∀ x,x∈M ++ [n] ++ N→x∈M∨x=n∨x∈N:=fun x hx=>by
     simp only [zB8,zB5] at hx;grind
    have fin:∀ y,(y∈M ++ [n] ++ N∨y∈N2)→y∈M∨y=n∨y∈N ++ N2:=fun y hy=>by
     rw [zB8];rcases hy with q|q
     ·rcases key y q with q|q|q
      ·exact .inl q
      ·exact .inr (.inl q)
      ·exact .inr (.inr (.inl q))
     ·exact .inr (.inr (.inr q))
    refine ⟨?_,?_,?_,?_,fun x hx=>?_,Ze (fun j hj=>?_) ?_⟩
    ·dsimp only [Vd,List.cons_append,List.nil_append] at S ⊢;rw [← zF3];exact S.pick
    ·rw [← zF3];exact e1
    ·(try dsimp only);omega
    ·rw [zG5];exact ⟨k3,D.nd,fun a ha b hb e=>by subst e;exact D.dj a hb (by simp [ha])⟩
    ·rcases zB8.1 hx with q|q
     ·obtain ⟨a1,a2,a3,a4,a5⟩:=k4 x q;refine ⟨a1,a2,a3,a4,fun y hy=>?_⟩;rcases a5 y hy with q|q|q
      ·exact .inl q
      ·exact .inr (.inl q)
      ·exact .inr (.inr (zB8.2 (.inl q)))
     ·have hd:=D.dj x q;simp only [zB8,zB5,not_or] at hd;exact ⟨hd.1.1,hd.1.2,D.kn x q,(Rch.step .refl hf).trans (D.rc x q),fun y hy=>fin y (D.cl x q y hy)⟩
    ·rcases k5 j hj with q|q|q
     ·exact .inl q
     ·exact .inr (.inl q)
     ·exact .inr (.inr (zB8.2 (.inl q)))
    ·exact fin _ D.self
  ·obtain rfl:i=l.length:=by omega
   refine ⟨_,rfl,?_⟩;refine ⟨mp,v,[n] ++ N,?_,?_,⟨?_,fun x hx=>?_,.inr (by simp),fun x hx=>?_,fun x hx=>?_,fun x hx y hy=>?_⟩⟩
   ·rw [← zF3];dsimp only [Vd,List.cons_append,List.nil_append];exact S.pick
   ·rw [← zF3];exact k1
   ·rw [zG5];exact ⟨by simp,k3,fun a ha b hb e=>by subst e;exact (k4 a hb).2.1 (zB5.1 ha)⟩
   ·rcases zB8.1 hx with q|q
    ·rw [zB5.1 q];exact hM
    ·exact (k4 x q).1
   ·rcases zB8.1 hx with q|q
    ·rw [zB5.1 q];exact hn
    ·exact (k4 x q).2.2.1
   ·rcases zB8.1 hx with q|q
    ·rw [zB5.1 q];exact .refl
    ·exact (k4 x q).2.2.2.1
   ·rw [zB8,zB5];rcases zB8.1 hx with q|q
    ·rw [zB5.1 q] at hy;obtain ⟨j,j1,j2⟩:=qL.1 ((l2 y).2 hy);have:=k5 j j1;rw [j2] at this;rcases this with q|q|q
     ·exact .inl q
     ·exact .inr (.inl q)
     ·exact .inr (.inr q)
    ·rcases (k4 x q).2.2.2.2 y hy with q|q|q
     ·exact .inl q
     ·exact .inr (.inl q)
     ·exact .inr (.inr q)
end Go.Proofs.Xx
namespace Go.Proofs.Xx
open Go Go.Proofs
structure Wd where
 sv:SlV
 ws:List (List UInt8)
instance:Inhabited Wd:=⟨⟨⟨none,0,0⟩,[]⟩⟩
def gI (w:Wd):List Value:=[w.sv.val]
def WdsOk (cs:List Wd) (h:AH) (fp:Fp):Prop:=∀ w∈cs,(Rs.rd w.sv.val 1 eS w.ws).ok h fp
abbrev wY (cs:List Wd):Rs:=.any (WdsOk cs)
theorem Hs.qdM {h0 h:AH} {rs:List Rs} {cs:List Wd} {g:Wd} {e:TypeId} (S:Hs h0 h (.sl g.sv.val e 1 eS g.ws :: wY cs :: rs)):Hs h0 h (wY (cs ++ [g]) :: rs):=by
 obtain ⟨f1,k1,k2,f2,k3,k4,k5⟩:=S.sep;refine ⟨S.ext,fun b=>f1 b∨f2 b,fun h' q g' hg=>?_,fun b hb=>?_,k5.mono fun b hb=>⟨trivial,fun q=>?_⟩⟩
 ·rcases zB8.1 hg with hg|hg
  ·exact WP (k3 h' (fun b hb=>q b (.inr hb)) g' hg) fun b hb=>.inr hb
  ·obtain rfl:=zB5.1 hg;exact WP (qdO (k1.local fun b hb=>q b (.inl hb))) fun b hb=>.inl hb
 ·rcases hb with hb|hb
  ·exact k2 b hb
  ·exact ⟨(k4 b hb).1,(k4 b hb).2.1,trivial⟩
 ·rcases q with q|q
  ·exact hb.1.2 q
  ·exact hb.2 q
theorem WdsOk.rd {h:AH} {fp:Fp} {cs:List Wd} (k:WdsOk cs h fp) {i:Nat} (hi:i<cs.length):Qh h (cs.getD i default).sv.val 1 eS (cs.getD i default).ws:=by
 have q:=k _ (qM hi);rcases q with ⟨q1,q2⟩|⟨b,o,cap,cc,e,s,r,q1,q2,q3,q4⟩
 ·exact .inl ⟨q1,by rw [q2];rfl,by rw [q2];rfl⟩
 ·exact .inr ⟨b,o,cap,cc,e,s,r,q1,q2,q4⟩
structure CirOk (r:Rl) (L:List Wd):Prop where
 ss:∀ w∈L,SS w.ws∧w.ws≠[]∧∀ x,x∈w.ws↔(gat r.us (w.ws.getD 0 default)≠none∧Rch r 1 (w.ws.getD 0 default) x)
 hd:∀ i j,i<j→j<L.length→zG ((L.getD i default).ws.getD 0 default) ((L.getD j default).ws.getD 0 default)
theorem Rch.known {r:Rl} (H:RO r) {k:Int} {n x:List UInt8} (h:Rch r k n x) (hn:gat r.us n≠none):gat r.us x≠none:=by
 induction h with
 | refl=>exact hn
 | step h a ih=>exact (QJ H a).2.1
theorem Rch.closed {r:Rl} {k:Int} {n x:List UInt8} {M:List UInt8→Prop} (h:Rch r k n x) (hn:M n) (hc:∀ x,M x→∀ y,adj r k x y→M y):M x:=by
 induction h with
 | refl=>exact hn
 | step h a ih=>exact hc _ ih _ a
theorem SS.le {l:List (List UInt8)} (h:SS l) {i j:Nat} (hij:i≤j) (hj:j<l.length):¬ zG (l.getD j default) (l.getD i default):=by
 rcases zA7 i j with q|q
 ·exact zZ (h i j q hj)
 ·obtain rfl:i=j:=by omega
  exact zA _
abbrev qcc (p b4 b5 b1 b6 m:Nat) (mp:List (List UInt8×Bool)) (vc:SlV) (u:Value) (ns:List (List UInt8)) (v3:Value) (cs:List Wd):List Rs :=
 [.sl u 9 1 eS ns,.blk b4 [.map (some m)] 112,.mp m .bool mp,.blk b5 [vc.val] 22,.blk b1 [.pointer (some ⟨p,0,none⟩)] 40,.blk b6 [cvJ b4 b5 b1 b6] 113,.sl v3 22 1 gI cs,wY cs]
structure CirI (r:Rl) (ns:List (List UInt8)) (i:Nat) (M:List (List UInt8)) (cs:List Wd):Prop where
 mem:∀ x,x∈M↔∃ w∈cs,x∈w.ws
 cl:∀ x∈M,∀ y,adj r 1 x y→y∈M
 nm:∀ j,j<i→ns.getD j default∈M
 ok:CirOk r cs
 hd:∀ j,j<cs.length→∃ k,k<i∧(cs.getD j default).ws.getD 0 default=ns.getD k default
 ln:cs.length≤i
theorem CirI.next {r:Rl} (H:RO r) {ns:List (List UInt8)} (hs:SS ns) (hns:∀ x,x∈ns↔gat r.us x≠none) {i:Nat} (hi:i<ns.length) {M N N':List (List UInt8)} {cs:List Wd} {v:SlV} (I:CirI r ns i M cs) (D:Dfs r M (ns.getD i default) N) (hn:ns.getD i default ∉ M) (hS:SS N') (hN:∀ x,x∈N'↔x∈N):CirI r ns (i+1) (M ++ N) (cs ++ [⟨v,N'⟩]):=by
 have hk:gat r.us (ns.getD i default)≠none:=(hns _).1 (qM hi);have hself:ns.getD i default∈N:=D.self.elim (fun q=>absurd q hn) id;have hcomp:∀ x,Rch r 1 (ns.getD i default) x→x∈N:=fun x hx=>by
  have:x∈M∨x∈N:=hx.closed (M:=fun x=>x∈M∨x∈N) (.inr hself) fun x h y a=>by
   rcases h with h|h
   ·exact .inl (I.cl x h y a)
   ·exact D.cl x h y a
  rcases this with q|q
  ·exact absurd (hx.symm.closed (M:=fun x=>x∈M) q I.cl) hn
  ·exact q
 have hlen:0<N'.length:=List.length_pos_of_mem ((hN _).2 hself);have h0:N'.getD 0 default=ns.getD i default:=by
  obtain ⟨j,j1,j2⟩:=qL.1 ((hN _).2 hself);have le1:=hS.le (zB0 j) j1;rw [j2] at le1;have hm0:=(hN _).1 (qM hlen);obtain ⟨k,k1,k2⟩:=qL.1 ((hns _).2 (D.kn _ hm0));have hki:i≤k:=by
   apply zG9
   intro q;exact D.dj _ hm0 (k2 ▸ I.nm k (by omega))
  have le2:=hs.le hki k1;rw [k2] at le2;rcases Zr le1 with q|q
  ·exact q
  ·exact absurd q le2
 refine ⟨fun x=>?_,fun x hx y a=>?_,Ze (fun j hj=>zB8.2 (.inl (I.nm j hj))) (zB8.2 (.inr hself)),⟨fun w hw=>?_,fun j k hjk hk2=>?_⟩,fun j hj=>?_,by simp;exact I.ln⟩
 ·rw [zB8,I.mem];constructor
  ·rintro (⟨w,h1,h2⟩|h)
   ·exact ⟨w,by simp [h1],h2⟩
   ·exact ⟨⟨v,N'⟩,by simp,(hN x).2 h⟩
  ·rintro ⟨w,h1,h2⟩;rcases zB8.1 h1 with q|q
   ·exact .inl ⟨w,q,h2⟩
   ·rw [zB5.1 q] at h2;exact .inr ((hN x).1 h2)
 ·rw [zB8] at hx ⊢;rcases hx with q|q
  ·exact .inl (I.cl x q y a)
  ·exact D.cl x q y a
 ·rcases zB8.1 hw with q|q
  ·exact I.ok.ss w q
  ·rw [zB5.1 q];refine ⟨hS,fun e=>?_,fun x=>?_⟩
   ·simp only at e;rw [e] at hlen;exact absurd hlen (by simp)
   ·simp only [h0,hN];exact ⟨fun h=>⟨hk,D.rc x h⟩,fun h=>hcomp x h.2⟩
 ·simp only [zB2,zD5] at hk2;rw [Ym (show j<cs.length by omega)];rcases zA7 k cs.length with q|q
  ·rw [Ym q];exact I.ok.hd j k hjk q
  ·rw [KF q,show k - cs.length=0 by omega];show zG _ (N'.getD 0 default)
   rw [h0];obtain ⟨z,z1,z2⟩:=I.hd j (by omega);rw [z2];exact hs z i z1 hi
 ·simp only [zB2,zD5] at hj;rcases zA7 j cs.length with q|q
  ·obtain ⟨z,z1,z2⟩:=I.hd j q;exact ⟨z,by omega,by rw [Ym q];exact z2⟩
  ·rw [KF q,show j - cs.length=0 by omega];exact ⟨i,by omega,h0⟩
variable [Flag]
theorem PL {h0:AH} (w:WfH h0) {p:Nat} {r:Rl} (B:BkRd h0 p r) (H:RO r):Fn Tryz.prog Xh 25 [.pointer (some ⟨p,0,none⟩)] h0 (fun u h'=>∃ cs,Hs h0 h' [.sl u 22 1 gI cs,wY cs]∧CirOk r cs∧(∀ x,gat r.us x≠none→∃ w∈cs,x∈w.ws)∧cs.length≤64):=by
 have S:=Hs.start w;have B0:=B;obtain ⟨s,B⟩:=B;have hb:=B.bk;have h64:=H.l64;refine qZ rfl Tryz.func25 rfl rfl ?_;all_goals (repeat' (first|refine qg ?_|(refine qc 0 ?_;(refine bx S ?_;clear S;intro b h S);refine qK ?_)|(refine qc 1 ?_;refine lB S rfl rfl ?_)))
 (refine qx rfl rfl rfl rfl rfl ((jD S.wf (S.ext.get w hb)).mono ?_);rintro _ h ⟨rfl,x⟩)<;>(replace S:=S.qN x;clear x;refine qf ?_)
 obtain ⟨b1,hnm⟩:∃ x,x=b:=⟨_,rfl⟩;subst hnm;all_goals (repeat' (first|refine qg ?_|refine qh rfl ?_|refine qj ?_|(refine qc 3 ?_;refine qK ?_)))
 (repeat (refine qg ?_));refine qc 4 ?_;refine mkm (α:=Bool) .bool S ?_;clear S;intro m h S;((refine al S ?_;clear S;intro b h S);(first|(refine sB S rfl rfl ?_;clear S;intro h S));refine qf ?_);obtain ⟨b4,hnm⟩:∃ x,x=b:=⟨_,rfl⟩;subst hnm;all_goals (repeat' (first|refine qg ?_|(refine qc 5 ?_;(refine al S ?_;clear S;intro b h S);refine qf ?_)))
 obtain ⟨b5,hnm⟩:∃ x,x=b:=⟨_,rfl⟩;subst hnm;all_goals (repeat' (first|refine qg ?_|(refine qc 6 ?_;(refine al S ?_;clear S;intro b h S);refine qf ?_)))
 obtain ⟨b6,hnm⟩:∃ x,x=b:=⟨_,rfl⟩;subst hnm;all_goals (repeat' (first|refine qg ?_|(refine qc 7 ?_;refine vl ?_;(first|(refine sB S rfl rfl ?_;clear S;intro h S));refine qf ?_)))
 all_goals (repeat' (first|(refine qc 8 ?_;refine lB S rfl rfl ?_)))
 (refine qx rfl rfl rfl rfl rfl ((wQ S.wf (B0.ext w S.ext) H).mono ?_);rintro un h ⟨ns,x,n1,n2,n3⟩)<;>(replace S:=S.zQ x;clear x;refine ZJ S rfl rfl ?_;refine qK ?_)
 all_goals (repeat' (refine qi ?_))
 have S:=(S.Qb (e:=22) (z:=1) (enc:=gI)).anyS (p:=WdsOk []) fun h' g hg=>by cases hg
 replace S:Hs h0 h (wY [] :: .sl (.slice none 0 0) 22 1 gI [] :: .sl un 9 1 eS ns :: .blk b6 [cvJ b4 b5 b1 b6] 113 :: .blk b5 [SlV.val ⟨none,0,0⟩] 22 :: .blk b4 [.map (some m)] 112 :: .mp m .bool [] :: .blk b1 [.pointer (some ⟨p,0,none⟩)] 40 :: []):=S;have S:=(show Hs h0 h (qcc p b4 b5 b1 b6 m [] ⟨none,0,0⟩ un ns (.slice none 0 0) []) from S.pick)
 refine qH (σ:=Nat×List (List UInt8×Bool)×SlV×List (List UInt8)×List Wd×Value) (fun (i,mp,vc,M,cs,v3) h'=>Hs h0 h' (qcc p b4 b5 b1 b6 m mp vc un ns v3 cs)∧MetP mp M∧i≤ns.length∧CirI r ns i M cs) (fun (i,mp,vc,M,cs,v3)=>ns.length - i) (fun (i,mp,vc,M,cs,v3)=>[(3,v3),(5,.pointer (some ⟨b5,0,none⟩)),(6,.pointer (some ⟨b6,0,none⟩)),(14,un),(15,.int .i64 ns.length),(16,.int .i64 i)]) (0,[],⟨none,0,0⟩,[],[],.slice none 0 0) qo ?_ ?_
 ·refine ⟨S,fun x=>by simp [zK,QM],zB0 _,⟨by simp,by simp,by simp,⟨by simp,by simp⟩,by simp,by simp⟩⟩
 clear S;rintro ⟨i,mp,vc,M,cs,v3⟩ h ⟨S,k1,k2,k3⟩;all_goals (repeat' (first|refine qg ?_|refine qh rfl ?_|refine qj ?_|refine qw ?_|refine qi ?_|(refine qc 9 ?_;(first|(refine cS ?_ ?_<;>intro hc))<;>(refine qf ?_))))
 ·all_goals (repeat' (first|refine qg ?_|(refine qc 10 ?_;refine qy S rfl rfl ?_;refine qI S rfl rfl ?_;refine qK ?_)|(refine qc 11 ?_;(first|(refine sB S rfl rfl ?_;clear S;intro h S));refine qf ?_)|(refine qc 12 ?_;refine lB S rfl rfl ?_;refine mv ?_)))
  simp only [zA0];have hk:gat r.us (ns.getD i default)≠none:=(n2 _).1 (qM (by omega));have hnl:i<ns.length:=by omega
  have S:=S.Qb (e:=9) (z:=1) (enc:=eS);replace S:Hs h0 h (.sl (SlV.val ⟨none,0,0⟩) 9 1 eS [] :: .sl un 9 1 eS ns :: .blk b4 [.map (some m)] 112 :: .mp m .bool mp :: .blk b5 [SlV.val ⟨none,0,0⟩] 22 :: .blk b1 [.pointer (some ⟨p,0,none⟩)] 40 :: .blk b6 [cvJ b4 b5 b1 b6] 113 :: .sl v3 22 1 gI cs :: wY cs :: []):=S;have S:=(show Hs h0 h (Vd p b4 b5 b1 b6 m mp ⟨none,0,0⟩ [] ++ (.sl un 9 1 eS ns :: .sl v3 22 1 gI cs :: wY cs :: [])) from by dsimp only [Vd,List.cons_append,List.nil_append];exact S.pick)
  have hC:([]:List (List UInt8)).Nodup∧∀ x∈([]:List (List UInt8)),x∈M∧gat r.us x≠none:=⟨by simp,by simp⟩
  (refine zx rfl rfl rfl rfl ((qc7 w B0 H (KJ r M) (ns.getD i default) S k1 (zA3 _) hk hC).mono ?_);rintro _ h ⟨mp',v',N,S,e1,D⟩)<;>(refine qf ?_)
  rw [zC0] at S;dsimp only [Vd,List.cons_append,List.nil_append] at S;have hnM:0<N.length→ns.getD i default ∉ M:=fun hl q=>D.dj _ (qM hl) ((D.rc _ (qM hl)).closed (M:=fun x=>x∈M) q k3.cl);have hN64:=jw D.nd (m:=r.us.map (·.name)) fun x hx=>ZL (D.kn x hx);rw [zC5] at hN64;all_goals (repeat' (first|refine qg ?_|refine qh rfl ?_|refine qj ?_|(refine qc 13 ?_;refine lB S rfl rfl ?_;refine ZJ S rfl rfl ?_;(first|(refine cS ?_ ?_<;>intro hc))<;>(refine qf ?_))))
  ·all_goals (repeat' (first|(refine qc 14 ?_;refine lB S rfl rfl ?_)))
   have S:=(show Hs h0 h (.sl v'.val 9 1 eS N :: .blk b4 [.map (some m)] 112 :: .mp m .bool mp' :: .blk b5 [v'.val] 22 :: .blk b1 [.pointer (some ⟨p,0,none⟩)] 40 :: .blk b6 [cvJ b4 b5 b1 b6] 113 :: .sl un 9 1 eS ns :: .sl v3 22 1 gI cs :: wY cs :: []) from S.pick)
   (refine qx rfl rfl rfl rfl rfl ((pX S (by omega)).mono ?_);rintro _ h ⟨N',z1,z2,S⟩)<;>(refine qf ?_)
   all_goals (repeat' (first|(refine qc 15 ?_;refine mv ?_;refine lB S rfl rfl ?_;(refine one 1 S ?_;clear S;intro u h S))))
   have hcl:=k3.ln;refine app (y0:=⟨v',N'⟩) S rfl rfl ?_;clear S;intro v h S;(refine qK ?_);all_goals (repeat' (first|(refine qc 16 ?_;refine jR ?_)))
   refine ⟨(i+1,mp',v',M ++ N,cs ++ [⟨v',N'⟩],v),?_,?_,qo⟩
   ·show ns.length - (i+1)<ns.length - i;omega
   ·have hl0:0<N.length:=by omega
    have S:=(show Hs h0 h (.sl v'.val 9 1 eS N' :: wY cs :: .sl un 9 1 eS ns :: .blk b4 [.map (some m)] 112 :: .mp m .bool mp' :: .blk b5 [v'.val] 22 :: .blk b1 [.pointer (some ⟨p,0,none⟩)] 40 :: .blk b6 [cvJ b4 b5 b1 b6] 113 :: .sl v 22 1 gI (cs ++ [⟨v',N'⟩]) :: []) from S.pick)
    have S:=Hs.qdM (g:=⟨v',N'⟩) S;exact ⟨(show Hs h0 h (qcc p b4 b5 b1 b6 m mp' v' un ns v (cs ++ [⟨v',N'⟩])) from S.pick),e1,hnl,k3.next H n1 n2 hnl D (hnM hl0) (SS.of z1 z2 D.nd) fun x=>z1.perm.mem_iff⟩
  ·have hl0:N=[]:=by cases N with|nil=>rfl|cons x l=>simp at hc
   subst hl0;all_goals (repeat' (first|(refine qc 16 ?_;refine jR ?_)))
   refine ⟨(i+1,mp',v',M,cs,v3),?_,?_,qo⟩
   ·show ns.length - (i+1)<ns.length - i;omega
   ·rw [zD7] at e1;exact ⟨(show Hs h0 h (qcc p b4 b5 b1 b6 m mp' v' un ns v3 cs) from S.pick),e1,hnl,⟨k3.mem,k3.cl,Ze k3.nm (D.self.elim id (fun q=>by cases q)),k3.ok,fun j hj=>let ⟨z,z1,z2⟩:=k3.hd j hj;⟨z,by omega,z2⟩,(by have:=k3.ln;show cs.length≤i+1;omega)⟩⟩
 ·obtain rfl:i=ns.length:=by omega
  all_goals (repeat' (first|(refine qc 17 ?_;refine qX ?_)))
  refine qC ⟨_,rfl,?_⟩;dsimp only [qcc] at S;refine ⟨cs,(show Hs h0 h [.sl v3 22 1 gI cs,wY cs] from S.pick),k3.ok,fun x hx=>?_,by have:=k3.ln;omega⟩;obtain ⟨j,j1,j2⟩:=qL.1 ((n2 x).2 hx);have:=k3.nm j j1;rw [j2] at this;exact (k3.mem x).1 this
end Go.Proofs.Xx
namespace Go.Proofs.Xx
open Go Go.Proofs
section
variable {P:Program} {X:Extern} {sz:Nat} {L:Ks} {h h0:AH} {rs:List Rs} {ops:Array Oper} {os:List Oper} {o:Oper} {R:Ks→AH→Prop}
theorem bE {L1 L2:Ks} {x y:Operand} {ty ty2:TypeId} {a b:Bool} (w1:a=b→KO P X sz ops os L1 h R) (w2:¬ a=b→KO P X sz ops os L2 h R) (ho:o.op = .binOp .eql ty x y ty2:=by exact rfl) (hg:qF ops L.tree o.guard=some true:=by exact rfl) (hx:kA L x=some (.bool a):=by exact rfl) (hy:kA L y=some (.bool b):=by exact rfl) (hu:P.underlying ty=some .bool:=by exact rfl)
 (hp1:qW sz L o.dst (.bool true)=some L1:=by exact rfl) (hp2:qW sz L o.dst (.bool false)=some L2:=by exact rfl):KO P X sz ops (o :: os) L h R:=by
 by_cases p:a=b
 ·subst p;exact jJ ho hg hx hy (v:=.bool true) (by cases a<;>simp [Zl,hu]) hp1 (w1 rfl)
 ·exact jJ ho hg hx hy (v:=.bool false) (by cases a<;>cases b<;>first|exact absurd rfl p|simp [Zl,hu]) hp2 (w2 p)
end
theorem QH {α:Type} [Inhabited α] {l m:List α} (hl:l.length=m.length) (h:∀ i,i<l.length→l.getD i default=m.getD i default):l=m:=by
 apply List.ext_getElem hl
 intro i h1 h2;have:=h i h1;rwa [zA2,zA2,zA4 h1,zA4 h2] at this
theorem qe4 (a b:Ti):(jg ⟨a.a.toArray⟩ ⟨b.a.toArray⟩ && (jg ⟨a.b.toArray⟩ ⟨b.b.toArray⟩ && (a.k == b.k && true)))=true↔a=b:=by
 rw [ZN,ZN];cases a;cases b
 simp
theorem Star.snoc {h:AH} {r:Rs} {fp:Fp} (hr:r.ok h fp):∀ {l:List Rs} {U:Fp},Star h l U→(∀ b,fp b→¬ U b)→Star h (l ++ [r]) (fun b=>U b∨fp b)
 | [],U,_,_=>⟨fp,hr,fun b hb=>.inr hb,trivial⟩
 | x :: l,U,⟨fx,h1,h2,h3⟩,hd=>⟨fx,h1,fun b hb=>.inl (h2 b hb),(Star.snoc hr h3 fun b hb q=>hd b hb q.1).mono fun b hb=>by
  rcases hb with hb|hb
  ·exact ⟨.inl hb.1,hb.2⟩
  ·exact ⟨.inr hb,fun q=>hd b hb (h2 b q)⟩⟩
abbrev Zo (g:Qi):Rs:=.sl g.tv.val 9 1 eS g.tg
abbrev jX (gs:List Qi):Rs:=.any (fun h fp=>Star h (gs.map Zo) fp)
theorem Hs.kC {h0 h:AH} {rs:List Rs} {gs:List Qi} {g:Qi} (S:Hs h0 h (.sl g.tv.val 9 1 eS g.tg :: jX gs :: rs)):Hs h0 h (jX (gs ++ [g]) :: rs):=by
 obtain ⟨f1,k1,k2,f2,k3,k4,k5⟩:=S.sep;refine ⟨S.ext,fun b=>f2 b∨f1 b,fun h' q=>?_,fun b hb=>?_,k5.mono fun b hb=>⟨trivial,fun q=>?_⟩⟩
 ·rw [zC9];exact Star.snoc (k1.local fun b hb=>q b (.inr hb)) (k3 h' fun b hb=>q b (.inl hb)) fun b hb q=>(k4 b q).2.2.2 hb
 ·rcases hb with hb|hb
  ·exact ⟨(k4 b hb).1,(k4 b hb).2.1,trivial⟩
  ·exact k2 b hb
 ·rcases q with q|q
  ·exact hb.2 q
  ·exact hb.1.2 q
theorem Star.get {h:AH} {r:Rs}:∀ {l:List Rs} {U:Fp},Star h l U→r∈l→∃ fp,r.ok h fp
 | x :: l,U,⟨fx,h1,h2,h3⟩,hr=>by
  rcases zE8.1 hr with rfl|hr
  ·exact ⟨fx,h1⟩
  ·exact Star.get h3 hr
theorem qec {α:Type} {v:Value} {e:TypeId} {z:Nat} {enc:α→List Value} {l:List α} {h:AH} {fp:Fp} (k:(Rs.sl v e z enc l).ok h fp):Qh h v z enc l:=by
 rcases k with ⟨rfl,rfl⟩|⟨b,o,cc,slk,cap,h1,h2,h3,h4,-⟩
 ·exact .inl ⟨rfl,rfl,rfl⟩
 ·exact .inr ⟨b,o,_,cc,e,slk,false,h1,h2,h4⟩
abbrev XF (v:RlV) (ts:List Ti):List Rs:=[.sl v.vg.val 24 9 eG v.gs,.sl v.vt.val 111 3 zh ts,jX v.gs]
theorem Hs.qee {h0 h:AH} {rs:List Rs} {v:RlV} {r:Rl} (S:Hs h0 h (XF v r.ts ++ rs)) (hu:v.gs.map (·.toGu)=r.us) (h1:r.us.length≤9223372036854775807) (h2:r.ts.length≤9223372036854775807) (h3:∀ g∈r.us,g.tg.length≤9223372036854775807):RlOk h v r:=by
 obtain ⟨fp,k⟩:=Hs.qdu (p:=fun h fp=>Star h (v.gs.map Zo) fp) S (.there (.there .here));refine ⟨Rd.jm S .here,Rd.jm S (.there .here),fun i hi=>⟨?_,?_⟩,hu,h1,h2⟩
 ·obtain ⟨fq,q⟩:=k.get (zF2.2 ⟨_,qM hi,rfl⟩);exact qec q
 ·exact h3 _ (by rw [← hu];exact zF2.2 ⟨_,qM hi,rfl⟩)
variable [Flag]
theorem QE {h0:AH} (w:WfH h0) (v u:Value) (l m:List (List UInt8)) (rv:Qh h0 v 1 eS l) (ru:Qh h0 u 1 eS m) (hl:l.length≤9223372036854775807) (hm:m.length≤9223372036854775807):Fn Tryz.prog Xh 60 [v,u] h0 (fun x h'=>Zm x (l=m)∧Hs h0 h' []):=by
 have S:=Hs.start w;refine qZ rfl Tryz.func60 rfl rfl ?_;all_goals (repeat' (first|refine qg ?_|refine qh rfl ?_|refine qj ?_|refine qi ?_|(refine qc 0 ?_;refine qK ?_)|(refine qc 1 ?_;refine mv ?_;refine Zx S ?_;refine mv ?_;refine Zx S ?_;(first|(refine cS ?_ ?_<;>intro hc))<;>(refine qf ?_))|(refine qc 2 ?_;refine qK ?_)|(refine qc 3 ?_;refine qK ?_)))
 ·refine qC ⟨_,rfl,?_⟩;exact ⟨.inr ⟨rfl,fun q=>by subst q;exact hc rfl⟩,S⟩
 ·refine qH (σ:=Nat) (fun i h'=>Hs h0 h' []∧i≤l.length∧∀ j,j<i→l.getD j default=m.getD j default) (fun i=>l.length - i) (fun i=>[(0,v),(1,u),(5,.int .i64 i)]) 0 qo ?_ ?_
  ·exact ⟨S,zB0 _,fun j hj=>absurd hj (zB7 _)⟩
  clear S;rintro i h ⟨S,g1,g2⟩;all_goals (repeat' (first|refine qg ?_|refine qh rfl ?_|refine qj ?_|refine qw ?_|refine qi ?_|(refine qc 4 ?_;refine qE ?_;refine Zx S ?_;(first|(refine cS ?_ ?_<;>intro hc))<;>(refine qf ?_))|(refine qc 5 ?_;refine qO ?_)|(refine qJ 6 ?_;refine qE ?_;refine QN S ?_;refine jQ S ?_;refine qE ?_;refine QN S ?_;refine jQ S ?_;(refine tS ?_ ?_<;>intro hc)<;>(refine qf ?_))|(refine qc 7 ?_;refine qK ?_)|(refine qc 8 ?_;refine qK ?_)))
  all_goals (try simp only [zA0] at *)
  ·refine ⟨i+1,?_,?_,qo⟩
   ·show l.length - (i+1)<l.length - i;omega
   ·exact ⟨S,by omega,Ze g2 hc⟩
  ·refine qC ⟨_,rfl,?_⟩;exact ⟨.inr ⟨rfl,fun q=>by subst q;exact hc rfl⟩,S⟩
  ·refine qC ⟨_,rfl,?_⟩;exact ⟨.inl ⟨rfl,QH (by omega) fun j hj=>g2 j (by omega)⟩,S⟩
theorem KX {h0:AH} (w:WfH h0) (v u:Value) (l m:List Ti) (rv:Qh h0 v 3 zh l) (ru:Qh h0 u 3 zh m) (hl:l.length≤9223372036854775807) (hm:m.length≤9223372036854775807):Fn Tryz.prog Xh 68 [v,u] h0 (fun x h'=>Zm x (l=m)∧Hs h0 h' []):=by
 have S:=Hs.start w;refine qZ rfl Tryz.func68 rfl rfl ?_;all_goals (repeat' (first|refine qg ?_|refine qh rfl ?_|refine qj ?_|refine qi ?_|(refine qc 0 ?_;refine qK ?_)|(refine qc 1 ?_;refine mv ?_;refine Zx S ?_;refine mv ?_;refine Zx S ?_;(first|(refine cS ?_ ?_<;>intro hc))<;>(refine qf ?_))|(refine qc 2 ?_;refine qK ?_)|(refine qc 3 ?_;refine qK ?_)))
 ·refine qC ⟨_,rfl,?_⟩;exact ⟨.inr ⟨rfl,fun q=>by subst q;exact hc rfl⟩,S⟩
 ·refine qH (σ:=Nat) (fun i h'=>Hs h0 h' []∧i≤l.length∧∀ j,j<i→l.getD j default=m.getD j default) (fun i=>l.length - i) (fun i=>[(0,v),(1,u),(5,.int .i64 i)]) 0 qo ?_ ?_
  ·exact ⟨S,zB0 _,fun j hj=>absurd hj (zB7 _)⟩
  clear S;rintro i h ⟨S,g1,g2⟩;all_goals (repeat' (first|refine qg ?_|refine qh rfl ?_|refine qj ?_|refine qw ?_|refine qi ?_|(refine qc 4 ?_;refine qE ?_;refine Zx S ?_;(first|(refine cS ?_ ?_<;>intro hc))<;>(refine qf ?_))|(refine qc 5 ?_;refine qO ?_)|(refine qJ 6 ?_;refine qE ?_;refine QN S ?_;refine jQ S ?_;refine qE ?_;refine QN S ?_;refine jQ S ?_;(refine gE ?_ ?_<;>intro hc)<;>(refine qf ?_))|(refine qc 7 ?_;refine qK ?_)|(refine qc 8 ?_;refine qK ?_)))
  all_goals (try simp only [zA0] at *)
  ·refine ⟨i+1,?_,?_,qo⟩
   ·show l.length - (i+1)<l.length - i;omega
   ·exact ⟨S,by omega,Ze g2 ((qe4 _ _).1 hc)⟩
  ·refine qC ⟨_,rfl,?_⟩;exact ⟨.inr ⟨rfl,fun q=>by subst q;rw [(qe4 _ _).2 rfl] at hc;cases hc⟩,S⟩
  ·refine qC ⟨_,rfl,?_⟩;exact ⟨.inl ⟨rfl,QH (by omega) fun j hj=>g2 j (by omega)⟩,S⟩
theorem Z5 {h0:AH} (w:WfH h0) (g k:Qi) (rg:Qh h0 g.tv.val 1 eS g.tg) (rk:Qh h0 k.tv.val 1 eS k.tg) (hg:g.tg.length≤9223372036854775807) (hk:k.tg.length≤9223372036854775807):Fn Tryz.prog Xh 62 [gV g,gV k] h0 (fun x h'=>Zm x (g.toGu=k.toGu)∧Hs h0 h' []):=by
 have S:=Hs.start w;obtain ⟨⟨n1,n2,n3,n4,n5,n6,n7,n8,n9⟩,n10⟩:=g;obtain ⟨⟨m1,m2,m3,m4,m5,m6,m7,m8,m9⟩,m10⟩:=k;unfold gV;dsimp only at *;refine qZ rfl Tryz.func62 rfl rfl ?_;all_goals (repeat' (first|refine qg ?_|(refine qc 0 ?_;(refine bx S ?_;clear S;intro b h S);(refine bx S ?_;clear S;intro b h S);refine qK ?_)|(refine qc 1 ?_;refine vl ?_;refine lB S rfl rfl ?_;refine vl ?_;refine lB S rfl rfl ?_;(refine tS ?_ ?_<;>intro hc)<;>(refine mv ?_;(first|refine off ?_|(refine vl ?_));(first|refine off ?_|(refine lB S rfl rfl ?_));(first|refine off ?_|(refine vl ?_));(first|refine off ?_|(refine lB S rfl rfl ?_));(first|refine off ?_|(refine tS ?_ ?_<;>intro hc))<;>(refine vl ?_;refine mv ?_;(first|refine off ?_|(refine vl ?_));(first|refine off ?_|(refine lB S rfl rfl ?_));(first|refine off ?_|(refine vl ?_));(first|refine off ?_|(refine lB S rfl rfl ?_));(first|refine off ?_|(refine tS ?_ ?_<;>intro hc))<;>(refine vl ?_;refine mv ?_;(first|refine off ?_|(refine vl ?_));(first|refine off ?_|(refine lB S rfl rfl ?_));(first|refine off ?_|(refine vl ?_));(first|refine off ?_|(refine lB S rfl rfl ?_));(first|refine off ?_|(first|(refine cS ?_ ?_<;>intro hc)))<;>(refine vl ?_;refine mv ?_;(first|refine off ?_|(refine vl ?_));(first|refine off ?_|(refine lB S rfl rfl ?_));(first|refine off ?_|(refine vl ?_));(first|refine off ?_|(refine lB S rfl rfl ?_));(first|refine off ?_|(first|(refine cS ?_ ?_<;>intro hc)))<;>(refine vl ?_;refine mv ?_;(first|refine off ?_|(refine vl ?_));(first|refine off ?_|(refine lB S rfl rfl ?_));(first|refine off ?_|(refine vl ?_));(first|refine off ?_|(refine lB S rfl rfl ?_));(first|refine off ?_|(refine tS ?_ ?_<;>intro hc))<;>(refine vl ?_;refine mv ?_;(first|refine off ?_|(refine vl ?_));(first|refine off ?_|(refine lB S rfl rfl ?_));(first|refine off ?_|(refine vl ?_));(first|refine off ?_|(refine lB S rfl rfl ?_));(first|refine off ?_|(refine bE ?_ ?_<;>intro hc))<;>(refine vl ?_;refine mv ?_;(first|refine off ?_|(refine vl ?_));(first|refine off ?_|(refine lB S rfl rfl ?_));(first|refine off ?_|(refine vl ?_));(first|refine off ?_|(refine lB S rfl rfl ?_));(first|refine off ?_|(refine bE ?_ ?_<;>intro hc))<;>(refine vl ?_;refine mv ?_;(first|refine off ?_|(refine vl ?_));(first|refine off ?_|(refine lB S rfl rfl ?_));(first|refine off ?_|(refine vl ?_));(first|refine off ?_|(refine lB S rfl rfl ?_));(first|(refine off ?_;refine Jb ?_)|skip))))))))))))
 ·(refine qx rfl rfl rfl rfl rfl ((QE S.wf n10.val m10.val n9 m9 (rg.ext w S.ext) (rk.ext w S.ext) hg hk).mono ?_);rintro _ h ⟨⟨rfl,z⟩|⟨rfl,z⟩,x⟩)<;>(replace S:=S.qN x;clear x;refine Jb ?_)
  ·all_goals (repeat' (fail))
   refine qC ⟨_,rfl,?_⟩;refine ⟨.inl ⟨rfl,?_⟩,S.drop⟩;simp only [Gu.mk.injEq];exact ⟨by assumption,by assumption,by assumption,by assumption,by assumption,by assumption,by assumption,by assumption,z⟩
  ·all_goals (repeat' (fail))
   refine qC ⟨_,rfl,?_⟩;refine ⟨.inr ⟨rfl,fun q=>?_⟩,S.drop⟩;simp only [Gu.mk.injEq] at q;exact z q.2.2.2.2.2.2.2.2
 all_goals
  refine qC ⟨_,rfl,?_⟩;refine ⟨.inr ⟨rfl,fun q=>?_⟩,S.drop⟩;simp only [Gu.mk.injEq] at q;exact absurd (by first|exact q.1|exact q.2.1|exact q.2.2.1|exact q.2.2.2.1|exact q.2.2.2.2.1|exact q.2.2.2.2.2.1|exact q.2.2.2.2.2.2.1|exact q.2.2.2.2.2.2.2.1) hc
theorem yQ {h0:AH} (w:WfH h0) (v u:Value) (gs ks:List Qi) (rv:Qh h0 v 9 eG gs) (ru:Qh h0 u 9 eG ks) (tv:∀ i,i<gs.length→Qh h0 (gs.getD i default).tv.val 1 eS (gs.getD i default).tg∧(gs.getD i default).tg.length≤9223372036854775807) (tu:∀ i,i<ks.length→Qh h0 (ks.getD i default).tv.val 1 eS (ks.getD i default).tg∧(ks.getD i default).tg.length≤9223372036854775807) (hl:gs.length≤9223372036854775807) (hm:ks.length≤9223372036854775807) :
 Fn Tryz.prog Xh 67 [v,u] h0 (fun x h'=>Zm x (gs.map (·.toGu)=ks.map (·.toGu))∧Hs h0 h' []):=by
 have S:=Hs.start w;refine qZ rfl Tryz.func67 rfl rfl ?_;all_goals (repeat' (first|refine qg ?_|refine qh rfl ?_|refine qj ?_|refine qi ?_|(refine qc 0 ?_;refine qK ?_)|(refine qc 1 ?_;refine mv ?_;refine Zx S ?_;refine mv ?_;refine Zx S ?_;(first|(refine cS ?_ ?_<;>intro hc))<;>(refine qf ?_))|(refine qc 2 ?_;refine qK ?_)|(refine qc 3 ?_;refine qK ?_)))
 ·refine qC ⟨_,rfl,?_⟩;exact ⟨.inr ⟨rfl,fun q=>by have:=congrArg List.length q;simp at this;omega⟩,S⟩
 ·refine qH (σ:=Nat) (fun i h'=>Hs h0 h' []∧i≤gs.length∧∀ j,j<i→(gs.getD j default).toGu=(ks.getD j default).toGu) (fun i=>gs.length - i) (fun i=>[(0,v),(1,u),(5,.int .i64 i)]) 0 qo ?_ ?_
  ·exact ⟨S,zB0 _,fun j hj=>absurd hj (zB7 _)⟩
  clear S;rintro i h ⟨S,g1,g2⟩;all_goals (repeat' (first|refine qg ?_|refine qh rfl ?_|refine qj ?_|refine qw ?_|refine qi ?_|(refine qc 4 ?_;refine qE ?_;refine Zx S ?_;(first|(refine cS ?_ ?_<;>intro hc))<;>(refine qf ?_))|(refine qc 8 ?_;refine qK ?_)))
  ·have e1:=tv i (by omega);have e2:=tu i (by omega);all_goals (repeat' (first|(refine qJ 6 ?_;refine qE ?_;refine QN S ?_;refine jQ S ?_;refine qE ?_;refine QN S ?_;refine jQ S ?_)))
   simp only [zA0];(refine qx rfl rfl rfl rfl rfl ((Z5 S.wf (gs.getD i default) (ks.getD i default) (e1.1.ext w S.ext) (e2.1.ext w S.ext) e1.2 e2.2).mono ?_);rintro _ h ⟨⟨rfl,z⟩|⟨rfl,z⟩,x⟩)<;>(replace S:=S.qN x;clear x;refine zU ?_)
   ·all_goals (repeat' (first|refine qh rfl ?_|refine qj ?_|(refine qc 5 ?_;refine qO ?_)))
    refine ⟨i+1,?_,?_,qo⟩
    ·show gs.length - (i+1)<gs.length - i;omega
    ·exact ⟨S,by omega,Ze g2 z⟩
   ·all_goals (repeat' (first|refine qg ?_|refine qh rfl ?_|(refine qc 7 ?_;refine qK ?_)))
    refine qC ⟨_,rfl,?_⟩;refine ⟨.inr ⟨rfl,fun q=>z ?_⟩,S⟩;rw [← zf (f:=fun g:Qi=>g.toGu) (show i<gs.length by omega),← zf (f:=fun g:Qi=>g.toGu) (show i<ks.length by omega),q]
  ·refine qC ⟨_,rfl,?_⟩;refine ⟨.inl ⟨rfl,QH (by simp;omega) fun j hj=>?_⟩,S⟩;simp at hj;rw [zf (by omega),zf (by omega)];exact g2 j (by omega)
theorem V7 {h0:AH} (w:WfH h0) (v u:RlV) (r q:Rl) (hv:RlOk h0 v r) (hu:RlOk h0 u q):Fn Tryz.prog Xh 22 [v.val,u.val] h0 (fun x h'=>Zm x (r=q)∧Hs h0 h' []):=by
 have S:=Hs.start w;have e1:=hv.len;have e2:=hu.len;have l1:=hv.lg;have l2:=hu.lg;unfold RlV.val;refine qZ rfl Tryz.func22 rfl rfl ?_;all_goals (repeat' (first|refine qg ?_|(refine qc 0 ?_;(refine bx S ?_;clear S;intro b h S);(refine bx S ?_;clear S;intro b h S);refine qK ?_)|(refine qc 1 ?_;refine vl ?_;refine lB S rfl rfl ?_;refine vl ?_;refine lB S rfl rfl ?_)))
 (refine qx rfl rfl rfl rfl rfl ((yQ S.wf v.vg.val u.vg.val v.gs u.gs (hv.rg.ext w S.ext) (hu.rg.ext w S.ext) (fun i hi=>⟨(hv.tg i hi).1.ext w S.ext,(hv.tg i hi).2⟩) (fun i hi=>⟨(hu.tg i hi).1.ext w S.ext,(hu.tg i hi).2⟩) (by omega) (by omega)).mono ?_);rintro _ h ⟨⟨rfl,z⟩|⟨rfl,z⟩,x⟩)<;>(replace S:=S.qN x;clear x;refine mv ?_;(first|refine off ?_|(refine vl ?_));(first|refine off ?_|(refine lB S rfl rfl ?_));(first|refine off ?_|(refine vl ?_));(first|refine off ?_|(refine lB S rfl rfl ?_));(first|(refine off ?_;refine Jb ?_)|skip))
 ·(refine qx rfl rfl rfl rfl rfl ((KX S.wf v.vt.val u.vt.val r.ts q.ts (hv.rt.ext w S.ext) (hu.rt.ext w S.ext) hv.lt hu.lt).mono ?_);rintro _ h ⟨⟨rfl,z2⟩|⟨rfl,z2⟩,x⟩)<;>(replace S:=S.qN x;clear x;refine Jb ?_)
  ·all_goals (repeat' (fail))
   refine qC ⟨_,rfl,?_⟩;refine ⟨.inl ⟨rfl,?_⟩,S.drop⟩;rw [hv.us,hu.us] at z;cases r;cases q;simp only [Rl.mk.injEq];exact ⟨z,z2⟩
  ·all_goals (repeat' (fail))
   refine qC ⟨_,rfl,?_⟩;exact ⟨.inr ⟨rfl,fun e=>z2 (by rw [e])⟩,S.drop⟩
 ·all_goals (repeat' (fail))
  refine qC ⟨_,rfl,?_⟩;exact ⟨.inr ⟨rfl,fun e=>z (by rw [hv.us,hu.us,e])⟩,S.drop⟩
theorem qae {h0:AH} (w:WfH h0) {p:Nat} {r:Rl} (B:BkRd h0 p r) (H:RO r):Fn Tryz.prog Xh 39 [.pointer (some ⟨p,0,none⟩)] h0 (fun u h'=>∃ v:RlV,u=v.val∧v.gs.map (·.toGu)=r.us∧Hs h0 h' (XF v r.ts)):=by
 have S:=Hs.start w;obtain ⟨s,B⟩:=B;have hb:=B.bk;have hrg:=B.rg;have hgl:=B.len;have h64:=H.l64;have h256:=H.l256;refine qZ rfl Tryz.func39 rfl rfl ?_;all_goals (repeat' (first|refine qg ?_|(refine qc 0 ?_;(refine al S ?_;clear S;intro b h S);refine qf ?_)|(refine qc 1 ?_;refine mv ?_)))
 (refine qx rfl rfl rfl rfl rfl ((jD S.wf (S.ext.get w hb)).mono ?_);rintro _ h ⟨rfl,x⟩)<;>(replace S:=S.qN x;clear x;refine qf ?_)
 obtain ⟨b2,hnm⟩:∃ x,x=b:=⟨_,rfl⟩;subst hnm;all_goals (repeat' (first|refine qg ?_|refine qh rfl ?_|refine qj ?_|(refine qc 3 ?_;(refine al S ?_;clear S;intro b h S);refine qf ?_)))
 obtain ⟨b3,hnm⟩:∃ x,x=b:=⟨_,rfl⟩;subst hnm;have S:=((S.Qb (e:=24) (z:=9) (enc:=eG))).anyS (p:=fun h fp=>Star h (([]:List Qi).map Zo) fp) fun h'=>trivial;replace S:Hs h0 h [jX [],.sl (SlV.val ⟨none,0,0⟩) 24 9 eG [],.blk b3 [SlV.val ⟨none,0,0⟩,.slice none 0 0] 32,.blk b2 [.slice none 0 0,.slice none 0 0] 32]:=S;all_goals (repeat' (first|refine qi ?_|(refine qc 4 ?_;refine Qz ?_;refine lH S ?_;refine Zx S ?_;refine qK ?_)))
 refine qH (σ:=Nat×SlV×List Qi) (fun (i,vg,gs) h'=>Hs h0 h' [jX gs,.sl vg.val 24 9 eG gs,.blk b3 [vg.val,.slice none 0 0] 32,.blk b2 [.slice none 0 0,.slice none 0 0] 32]∧i≤r.us.length∧gs.map (·.toGu)=r.us.take i) (fun (i,vg,gs)=>r.us.length - i) (fun (i,vg,gs)=>[(0,.pointer (some ⟨p,0,none⟩)),(2,.pointer (some ⟨b2,0,none⟩)),(3,.pointer (some ⟨b3,0,none⟩)),(13,s.vg.val),(14,.int .i64 s.gs.length),(15,.int .i64 i)]) (0,⟨none,0,0⟩,[]) qo ?_ ?_
 ·exact ⟨S,zB0 _,rfl⟩
 clear S;rintro ⟨i,vg,gs⟩ h ⟨S,g1,g2⟩;all_goals (repeat' (first|refine qg ?_|refine qh rfl ?_|refine qj ?_|refine qw ?_|refine qi ?_|(refine qc 5 ?_;(first|(refine cS ?_ ?_<;>intro hc))<;>(refine qf ?_))))
 ·have hil:i<s.gs.length:=by omega
  have hg:=B.g hil;have h4:=(QI (H.chk _ (qM (show i<r.us.length by omega)))).2.2.2.1;have hl4:(s.gs.getD i default).tg.length≤1000000:=by rw [hg];omega
  have hgs:gs.length≤64:=by have:=congrArg List.length g2;simp at this;omega
  all_goals (repeat' (first|(refine qc 6 ?_;refine QN S ?_;refine jQ S ?_;(refine al S ?_;clear S;intro b h S);(first|(refine sB S rfl rfl ?_;clear S;intro h S));refine qf ?_)))
  simp only [zA0] at S;simp only [zA0];replace S:Hs h0 h [.blk b (eG (s.gs.getD i default)) 24,jX gs,.sl vg.val 24 9 eG gs,.blk b3 [vg.val,.slice none 0 0] 32,.blk b2 [.slice none 0 0,.slice none 0 0] 32]:=S;(repeat (refine qg ?_));refine Qu (id:=7) [(1,(0,2))] [some (b3)] ?_;refine qp ?_;(first|(refine vl ?_<;>refine qf ⟨⟨by (first|exact True.intro),rfl⟩,?_⟩));refine qp ?_;(first|(refine lB S rfl rfl ?_<;>refine qf ⟨⟨by (first|exact Or.inr rfl),rfl⟩,?_⟩));refine qp ?_;(first|(refine lB S rfl rfl ?_<;>refine qf ⟨⟨by (first|exact True.intro),rfl⟩,?_⟩));((refine qp ?_;first|refine qx rfl rfl rfl rfl rfl ((VK S.wf (s.gs.getD i default) ((B.tg i hil).ext w S.ext) hl4).mono ?_));rintro _ h ⟨tv,rfl,x⟩)<;>((refine qf ⟨⟨True.intro,?_⟩,?_⟩;(focus ((show keepsX _ _ _ _ _;simp only [keepsX];(repeat' (first|exact True.intro|refine And.intro ?_ ?_));all_goals (intro hw;first|exact x.ext.old _ S.bB)))));replace S:=S.zQ x;clear x;refine qp ?_;(first|((refine one 9 S ?_;have S0:=S;clear S;intro u h S);refine qf ⟨⟨True.intro,?_⟩,?_⟩;(focus ((show keepsX _ _ _ _ _;simp only [keepsX];(repeat' (first|exact True.intro|refine And.intro ?_ ?_));all_goals (intro hw;first|exact (S.gB).trans (S0.gB).symm))));clear S0)))
  refine qp ?_;refine app (y0:={ s.gs.getD i default with tv:=tv }) S rfl rfl ?_;have S0:=S;clear S;intro v h S;obtain ⟨vg',rfl⟩:=S.sV v;refine qf ⟨⟨True.intro,?_⟩,?_⟩;(focus ((show keepsX _ _ _ _ _;simp only [keepsX];(repeat' (first|exact True.intro|refine And.intro ?_ ?_));all_goals (intro hw;first|exact (S.gB).trans (S0.gB).symm))));clear S0;(refine qp ?_;(first|(refine vl ?_<;>refine qf ⟨⟨by (first|exact True.intro),rfl⟩,?_⟩));refine qp ?_;(first|((refine sB S rfl rfl ?_;have S0:=S;clear S;intro h S);refine qf ⟨⟨True.intro,?_⟩,?_⟩;(focus ((show keepsX _ _ _ _ _;simp only [keepsX];(repeat' (first|exact True.intro|refine And.intro ?_ ?_));all_goals (intro hw;first|exact absurd hw (by decide +kernel)))));clear S0));refine QL ?_);all_goals (repeat' (first|(refine qc 8 ?_;refine jR ?_)))
  refine ⟨(i+1,vg',gs ++ [{ s.gs.getD i default with tv:=tv }]),?_,?_,qo⟩
  ·show r.us.length - (i+1)<r.us.length - i;omega
  ·replace S:Hs h0 h (.sl vg'.val 24 9 eG (gs ++ [{ s.gs.getD i default with tv:=tv }]) :: .sl tv.val 9 1 eS (s.gs.getD i default).tg :: .blk b (eG (s.gs.getD i default)) 24 :: jX gs :: .blk b3 [vg'.val,.slice none 0 0] 32 :: .blk b2 [.slice none 0 0,.slice none 0 0] 32 :: []):=S;have S:=(show Hs h0 h (.sl tv.val 9 1 eS (s.gs.getD i default).tg :: jX gs :: .sl vg'.val 24 9 eG (gs ++ [{ s.gs.getD i default with tv:=tv }]) :: .blk b3 [vg'.val,.slice none 0 0] 32 :: .blk b2 [.slice none 0 0,.slice none 0 0] 32 :: []) from S.pick)
   refine ⟨Hs.kC (g:={ s.gs.getD i default with tv:=tv }) S,by (try dsimp only);omega,?_⟩;dsimp only;rw [qQ (by omega),zC9,g2,← hg];rfl
 ·obtain rfl:i=r.us.length:=by omega
  rw [zD4] at g2;all_goals (repeat' (first|(refine qc 9 ?_;refine Qz ?_;refine lH S ?_)))
  (refine qx rfl rfl rfl rfl rfl ((qa5 S.wf s.vt.val r.ts (B.rt.ext w S.ext) (by omega)).mono ?_);rintro v h x)<;>(replace S:=S.zQ x;clear x;obtain ⟨vt',rfl⟩:=S.sV v;refine vl ?_;(first|(refine sB S rfl rfl ?_;clear S;intro h S));refine qf ?_)
  all_goals (repeat' (first|refine qg ?_|(refine qc 10 ?_;refine lB S rfl rfl ?_;(first|(refine sB S rfl rfl ?_;clear S;intro h S));refine qf ?_)))
  refine qC ⟨_,zD S rfl (by first|exact .there (.there (.there (.there .here)))) (by exact rfl) (by exact rfl),?_⟩;refine ⟨⟨vg,vt',gs⟩,rfl,g2,?_⟩;exact (show Hs h0 h [.sl vg.val 24 9 eG gs,.sl vt'.val 111 3 zh r.ts,jX gs] from S.pick)
end Go.Proofs.Xx
namespace Go.Proofs.Xx
open Go Go.Proofs
structure Chg (h h':AH) (b:Nat) (o:AObj):Prop where
 at_:h'.get b=some o
 old:∀ j,j≠b→j<h.next→h'.get j=h.get j
 next:h.next≤h'.next
 wf:WfH h'
theorem Chg.trans {h h' h'':AH} {b:Nat} {o o':AObj} (c:Chg h h' b o) (d:Chg h' h'' b o'):Chg h h'' b o' :=
 ⟨d.at_,fun j hj hn=>(d.old j hj (zE4 hn c.next)).trans (c.old j hj hn),zD0 c.next d.next,d.wf⟩
theorem xq {c:List Value} {o:Nat} (h:o≤c.length):splice c o []=c:=by simp [splice]
section
variable {P:Program} {X:Extern} {sz:Nat} {L L':Ks} {h:AH} {ops:Array Oper} {os:List Oper} {o:Oper} {R:Ks→AH→Prop}
theorem rw3 {x lo hi mx:Operand} {vl vr vm:Value} {ty e' e:TypeId} {b o' n cap l r m z:Nat} {cc:List Value} {slk:Option Nat} {ro:Bool} (hb:h.get b=some (.cells cc e slk ro)) (wf:WfH h)
 (w:∀ h',Chg h h' b (.cells cc e slk ro)→KO P X sz ops os L' h' R) (ho:o.op = .slice ty x (some lo) (some hi) (some mx):=by exact rfl) (hg:qF ops L.tree o.guard=some true:=by exact rfl) (hx:kA L x=some (.slice (some ⟨b,o',none⟩) n cap):=by exact rfl)
 (h1:kA L lo=some vl:=by exact rfl) (h2:kA L hi=some vr:=by exact rfl) (h3:kA L mx=some vm:=by exact rfl) (b1:zC (some vl) 0=some l:=by exact rfl) (b2:zC (some vr) n=some r:=by exact rfl) (b3:zC (some vm) cap=some m:=by exact rfl)
 (hc:l≤r∧r≤m∧m≤cap:=by omega) (hu:P.underlying ty=some (.slice e'):=by exact rfl) (hz:ja P e'=some z:=by exact rfl) (hp:qW sz L o.dst (.slice (some ⟨h.next,0,none⟩) (r - l) (m - l))=some L':=by exact rfl):KO P X sz ops (o :: os) L h R:=by
 refine zT (v:=.slice (some ⟨h.next,0,none⟩) (r - l) (m - l)) (h':={ tr:=h.tr,next:=h.next+1,low:=lowest h.low b }) hg ?_ hp (w _ ⟨hb,fun j _ _=>rfl,Nat.le_succ _,fun j hj=>wf j (Nat.le_of_succ_le hj)⟩);rw [ho];simp only [jB,qY hx,jr,qY h1,qY h2,qY h3,Vf,hu,hb,hz,b1,b2,b3,zB3 hc.1,zB3 hc.2.1,zB3 hc.2.2,zG0]
theorem rw2 {x:Operand} {lo hi:Option Operand} {vl vr:Option Value} {ty e' e:TypeId} {b o' n cap l r z:Nat} {cc:List Value} {slk:Option Nat} {ro:Bool} {d:Tmp} (hb:h.get b=some (.cells cc e slk ro))
 (w:∀ o2,(l<cap→o2=o'+l*z)→(slk≠none→o2=o'+l*z)→KO P X sz ops os (L.put d (.slice (some ⟨b,o2,none⟩) (r - l) (cap - l))) h R) (ho:o.op = .slice ty x lo hi none:=by exact rfl) (hg:qF ops L.tree o.guard=some true:=by exact rfl) (hx:kA L x=some (.slice (some ⟨b,o',none⟩) n cap):=by exact rfl)
 (h1:jr L.tree lo=some vl:=by exact rfl) (h2:jr L.tree hi=some vr:=by exact rfl) (b1:zC vl 0=some l:=by exact rfl) (b2:zC vr n=some r:=by exact rfl)
 (hc:l≤r∧r≤cap:=by omega) (hu:P.underlying ty=some (.slice e'):=by exact rfl) (hz:ja P e'=some z:=by exact rfl) (hdst:o.dst=some d:=by exact rfl) (hds:Nat.blt d sz=true:=by exact rfl):KO P X sz ops (o :: os) L h R:=by
 have key:∀ o2,jc P ty (.slice (some ⟨b,o',none⟩) n cap) vl vr none h=some (.slice (some ⟨b,o2,none⟩) (r - l) (cap - l))→(l<cap→o2=o'+l*z)→(slk≠none→o2=o'+l*z)→KO P X sz ops (o :: os) L h R:=fun o2 q1 q2 q3=>by
  refine zT (v:=.slice (some ⟨b,o2,none⟩) (r - l) (cap - l)) (h':=h) hg ?_ (by simp only [qW,hdst,hds]) (w o2 q2 q3);rw [ho];simp only [jB,qY hx,h1,h2,show jr L.tree none=some none from rfl,q1,zn,jE]
 cases hq:slk.isNone && Nat.beq l cap with
 | true =>
  rw [zA8] at hq;have hl:=zA6 hq.2;subst hl;refine key o' ?_ (fun q=>by omega) (fun q=>by cases slk with|none=>exact absurd rfl q|some k=>cases hq.1);simp only [jc,hu,hb,hz,b1,b2,zB3 hc.1,zB3 hc.2,zG0,hq.1,show Nat.beq l l=true by simp]
 | false =>
  refine key (o'+l*z) ?_ (fun _=>rfl) (fun _=>rfl);simp only [jc,hu,hb,hz,b1,b2,zB3 hc.1,zB3 hc.2,zG0,hq]
theorem rwa {x y:Operand} {ts tx e e2:TypeId} {zc new cc:List Value} {by_ b o' n cap m z:Nat} {slk:Option Nat} {u:Value} {d:Tmp} (hb:h.get b=some (.cells cc e2 slk false)) (wf:WfH h) (hr:Rd h u z m new)
 (w:∀ h',Chg h h' b (.cells (splice cc (o'+n*z) new) e2 slk false)→KO P X sz ops os (L.put d (.slice (some ⟨b,o',none⟩) (n+m) cap)) h' R)
 (ho:o.op = .call { callee:=.builtin .append,args:=#[x,y],argTypes:=#[ts,tx] }:=by exact rfl) (hg:qF ops L.tree o.guard=some true:=by exact rfl) (hx:kA L x=some (.slice (some ⟨b,o',none⟩) n cap):=by exact rfl) (hy:kA L y=some u:=by exact rfl)
 (hs:zt P ts=some e:=by exact rfl) (hz:zB P e=some zc:=by exact rfl) (hzl:zc.length=z:=by exact rfl) (hby:Zz P e=some (by_+1):=by exact rfl) (hxs:P.underlying tx=some (.slice e):=by exact rfl)
 (hc:n+m≤cap:=by omega) (hcc:o'+cap*z≤cc.length:=by assumption) (h1:new.all one? = true:=by assumption) (hsz:(m+1)*(by_+1)≤140737488355328:=by omega) (hdst:o.dst=some d:=by exact rfl) (hds:Nat.blt d sz=true:=by exact rfl):KO P X sz ops (o :: os) L h R:=by
 subst hzl;have hlen:=hr.length;have hfit:o'+n*zc.length+new.length≤cc.length:=by
  rw [hlen,zF8,← zE1];exact zD0 (Nat.add_le_add_left (zD3 _ hc) _) hcc
 have k2:Nat.beq new.length (m*zc.length)=true:=by rw [hlen];simp
 have hsrc:Yg zc.length u h=some (m,new):=hr.source;have go:∀ h',Qs P [ts,tx] (.slice (some ⟨b,o',none⟩) n cap) u h=some (.slice (some ⟨b,o',none⟩) (n+m) cap,h')→Chg h h' b (.cells (splice cc (o'+n*zc.length) new) e2 slk false)→KO P X sz ops (o :: os) L h R:=fun h' q1 q2=>by
  refine zT (v:=.slice (some ⟨b,o',none⟩) (n+m) cap) (h':=h') hg ?_ (by simp only [qW,hdst,hds]) (w h' q2);rw [ho];simp [jB,qY hx,qY hy,jO,jF,q1,Zf]
 cases m with
 | zero =>
  have hn:new=[]:=zE9.1 (by omega);subst hn;refine go h ?_ ⟨by rw [xq (by simp at hfit;omega)];exact hb,fun _ _ _=>rfl,zA3 _,wf⟩;simp only [Qs,hs,hxs,hz,hby,hsrc,zB3 hsz,h1,k2,zG0,hb,zB3 (show n≤cap from hc),Nat.add_zero]
 | succ m =>
  refine go (h.put b (.cells (splice cc (o'+n*zc.length) new) e2 slk false)) ?_ ⟨by rw [AH.get_put,if_pos rfl],fun j hj _=>by rw [AH.get_put,if_neg hj],zA3 _,wf.put (wf.lt hb) _⟩;simp only [Qs,hs,hxs,hz,hby,hsrc,zB3 hsz,h1,k2,zG0,hb,zB3 hc,putCells,zB3 hfit]
theorem JQ (zc:List Value):∀ n,(zg zc n).length=n*zc.length
 | 0=>by simp [zg]
 | n+1=>by rw [zg,zB2,JQ zc n,zE1,Nat.one_mul,Nat.add_comm]
theorem KG {zc:List Value} (h:zc.all one? = true):∀ n,(zg zc n).all one? = true
 | 0=>rfl
 | n+1=>by rw [zg,List.all_append,h,KG h n];rfl
theorem rwc {x:Operand} {ty e e2:TypeId} {zc cc:List Value} {b o' n cap:Nat} {slk:Option Nat} (hb:h.get b=some (.cells cc e2 slk false)) (wf:WfH h)
 (w:∀ h',Chg h h' b (.cells (splice cc o' (zg zc n)) e2 slk false)→KO P X sz ops os L' h' R)
 (ho:o.op = .call { callee:=.builtin .clear,args:=#[x],argTypes:=#[ty] }:=by exact rfl) (hg:qF ops L.tree o.guard=some true:=by exact rfl) (hx:kA L x=some (.slice (some ⟨b,o',none⟩) n cap):=by exact rfl)
 (hu:P.underlying ty=some (.slice e):=by exact rfl) (hz:zB P e=some zc:=by exact rfl) (h1:zc.all one? = true:=by exact rfl) (hfit:o'+n*zc.length≤cc.length:=by omega) (hp:qW sz L o.dst (.tuple #[])=some L':=by exact rfl):KO P X sz ops (o :: os) L h R:=by
 have go:∀ h',Xy P ty (.slice (some ⟨b,o',none⟩) n cap) h=some h'→Chg h h' b (.cells (splice cc o' (zg zc n)) e2 slk false)→KO P X sz ops (o :: os) L h R:=fun h' q1 q2=>by
  refine zT (v:=.tuple #[]) (h':=h') hg ?_ hp (w h' q2);rw [ho];simp [jB,qY hx,jO,jF,q1]
 have hfit2:o'+(zg zc n).length≤cc.length:=by rw [JQ];exact hfit
 cases n with
 | zero =>
  refine go h ?_ ⟨by show _=some (AObj.cells (splice cc o' []) e2 slk false);rw [xq (by omega)];exact hb,fun _ _ _=>rfl,zA3 _,wf⟩;simp only [Xy,hu]
 | succ n =>
  refine go (h.put b (.cells (splice cc o' (zg zc (n+1))) e2 slk false)) ?_ ⟨by rw [AH.get_put,if_pos rfl],fun j hj _=>by rw [AH.get_put,if_neg hj],zA3 _,wf.put (wf.lt hb) _⟩;simp only [Xy,hu,hz,hb,putCells,KG h1,zB3 hfit2,zG0]
end
theorem qap {cc old zr:List Value} {s a b z n:Nat} (ho:∀ j,j<n→cc[s+j]? = old[j]?) (hn:old.length=n) (hab:a≤b∧b≤n) (hz:zr.length=b - a) (hs:s+n≤cc.length) :
 ∀ j,j<a+(n - b)→(splice (splice cc (s+a) (old.drop b)) (s+(a+(n - b))) zr)[s+j]? = (old.take a ++ old.drop b)[j]?:=by
 intro j hj;have l1:s+a+(old.drop b).length≤cc.length:=by rw [zB4];omega
 have l2:(splice cc (s+a) (old.drop b)).length=cc.length:=qU _ _ _ l1;have hd:(old.drop b).length=n - b:=by rw [zB4,hn]
 have ht:(old.take a).length=a:=by rw [zA9];omega
 rw [zV _ _ _ (by rw [l2];omega),zV _ _ _ l1,if_pos (by omega),zF1,ht];by_cases h1:j<a
 ·rw [if_pos (by omega),if_pos h1,zC7,if_pos h1,ho j (by omega)]
 ·rw [if_neg (by omega),if_pos (by omega),if_neg h1];congr 1;omega
theorem Xl {c xs:List Value} {o n:Nat} (hl:xs.length=n) (hfit:o+n≤c.length) (hg:∀ j,j<n→c[o+j]? = xs[j]?):zI c o n=some xs:=by
 rw [JV hfit];congr 1
 apply List.ext_getElem?
 intro j;rw [zC7];split
 ·rw [zC3];exact hg j (by assumption)
 ·rw [zG6 (by omega)]
variable [Flag]
theorem qdj {h0 h:AH} {rs:List Rs} {v:SlV} {l:List Ti} (i:Nat) (hi:i<l.length) (hl:l.length≤1000000) (S:Hs h0 h (.sl v.val 111 3 zh l :: rs)) :
 Fn Tryz.prog Xh 97 [v.val,.int .i64 i,.int .i64 ((i:Int)+1)] h (fun u h'=>Hs h0 h' (.sl u 111 3 zh (l.take i ++ l.drop (i+1)) :: rs)):=by
 have S0:=S;obtain ⟨f1,k1,k2,k3⟩:=S.sep;have hr:=Rd.jm S .here;rcases k1 with ⟨-,rfl⟩|⟨b,o,cc,slk,cap,e1,g1,fb,t1,c1,s1⟩
 ·simp at hi
 rw [e1] at hr ⊢;have hb:=g1;have w:=S.wf;have hcc:o+cap*3≤cc.length:=c1.2;replace S:=Hs.start S.wf;have hfl:=zl (enc:=zh) (z:=3) (by intro _;rfl) l;have hcap:=c1.1;refine qZ rfl Tryz.func97 rfl rfl ?_;all_goals (repeat' (first|refine qg ?_|(refine qc 0 ?_;refine qK ?_)|(refine qc 1 ?_;refine qE ?_;refine qE ?_;refine Zx S ?_)))
 refine rw3 (l:=i) (r:=i+1) (m:=l.length) hb w (fun ha ca=>?_);have xa:Ext h ha:=⟨ca.next,fun j hj=>by
  by_cases q:j=b
  ·subst q;rw [ca.at_,hb]
  ·exact ca.old j q hj,ca.wf⟩
 have ra:=hr.ext w xa;have wa:=ca.wf;have ba:=ca.at_;clear S;have S:=Hs.start wa;(refine qf ?_);all_goals (repeat' (first|refine qg ?_|refine qh rfl ?_|refine qj ?_|(refine qc 2 ?_;refine qE ?_;(refine cF ?_)<;>(refine qf ?_))|(refine qc 4 ?_;refine mv ?_;refine Zx S ?_;refine qK ?_)|(refine qJ 5 ?_;refine qE ?_)))
 refine rw2 (l:=0) (r:=i) ba (fun o2 q1 _=>?_);rw [show o2=o by have:=q1 (by omega);omega];refine qE ?_;refine rw2 (l:=i+1) (r:=l.length) ba (fun o3 q3 q4=>?_);have ru:Rd ha (.slice (some ⟨b,o3,none⟩) (l.length - (i+1)) (cap - (i+1))) 3 (l.length - (i+1)) ((l.drop (i+1)).flatMap zh):=by
  refine .inr ⟨b,o3,_,cc,111,slk,false,rfl,ba,?_⟩;rcases zA7 (i+1) cap with z|z
  ·have z1:=q3 z;have z2:o3=o+(i+1)*3:=z1;have:=jS (i:=(i+1)*3) (m:=(l.length - (i+1))*3) t1 (by omega);rw [z2,this,jl (z:=3) (by intro _;rfl),zF9 (by rw [zB4,hfl];omega)]
  ·rw [show l.length - (i+1)=0 by omega,List.drop_of_length_le (by omega)];rfl
 have hone:((l.drop (i+1)).flatMap zh).all one? = true:=by
  rw [zC8];intro x hx;obtain ⟨y,-,hy⟩:=zH1.1 hx;simp [zh] at hy
  rcases hy with rfl|rfl|rfl<;>rfl
 refine rwa (z:=3) ba wa ru (fun hd cd=>?_);(refine qK ?_);have hln:l.length - (i - 0+(l.length - (i+1)))=1:=by omega
 (repeat (refine qg ?_));refine qc 6 ?_;refine qE ?_;refine vl ?_;refine mv ?_;refine rw2 (l:=i - 0+(l.length - (i+1))) (r:=l.length) cd.at_ (fun o4 q5 _=>?_);have q6:=q5 (by omega);have hq6:o4=o+(i - 0+(l.length - (i+1)))*3:=q6;have hsl:(splice cc (o+(i - 0)*3) ((l.drop (i+1)).flatMap zh)).length=cc.length:=qU _ _ _ (by rw [zl (z:=3) (by intro _;rfl),zB4];omega);refine rwc cd.at_ cd.wf (fun he ce=>?_) (hfit:=?_);rotate_left
 ·rw [hsl];show o4+(l.length - (i - 0+(l.length - (i+1))))*3≤cc.length
  omega
 (refine qf ?_)
 all_goals (repeat' (first|refine qg ?_|(refine qc 7 ?_;refine qX ?_)))
 refine qC ⟨_,rfl,?_⟩;have C:=(ca.trans cd).trans ce;have hm:∀ a c:Nat,a - 0+c=a+c:=fun a c=>by omega
 have hlen:(l.take i ++ l.drop (i+1)).length=i - 0+(l.length - (i+1)):=by rw [zB2,zA9,zB4];omega
 have hzl:(zg (Value.agg #[Value.string { data:=#[] },Value.string { data:=#[] },Value.int IntKind.u8 0]).cells.toList (l.length - (i - 0+(l.length - (i+1))))).length=(i+1)*3 - i*3:=by
  rw [JQ,hln];show 1*3=_;omega
 have hdrop:=jl (enc:=zh) (z:=3) (by intro _;rfl) l (i+1);have htake:=jk (enc:=zh) (z:=3) (by intro _;rfl) l i;show Hs h0 he (.sl (.slice (some ⟨b,o,none⟩) (i - 0+(l.length - (i+1))) (cap - 0)) 111 3 zh (l.take i ++ l.drop (i+1)) :: rs)
 refine S0.turn .here C.next C.wf fun fp p1 p2=>?_
 rcases p1 with ⟨p1,-⟩|⟨b2,o2,cc2,sl2,cap2,p1,-,p3,-⟩
 ·rw [p1] at e1;cases e1
 obtain rfl:b2=b:=by rw [p1] at e1;cases e1;rfl
 refine ⟨fun j hj hf=>C.old j (fun q=>by subst q;exact hf p3) hj,fun j=>j=b2,.inr ⟨b2,o,_,slk,cap - 0,by rw [hlen],C.at_,rfl,?_,⟨by rw [hlen];omega,?_⟩,s1⟩,fun j hj=>?_⟩
 ·rw [hlen];have hg:∀ j,j<l.length*3→cc[o+j]? = (l.flatMap zh)[j]?:=fun j hj=>Ji t1 hj;have D:=qap (zr:=zg (Value.agg #[Value.string { data:=#[] },Value.string { data:=#[] },Value.int IntKind.u8 0]).cells.toList (l.length - (i - 0+(l.length - (i+1))))) (a:=i*3) (b:=(i+1)*3) (z:=3) hg hfl (by omega) hzl (by omega);rw [hdrop,hq6,Nat.sub_zero,show (i+(l.length - (i+1)))*3=i*3+(l.length*3 - (i+1)*3) by omega];have e2:(l.take i ++ l.drop (i+1)).flatMap zh=(l.flatMap zh).take (i*3) ++ (l.flatMap zh).drop ((i+1)*3):=by rw [List.flatMap_append,htake,hdrop]
  rw [e2];rw [Nat.sub_zero] at D;refine Xl ?_ ?_ D
  ·rw [zB2,zA9,zB4,hfl];omega
  ·rw [qU,qU]
   ·omega
   ·rw [zB4,hfl];omega
   ·rw [qU _ _ _ (by rw [zB4,hfl];omega)];have hz2:=hzl;simp only [Nat.sub_zero] at hz2 ⊢;rw [hz2];omega
 ·rw [qU,hsl]
  ·show o+(cap - 0)*3≤_;omega
  ·rw [hsl,hzl];omega
 ·subst hj;exact ⟨C.wf.lt C.at_,.inl p3⟩
end Go.Proofs.Xx
namespace Go.Proofs.Xx
open Go Go.Proofs
def qaD (ts:List Ti) (a b:List UInt8):List Ti:=ts.filter fun t=>!decide (t.a=jY a b∧t.b=jZ a b)
open Classical in
noncomputable def Qj (r:Rl) (a b:List UInt8):Rl×Int:=if tied r.ts a b then (⟨r.us,qaD r.ts a b⟩,0) else (r,6)
theorem P8 {ts:List Ti} {a b:List UInt8} {i:Nat} (hs:TS ts) (hi:i<ts.length) (h1:(ts.getD i default).a=jY a b) (h2:(ts.getD i default).b=jZ a b):qaD ts a b=ts.take i ++ ts.drop (i+1):=by
 have hne:∀ j,j<ts.length→j≠i→¬ ((ts.getD j default).a=jY a b∧(ts.getD j default).b=jZ a b):=fun j hj hji q=>by
  rcases zA7 j i with z|z
  ·rcases hs.lt z hi with y|y
   ·rw [q.1,h1] at y;exact zA _ y
   ·rw [q.2,h2] at y;exact zA _ y.2
  ·rcases hs.lt (show i<j by omega) hj with y|y
   ·rw [q.1,h1] at y;exact zA _ y
   ·rw [q.2,h2] at y;exact zA _ y.2
 have e:ts=ts.take i ++ (ts.getD i default :: ts.drop (i+1)):=by
  conv=>lhs;rw [← zH2 i ts]
  rw [zG8 hi];congr 2
  rw [zA2,zA4 hi];rfl
 unfold qaD;conv=>lhs;rw [e]
 rw [zD1,zD8,if_neg (by rw [decide_eq_true ⟨h1,h2⟩];decide)];congr 1
 ·rw [zI0];intro t ht;obtain ⟨j,hj,rfl⟩:=qL.1 ht;simp only [zA9] at hj;rw [getD_take (by omega)];have:=hne j (by omega) (by omega);rw [zG4,decide_eq_false this]
 ·rw [zI0];intro t ht;obtain ⟨j,hj,rfl⟩:=qL.1 ht;simp only [zB4] at hj;have ej:(ts.drop (i+1)).getD j default=ts.getD (i+1+j) default:=by
   rw [zA2,zA2,zC3]
  rw [ej];have:=hne (i+1+j) (by omega) (by omega);rw [zG4,decide_eq_false this]
variable [Flag]
theorem qbl {h0 h:AH} {rs:List Rs} {p:Nat} {r:Rl} (S:Hs h0 h (zN p r :: rs)) (a b:List UInt8) (hl:r.ts.length≤256) (hs:TS r.ts) :
 Fn Tryz.prog Xh 42 [.pointer (some ⟨p,0,none⟩),str a,str b] h (fun v h'=>v = .int .i64 (Qj r a b).2∧Hs h0 h' (zN p (Qj r a b).1 :: rs)):=by
 obtain ⟨⟨vg,vt,m,mp,gs⟩,⟨q1,q2⟩,S⟩:=S.unpack;dsimp only [bkL,List.cons_append,List.nil_append] at q1 q2 S;refine qZ rfl Tryz.func42 rfl rfl ?_;all_goals (repeat' (first|refine qg ?_|refine qh rfl ?_|refine qj ?_|refine qw ?_|refine qi ?_|refine zo ?_|refine zq ?_|(refine qc 0 ?_;refine qK ?_)|(refine qc 1 ?_;refine mv ?_)))
 (refine qx rfl rfl rfl rfl rfl ((jD S.wf (jV S .here)).mono ?_);rintro _ h ⟨rfl,x⟩)<;>(replace S:=S.qN x;clear x;refine qf ?_)
 all_goals (repeat' (first|refine qg ?_|refine qh rfl ?_|refine qj ?_|refine qw ?_|refine qi ?_|refine zo ?_|refine zq ?_|(refine qc 2 ?_;refine qK ?_)|(refine qc 3 ?_;refine qE ?_;refine mv ?_;skip)))
 (refine qx rfl rfl rfl rfl rfl ((xN S.wf (jV S .here) (Rd.jm S (.there (.there .here))) (by omega) hs a b).mono ?_);rintro _ h ⟨⟨j,_ | _,rfl,p1,p2⟩,x⟩)<;>(replace S:=S.qN x;clear x;refine zk ?_)
 ·have hk3:¬ tied r.ts a b:=fun q=>by have:=p2.2 ((p1.tied hs).1 q);cases this
  all_goals (repeat' (first|refine qg ?_|refine qh rfl ?_|refine qj ?_|refine qw ?_|refine qi ?_|refine zo ?_|refine zq ?_|(refine qc 4 ?_;refine ZU ?_)|(refine qc 5 ?_;refine qK ?_)|(refine qc 6 ?_;refine qE ?_;refine vl ?_;(first|refine vl ?_|refine fB S ?_|refine fS S rfl rfl ?_|refine fA ?_);(first|refine vl ?_|refine fB S ?_|refine fS S rfl rfl ?_|refine fA ?_);(first|refine lB S rfl rfl ?_|refine qI S rfl rfl ?_|refine jQ S ?_|refine lH S ?_);refine qE ?_;(first|refine ad ?_|refine vl ?_))))
  refine qC ⟨_,rfl,?_⟩;rw [show Qj r a b=(r,6) by unfold Qj;rw [if_neg hk3]];exact ⟨rfl,S.bk vg vt m mp gs q1 q2⟩
 ·obtain ⟨z1,z2,z3⟩:=p2.1 rfl;have hk3:tied r.ts a b:=(p1.tied hs).2 ⟨z1,z2,z3⟩;all_goals (repeat' (first|refine qg ?_|refine qh rfl ?_|refine qj ?_|refine qw ?_|refine qi ?_|refine zo ?_|refine zq ?_|(refine qc 4 ?_;refine ZU ?_)|(refine qc 5 ?_;refine qK ?_)|(refine qc 6 ?_;refine qE ?_;refine vl ?_;(first|refine vl ?_|refine fB S ?_|refine fS S rfl rfl ?_|refine fA ?_);(first|refine vl ?_|refine fB S ?_|refine fS S rfl rfl ?_|refine fA ?_);(first|refine lB S rfl rfl ?_|refine qI S rfl rfl ?_|refine jQ S ?_|refine lH S ?_);refine qE ?_;(first|refine ad ?_|refine vl ?_))))
  have S:=(show Hs h0 h (.sl vt.val 111 3 zh r.ts :: .blk p [vg.val,vt.val,.map (some m)] 86 :: .sl vg.val 24 9 eG gs :: .mp m (.int .i64) mp :: X5 gs :: rs) from S.pick)
  (refine qx rfl rfl rfl rfl rfl ((qdj j z1 (by omega) S).mono ?_);rintro v h S)<;>(obtain ⟨vt',rfl⟩:=S.sV v;refine vl ?_;(first|refine vl ?_|refine fB S ?_|refine fS S rfl rfl ?_|refine fA ?_);(first|refine vl ?_|refine fB S ?_|refine fS S rfl rfl ?_|refine fA ?_);(first|(refine sB S rfl rfl ?_;clear S;intro h S)|(refine zY S rfl rfl ?_;clear S;intro h S));refine qf ?_)
  all_goals (repeat' (first|refine qg ?_|refine qh rfl ?_|refine qj ?_|refine qw ?_|refine qi ?_|refine zo ?_|refine zq ?_|(refine qc 7 ?_;refine qK ?_)))
  refine qC ⟨_,rfl,?_⟩;rw [show Qj r a b=(⟨r.us,qaD r.ts a b⟩,0) by unfold Qj;rw [if_pos hk3],P8 hs z1 z2 z3];replace S:Hs h0 h (.sl vt'.val 111 3 zh (r.ts.take j ++ r.ts.drop (j+1)) :: .blk p [vg.val,vt'.val,.map (some m)] 86 :: _):=S;exact ⟨rfl,S.bk vg vt' m mp gs q1 q2⟩
end Go.Proofs.Xx
