/-
  A book is asked: names,Find,Tied,With.
-/
import Derived.Test.YtidmdnenlgjpeaaGreatDoorM10
import Derived.Test.YtidmdnenlgjpeaaGreatDoorM11
namespace Go.Proofs.Xx
open Go Go.Proofs
set_option linter.unusedSimpArgs false
set_option linter.unusedVariables false
set_option linter.unusedSectionVars false
set_option maxRecDepth 100000
set_option maxHeartbeats 4000000
def MpRd {α:Type} (h:AH) (b:Nat) (enc:α→Value) (l:List (List UInt8×α)):Prop:=∃ es clock,h.get b=some (.map es clock)∧es.map (fun e=>(e.1,e.2.1))=l.map (fun p=>(Value.string ⟨p.1.toArray⟩,enc p.2))
theorem MpRd.ext {α:Type} {h h':AH} {b:Nat} {enc:α→Value} {l:List (List UInt8×α)} (r:MpRd h b enc l) (w:WfH h) (x:Ext h h'):MpRd h' b enc l:=by
 obtain ⟨es,clock,h1,h2⟩:=r
 exact ⟨es,clock,x.get w h1,h2⟩
section
variable {P:Program} {X:Extern} {sz:Nat} {L:Ks} {h h0:AH} {rs:List Rs} {ops:Array Oper} {os:List Oper} {o:Oper} {R:Ks→AH→Prop}
theorem lkR {α:Type} {b:Nat} {enc:α→Value} {l:List (List UInt8×α)} {m k:Operand} {ty kt et:TypeId} {key:List UInt8} {z:Value} {d:Tmp} {ok:Bool} (r:MpRd h b enc l)
 (w1:∀ x,zH l key=some x→KO P X sz ops os (L.put d (okV ok (enc x) true)) h R)
 (w2:zH l key=none→KO P X sz ops os (L.put d (okV ok z false)) h R)
 (ho:o.op = .lookup ty m k ok:=by exact rfl) (hg:qF ops L.tree o.guard=some true:=by exact rfl) (hm:kA L m=some (.map (some b)):=by exact rfl) (hk:kA L k=some (str key):=by exact rfl)
 (hu:P.underlying ty=some (.map kt et):=by exact rfl) (hkt:P.underlying kt=some .string:=by exact rfl) (hz:zeroV P et=some z:=by exact rfl) (hdst:o.dst=some d:=by exact rfl) (hds:Nat.blt d sz=true:=by exact rfl):KO P X sz ops (o :: os) L h R:=by
 obtain ⟨es,clock,h1,h2⟩:=r
 have hT:VX P ty (str key)=some (.string,et):=by
  unfold VX
  simp only [hu,hkt];rfl
 have hM:JA (.map (some b)) h=some es:=by
  unfold JA
  simp only [h1]
 have hF:=Yw (enc:=enc) (k:=key) (i:=0) h2
 cases hq:zH l key with
 | none =>
  refine zJ hg (v:=okV ok z false) (h':=h) ?_ (show qY sz L o.dst _=some (L.put d _) by simp only [qY,hdst,hds]) (w2 hq)
  rw [ho];simp only [jr,qV hm,qV hk,Qc,hT,hM,hF,YJ hq,Option.map_none,hz,qZ];rfl
 | some x =>
  obtain ⟨i,hi⟩:=xO hq
  refine zJ hg (v:=okV ok (enc x) true) (h':=h) ?_ (show qY sz L o.dst _=some (L.put d _) by simp only [qY,hdst,hds]) (w1 x hq)
  rw [ho];simp only [jr,qV hm,qV hk,Qc,hT,hM,hF,hi,Option.map_some,qZ];rfl
end
structure BkAt (h:AH) (p:Nat) (r:Rl) (s:BkS):Prop where
 bk:h.get p=some (.cells [s.vg.val,s.vt.val,.map (some s.m)] 86 none false)
 rg:Qd h s.vg.val 9 eG s.gs
 rt:Qd h s.vt.val 3 jK r.ts
 mp:MpRd h s.m (.int .i64) s.mp
 tg:∀ i,i<s.gs.length→Qd h (s.gs.getD i default).tv.val 1 eS (s.gs.getD i default).tg
 us:s.gs.map (·.toGu)=r.us
 at_:AtOk s.mp r.us
def BkRd (h:AH) (p:Nat) (r:Rl):Prop:=∃ s,BkAt h p r s
theorem BkRd.ext {h h':AH} {p:Nat} {r:Rl} (b:BkRd h p r) (w:WfH h) (x:Ext h h'):BkRd h' p r:=by
 obtain ⟨s,b⟩:=b
 exact ⟨s,x.get w b.bk,b.rg.ext w x,b.rt.ext w x,b.mp.ext w x,fun i hi=>(b.tg i hi).ext w x,b.us,b.at_⟩
theorem BkAt.len {h:AH} {p:Nat} {r:Rl} {s:BkS} (b:BkAt h p r s):s.gs.length=r.us.length:=by rw [← b.us];simp
theorem BkAt.g {h:AH} {p:Nat} {r:Rl} {s:BkS} (b:BkAt h p r s) {i:Nat} (hi:i<s.gs.length):(s.gs.getD i default).toGu=r.us.getD i default:=by rw [← b.us,zq hi]
theorem Hs.qdA {h0 h:AH} {rs:List Rs} {p:Nat} {r:Rl} (S:Hs h0 h (QE p r :: rs)):BkRd h p r:=by
 obtain ⟨s,⟨q1,q2⟩,S⟩:=S.unpack
 obtain ⟨fp,k⟩:=Hs.qbw (p:=TgsOk s.gs) S (.there (.there (.there (.there .here))))
 obtain ⟨es,clock,m1,m2,-⟩:=yL S (.there (.there (.there .here)))
 exact ⟨s,Xl S .here,Rd.Jb S (.there .here),Rd.Jb S (.there (.there .here)),⟨es,clock,m1,m2⟩,fun i hi=>TgsOk.rd k hi,q1,q2⟩
def SS (l:List (List UInt8)):Prop:=∀ i j,i<j→j<l.length→zy (l.getD i default) (l.getD j default)
theorem Yf {l:List (List UInt8)} (h:l.Nodup) {i j:Nat} (hij:i<j) (hj:j<l.length):l.getD i default≠l.getD j default:=by
 rw [List.getD_eq_getElem?_getD,List.getD_eq_getElem?_getD,List.getElem?_eq_getElem hj,List.getElem?_eq_getElem (show i<l.length by omega)]
 exact List.pairwise_iff_getElem.1 h i j (by omega) hj hij
theorem SS.of {l l':List (List UInt8)} (s:Sw 0 l.length l l') (h:Srt zy 0 l.length l') (hn:l.Nodup):SS l':=fun i j hij hj=>by
 have hl:=s.len
 have hn':l'.Nodup:=s.perm.nodup_iff.2 hn
 have h1:=h i j (Nat.zero_le _) hij (by omega)
 rcases Jt h1 with q|q
 ·exact absurd q (Yf hn' hij hj)
 ·exact q
theorem SS.nodup {l:List (List UInt8)} (h:SS l):l.Nodup:=by
 rw [List.nodup_iff_pairwise_ne,List.pairwise_iff_getElem]
 intro i j hi hj hij
 have:=h i j hij hj
 rw [List.getD_eq_getElem?_getD,List.getD_eq_getElem?_getD,List.getElem?_eq_getElem hj,List.getElem?_eq_getElem hi] at this
 exact yH this
def adj (r:Rl) (k:Int) (n x:List UInt8):Prop:=∃ t∈r.ts,t.k=k∧((t.a=n∧t.b=x)∨(t.b=n∧t.a=x))
theorem adj.symm {r:Rl} {k:Int} {n x:List UInt8} (h:adj r k n x):adj r k x n:=by
 obtain ⟨t,h1,h2,h3⟩:=h
 exact ⟨t,h1,h2,h3.elim (fun q=>.inr ⟨q.2,q.1⟩) (fun q=>.inl ⟨q.2,q.1⟩)⟩
def Zg (k:Int) (n:List UInt8) (t:Ti):List (List UInt8):=if t.k≠k then [] else if t.a=n then [t.b] else if t.b=n then [t.a] else []
theorem Gw {r:Rl} (H:RO r) {k:Int} {n x:List UInt8}:x∈r.ts.flatMap (Zg k n)↔adj r k n x:=by
 rw [List.mem_flatMap]
 constructor
 ·rintro ⟨t,ht,hx⟩
  unfold Zg at hx
  split at hx
  ·cases hx
  ·rename_i hk
   split at hx
   ·rename_i ha
    exact ⟨t,ht,Classical.not_not.1 hk,.inl ⟨ha,(List.mem_singleton.1 hx).symm⟩⟩
   ·split at hx
    ·rename_i hb
     exact ⟨t,ht,Classical.not_not.1 hk,.inr ⟨hb,(List.mem_singleton.1 hx).symm⟩⟩
    ·cases hx
 ·rintro ⟨t,ht,hk,h⟩
  refine ⟨t,ht,?_⟩
  unfold Zg
  rw [if_neg (by simpa using hk)]
  rcases h with ⟨h1,h2⟩|⟨h1,h2⟩
  ·rw [if_pos h1];simp [h2]
  ·have:=(H.tt t ht).1
   rw [if_neg (fun q=>by rw [q,h1] at this;exact zu _ this),if_pos h1];simp [h2]
theorem WZ {ts:List Ti} (hs:TS ts) (hlt:∀ t∈ts,zy t.a t.b) (k:Int) (n:List UInt8):(ts.flatMap (Zg k n)).Nodup:=by
 rw [List.Nodup,List.pairwise_flatMap]
 refine ⟨fun t ht=>?_,?_⟩
 ·unfold Zg
  split
  ·exact List.Pairwise.nil
  ·split
   ·simp
   ·split<;>simp
 ·refine List.Pairwise.imp_of_mem ?_ hs
  intro t u ht hu hb x hx y hy
  have l1:=hlt t ht
  have l2:=hlt u hu
  unfold Zg at hx hy
  split at hx
  ·cases hx
  ·split at hy
   ·cases hy
   ·intro e
    subst e
    split at hx
    ·rename_i a1
     have ex:=List.mem_singleton.1 hx
     split at hy
     ·rename_i a2
      have ey:=List.mem_singleton.1 hy
      rcases hb with q|q
      ·rw [a1,a2] at q;exact zu _ q
      ·rw [← ex,← ey] at q;exact zu _ q.2
     ·split at hy
      ·rename_i a2
       have ey:=List.mem_singleton.1 hy
       rw [a1,← ex] at l1
       rw [a2,← ey] at l2
       exact zY l1 l2
      ·cases hy
    ·split at hx
     ·rename_i a1
      have ex:=List.mem_singleton.1 hx
      split at hy
      ·rename_i a2
       have ey:=List.mem_singleton.1 hy
       rw [a1,← ex] at l1
       rw [a2,← ey] at l2
       exact zY l1 l2
      ·split at hy
       ·rename_i a2
        have ey:=List.mem_singleton.1 hy
        rcases hb with q|q
        ·rw [← ex,← ey] at q;exact zu _ q
        ·rw [a1,a2] at q;exact zu _ q.2
       ·cases hy
     ·cases hx
theorem Gl (k:Int) (n:List UInt8):∀ ts:List Ti,(ts.flatMap (Zg k n)).length≤ts.length
 | []=>Nat.le_refl _
 | t :: r=>by
  have:=Gl k n r
  rw [List.flatMap_cons,List.length_append,List.length_cons]
  have:(Zg k n t).length≤1:=by
   unfold Zg
   split
   ·simp
   ·split
    ·simp
    ·split<;>simp
  omega
theorem Qm {α:Type} [DecidableEq α]:∀ {l m:List α},l.Nodup→(∀ x∈l,x∈m)→l.length≤m.length
 | [],m,_,_=>Nat.zero_le _
 | x :: l,m,h,hs=>by
  have hx:=hs x (by simp)
  have h2:=List.nodup_cons.1 h
  have:=Qm (l:=l) (m:=m.erase x) h2.2 fun y hy=>by
   rw [List.mem_erase_of_ne (show y≠x from fun e=>h2.1 (by rw [← e];exact hy))]
   exact hs y (by simp [hy])
  rw [List.length_erase_of_mem hx] at this
  have:0<m.length:=List.length_pos_of_mem hx
  rw [List.length_cons];omega
theorem Qp {r:Rl} (H:RO r) {k:Int} {n x:List UInt8} (h:adj r k n x):gat r.us n≠none∧gat r.us x≠none∧n≠x:=by
 obtain ⟨t,h1,h2,h3⟩:=h
 obtain ⟨t1,t2,t3,t4⟩:=H.tt t h1
 rcases h3 with ⟨rfl,rfl⟩|⟨rfl,rfl⟩
 ·exact ⟨t3,t4,yH t1⟩
 ·exact ⟨t4,t3,(yH t1).symm⟩
theorem Jf {us:List Gu} {n:List UInt8} (h:gat us n≠none):n∈us.map (·.name):=by
 obtain ⟨g,h1,h2⟩:=Yl.1 h
 exact List.mem_map.2 ⟨g,h1,h2⟩
theorem PP {r:Rl} (H:RO r) (k:Int) (n:List UInt8):(r.ts.flatMap (Zg k n)).length≤64:=by
 have:=Qm (WZ H.ts (fun t ht=>(H.tt t ht).1) k n) (m:=r.us.map (·.name)) fun x hx=>Jf (Qp H ((Gw H).1 hx)).2.1
 have:=H.l64
 simp at *;omega
variable [Flag]
theorem Gj {h0:AH} (w:WfH h0) {p:Nat} {r:Rl} (B:BkRd h0 p r) (H:RO r) (n:List UInt8) (k:Int):Fn Tryz.prog Xh 27 [.pointer (some ⟨p,0,none⟩),str n,.int .u8 k] h0 (fun u h'=>∃ l,Hs h0 h' [.sl u 9 1 eS l]∧SS l∧(∀ x,x∈l↔adj r k n x)∧l.length≤64):=by
 have S:=Hs.start w
 obtain ⟨s,B⟩:=B
 have h64:=PP H k n
 have hb:=B.bk
 have hrt:=B.rt
 have h256:=H.l256
 refine zg rfl Tryz.func27 rfl rfl ?_
 all_goals (repeat' (first|refine qw ?_|(refine qc 0 ?_;refine mv ?_;refine qf ?_)|(refine qc 1 ?_;refine mv ?_)))
 (refine qE rfl rfl rfl rfl rfl ((Q5 S.wf hb).mono ?_);rintro _ h ⟨rfl,x⟩)<;>(replace S:=S.qW x;clear x;refine qf ?_)
 all_goals (repeat' (first|refine qw ?_|refine qh rfl ?_|refine qi ?_|(refine qc 3 ?_;refine mv ?_;refine qf ?_)))
 have S:=S.Zv (e:=9) (z:=1) (enc:=eS)
 all_goals (repeat' (first|refine qg ?_|(refine qc 4 ?_;refine mv ?_;refine vl ?_;refine vl ?_;refine vl ?_;refine lH S ?_;refine jA S ?_;refine mv ?_;refine qf ?_)))
 refine qM (σ:=Nat×Value) (fun (i,v) h'=>Hs h0 h' [.sl v 9 1 eS ((r.ts.take i).flatMap (Zg k n))]∧i≤r.ts.length) (fun (i,v)=>r.ts.length - i) (fun (i,v)=>[(0,.pointer (some ⟨p,0,none⟩)),(1,str n),(2,.int .u8 k),(7,v),(16,s.vt.val),(17,.int .i64 r.ts.length),(18,.int .i64 i)]) (0,.slice none 0 0) (by repeat (first|exact Ks.le_nil _|refine Ks.qx rfl ?_)) ?_ ?_
 ·exact ⟨S,Nat.zero_le _⟩
 clear S
 rintro ⟨i,v⟩ h ⟨S,g1⟩
 all_goals (repeat' (first|refine qw ?_|refine qh rfl ?_|refine qi ?_|refine qp ?_|(refine qc 5 ?_;(first|(refine cS ?_ ?_<;>intro hc))<;>(refine qf ?_))))
 ·have htl:((r.ts.take i).flatMap (Zg k n)).length≤256:=by
   have:=Gl k n (r.ts.take i)
   simp at this ⊢;omega
  have hts:(r.ts.take (i+1)).flatMap (Zg k n)=(r.ts.take i).flatMap (Zg k n) ++ Zg k n (r.ts.getD i default):=by
   rw [zk (by omega)];simp
  (repeat (refine qw ?_));first|refine Xq (σ:=Value) (fun v h'=>Hs h0 h' [.sl v 9 1 eS ((r.ts.take (i+1)).flatMap (Zg k n))]) (fun v=>[(0,.pointer (some ⟨p,0,none⟩)),(1,str n),(2,.int .u8 k),(7,v),(16,s.vt.val),(17,.int .i64 r.ts.length),(18,.int .i64 i)]) ?_ ?_
  ·all_goals (repeat' (first|refine qw ?_|refine qg ?_))
   all_goals (repeat' (first|refine qw ?_|refine qh rfl ?_|refine qi ?_|refine qg ?_|(refine qc 6 ?_;refine zK S ?_;refine qU S ?_;(refine al S ?_;clear S;intro b h S);(first|(refine sB S rfl rfl ?_;clear S;intro h S));refine qf ?_)|(refine qc 7 ?_;refine vl ?_;refine lB S rfl rfl ?_;refine mv ?_;(first|(refine cS ?_ ?_<;>intro hc))<;>(refine mv ?_;refine qf ?_))|(refine qc 8 ?_;refine vl ?_;refine lB S rfl rfl ?_;refine mv ?_;(refine tS ?_ ?_<;>intro hc)<;>(refine mv ?_;refine qf ?_))|(refine qc 9 ?_;refine mv ?_;refine vl ?_;refine lB S rfl rfl ?_;(refine one 1 S ?_;clear S;intro u h S))|(refine qc 10 ?_;refine vl ?_;refine lB S rfl rfl ?_;refine mv ?_;(refine tS ?_ ?_<;>intro hc)<;>(refine mv ?_;refine qf ?_))|(refine qc 11 ?_;refine mv ?_;refine vl ?_;refine lB S rfl rfl ?_;(refine one 1 S ?_;clear S;intro u h S))))
   all_goals (try simp only [Int.toNat_natCast] at *)
   ·have e:Zg k n (r.ts.getD i default)=[]:=by unfold Zg;rw [if_pos hc]
    exact ⟨v,by rw [hts,e,List.append_nil];exact S.pick,((by repeat (first|exact Ks.le_nil _|refine Ks.qx rfl ?_)))⟩
   ·have e:Zg k n (r.ts.getD i default)=[(r.ts.getD i default).b]:=by unfold Zg;rw [if_neg (by assumption),if_pos (by assumption)]
    refine app (y0:=(r.ts.getD i default).b) S rfl rfl ?_;clear S;intro v' h S;(refine mv ?_;refine qf ?_)
    all_goals (repeat' (fail))
    exact ⟨v',by rw [hts,e];exact S.pick,((by repeat (first|exact Ks.le_nil _|refine Ks.qx rfl ?_)))⟩
   ·have e:Zg k n (r.ts.getD i default)=[(r.ts.getD i default).a]:=by unfold Zg;rw [if_neg (by assumption),if_neg (by assumption),if_pos (by assumption)]
    refine app (y0:=(r.ts.getD i default).a) S rfl rfl ?_;clear S;intro v' h S;(refine mv ?_;refine qf ?_)
    all_goals (repeat' (fail))
    exact ⟨v',by rw [hts,e];exact S.pick,((by repeat (first|exact Ks.le_nil _|refine Ks.qx rfl ?_)))⟩
   ·have e:Zg k n (r.ts.getD i default)=[]:=by unfold Zg;rw [if_neg (by assumption),if_neg (by assumption),if_neg (by assumption)]
    exact ⟨v,by rw [hts,e,List.append_nil];exact S.pick,((by repeat (first|exact Ks.le_nil _|refine Ks.qx rfl ?_)))⟩
  ·clear S
   rintro v h S
   skip
   all_goals (repeat' (first|(refine qc 12 ?_;refine ad ?_;refine mv ?_;refine qf ?_)))
   refine ⟨(i+1,v),?_,?_,(by repeat (first|exact Ks.le_nil _|refine Ks.qx rfl ?_))⟩
   ·show r.ts.length - (i+1)<r.ts.length - i;omega
   ·exact ⟨S,by (try dsimp only);omega⟩
 ·obtain rfl:i=r.ts.length:=by omega
  rw [List.take_length] at S
  skip
  all_goals (repeat' (first|(refine qc 13 ?_;refine mv ?_)))
  (refine qE rfl rfl rfl rfl rfl ((gW S (by omega)).mono ?_);rintro _ h ⟨l,z1,z2,S⟩)<;>(refine qf ?_)
  all_goals (repeat' (first|refine qw ?_|(refine qc 14 ?_;refine mv ?_;refine mv ?_;refine qf ?_)))
  refine qI ⟨_,rfl,?_⟩
  refine ⟨l,S,SS.of z1 z2 (WZ H.ts (fun t ht=>(H.tt t ht).1) k n),fun x=>by rw [z1.perm.mem_iff];exact Gw H,(by rw [z1.len];exact h64)⟩
theorem Px {h0:AH} (w:WfH h0) {p:Nat} {r:Rl} (B:BkRd h0 p r) (H:RO r):Fn Tryz.prog Xh 73 [.pointer (some ⟨p,0,none⟩)] h0 (fun u h'=>∃ l,Hs h0 h' [.sl u 9 1 eS l]∧SS l∧(∀ x,x∈l↔gat r.us x≠none)∧l.length=r.us.length):=by
 have S:=Hs.start w
 obtain ⟨s,B⟩:=B
 have hb:=B.bk
 have hrg:=B.rg
 have hgl:=B.len
 have h64:=H.l64
 refine zg rfl Tryz.func73 rfl rfl ?_
 all_goals (repeat' (first|refine qw ?_|(refine qc 0 ?_;refine mv ?_;refine qf ?_)|(refine qc 1 ?_;refine mv ?_;refine qf ?_)))
 have S:=S.Zv (e:=9) (z:=1) (enc:=eS)
 all_goals (repeat' (first|refine qg ?_|(refine qc 2 ?_;refine mv ?_;refine vl ?_;refine vl ?_;refine vl ?_;refine lH S ?_;refine jA S ?_;refine mv ?_;refine qf ?_)))
 refine qM (σ:=Nat×Value) (fun (i,v) h'=>Hs h0 h' [.sl v 9 1 eS ((r.us.take i).map (·.name))]∧i≤r.us.length) (fun (i,v)=>r.us.length - i) (fun (i,v)=>[(3,v),(10,s.vg.val),(11,.int .i64 s.gs.length),(12,.int .i64 i)]) (0,.slice none 0 0) (by repeat (first|exact Ks.le_nil _|refine Ks.qx rfl ?_)) ?_ ?_
 ·exact ⟨S,Nat.zero_le _⟩
 clear S
 rintro ⟨i,v⟩ h ⟨S,g1⟩
 all_goals (repeat' (first|refine qw ?_|refine qh rfl ?_|refine qi ?_|refine qp ?_|refine qg ?_|(refine qc 3 ?_;(first|(refine cS ?_ ?_<;>intro hc))<;>(refine qf ?_))|(refine qc 4 ?_;refine zK S ?_;refine qU S ?_;(refine al S ?_;clear S;intro b h S);(first|(refine sB S rfl rfl ?_;clear S;intro h S));refine qf ?_)|(refine qc 5 ?_;refine mv ?_;refine vl ?_;refine lB S rfl rfl ?_;(refine one 1 S ?_;clear S;intro u h S))))
 ·have hil:i<s.gs.length:=by omega
  have hg:=B.g hil
  simp only [Int.toNat_natCast] at *
  refine app (y0:=(s.gs.getD i default).name) S rfl rfl ?_;clear S;intro v' h S;(refine mv ?_;refine qf ?_)
  all_goals (repeat' (first|(refine qc 6 ?_;refine ad ?_;refine mv ?_;refine qf ?_)))
  refine ⟨(i+1,v'),?_,?_,(by repeat (first|exact Ks.le_nil _|refine Ks.qx rfl ?_))⟩
  ·show r.us.length - (i+1)<r.us.length - i;omega
  ·refine ⟨?_,by (try dsimp only);omega⟩
   dsimp only
   have e:(r.us.take (i+1)).map (·.name)=(r.us.take i).map (·.name) ++ [(s.gs.getD i default).name]:=by rw [zk (by omega),← hg];simp
   rw [e]
   exact S.pick
 ·obtain rfl:i=r.us.length:=by omega
  rw [List.take_length] at S
  skip
  all_goals (repeat' (first|(refine qc 7 ?_;refine mv ?_)))
  have hl2:(r.us.map (·.name)).length<250:=by simp;omega
  (refine qE rfl rfl rfl rfl rfl ((gW S hl2).mono ?_);rintro _ h ⟨l,z1,z2,S⟩)<;>(refine qf ?_)
  all_goals (repeat' (first|refine qw ?_|(refine qc 8 ?_;refine mv ?_;refine mv ?_;refine qf ?_)))
  refine qI ⟨_,rfl,?_⟩
  have hn:(r.us.map (·.name)).Nodup:=by
   rw [List.Nodup,List.pairwise_iff_getElem]
   intro i j hi hj hij
   simp only [List.length_map] at hi hj
   have:=H.nd i j hij hj
   rw [List.getD_eq_getElem?_getD,List.getD_eq_getElem?_getD,List.getElem?_eq_getElem hj,List.getElem?_eq_getElem hi] at this
   simpa using this
  refine ⟨l,S,SS.of z1 z2 hn,fun x=>?_,(by rw [z1.len];simp)⟩
  rw [z1.perm.mem_iff,Yl,List.mem_map]
end Go.Proofs.Xx
namespace Go.Proofs.Xx
open Go Go.Proofs
set_option linter.unusedSimpArgs false
set_option linter.unusedVariables false
set_option linter.unusedSectionVars false
set_option maxRecDepth 100000
set_option maxHeartbeats 4000000
def MetP (mp:List (List UInt8×Bool)) (M:List (List UInt8)):Prop:=∀ x,zH mp x=if x∈M then some true else none
theorem MetP.put {mp:List (List UInt8×Bool)} {M:List (List UInt8)} (h:MetP mp M) (n:List UInt8):MetP (jS mp n true) (M ++ [n]):=fun x=>by
 rw [Jd,h x]
 by_cases e:x=n
 ·subst e;simp
 ·simp [e]
inductive Rch (r:Rl) (k:Int) (n:List UInt8):List UInt8→Prop
 | refl:Rch r k n n
 | step {x y:List UInt8} (h:Rch r k n x) (a:adj r k x y):Rch r k n y
theorem Rch.trans {r:Rl} {k:Int} {n x y:List UInt8} (h:Rch r k n x) (g:Rch r k x y):Rch r k n y:=by
 induction g with
 | refl=>exact h
 | step g a ih=>exact .step ih a
theorem Rch.symm {r:Rl} {k:Int} {n x:List UInt8} (h:Rch r k n x):Rch r k x n:=by
 induction h with
 | refl=>exact .refl
 | step h a ih=>exact Rch.trans (.step .refl a.symm) ih
structure Dfs (r:Rl) (M:List (List UInt8)) (n:List UInt8) (N:List (List UInt8)):Prop where
 nd:N.Nodup
 dj:∀ x∈N,x ∉ M
 self:n∈M∨n∈N
 kn:∀ x∈N,gat r.us x≠none
 rc:∀ x∈N,Rch r 1 n x
 cl:∀ x∈N,∀ y,adj r 1 x y→y∈M∨y∈N
def vZ (r:Rl) (M:List (List UInt8)):Nat:=((r.us.map (·.name)).filter fun x=>decide (x ∉ M)).length
theorem PR {r:Rl} {M M':List (List UInt8)} (h:∀ x∈M,x∈M'):vZ r M'≤vZ r M:=by
 unfold vZ
 refine List.Sublist.length_le ?_
 generalize r.us.map (·.name)=l
 induction l with
 | nil=>exact List.Sublist.slnil
 | cons x l ih =>
  by_cases q:x∈M
  ·simp [q,h x q];simpa using ih
  ·by_cases q2:x∈M'
   ·simp [q,q2];exact List.Sublist.cons _ (by simpa using ih)
   ·simp [q,q2];simpa using ih
theorem PS {r:Rl} {M:List (List UInt8)} {n:List UInt8} (hn:gat r.us n≠none) (h:n ∉ M):vZ r (M ++ [n])<vZ r M:=by
 have hm:=Jf hn
 unfold vZ
 generalize r.us.map (·.name)=l at hm
 induction l with
 | nil=>cases hm
 | cons x l ih =>
  have mono:(l.filter fun x=>decide (x ∉ M ++ [n])).length≤(l.filter fun x=>decide (x ∉ M)).length:=by
   refine List.Sublist.length_le ?_
   clear ih hm
   induction l with
   | nil=>exact List.Sublist.slnil
   | cons y l ih =>
    by_cases q:y∈M
    ·simp [q];simpa using ih
    ·by_cases q2:y=n
     ·simp [q,q2,h];exact List.Sublist.cons _ (by simpa using ih)
     ·simp [q,q2];simpa using ih
  by_cases e:x=n
  ·subst e
   simp only [List.filter_cons]
   simp [h]
   simp at mono
   omega
  ·have:=ih (by rcases List.mem_cons.1 hm with q|q;exact absurd q.symm e;exact q)
   simp only [List.filter_cons]
   by_cases q:x∈M
   ·simp [q];simpa using this
   ·simp [q,e];simpa using this
def cvJ (b4 b5 b1 b6:Nat):Value:=.func (.func 72) #[] #[.pointer (some ⟨b4,0,none⟩),.pointer (some ⟨b5,0,none⟩),.pointer (some ⟨b1,0,none⟩),.pointer (some ⟨b6,0,none⟩)]
abbrev Yr (p b4 b5 b1 b6 m:Nat) (mp:List (List UInt8×Bool)) (v:SlV) (C:List (List UInt8)):List Rs :=
 [.blk b4 [.map (some m)] 112,.mp m .bool mp,.blk b5 [v.val] 22,.sl v.val 9 1 eS C,.blk b1 [.pointer (some ⟨p,0,none⟩)] 40,.blk b6 [cvJ b4 b5 b1 b6] 113]
variable [Flag]
theorem qbi {h0:AH} (w:WfH h0) {p:Nat} {r:Rl} (B:BkRd h0 p r) (H:RO r) {b4 b5 b1 b6 m:Nat}:∀ (z:Nat) {rs:List Rs} {h:AH} {mp:List (List UInt8×Bool)} {v:SlV} {C M:List (List UInt8)} (n:List UInt8) (S:Hs h0 h (Yr p b4 b5 b1 b6 m mp v C ++ rs)) (hm:MetP mp M) (hz:vZ r M≤z) (hn:gat r.us n≠none) (hC:C.Nodup∧∀ x∈C,x∈M∧gat r.us x≠none),
 Fn Tryz.prog Xh 72 [str n,.pointer (some ⟨b4,0,none⟩),.pointer (some ⟨b5,0,none⟩),.pointer (some ⟨b1,0,none⟩),.pointer (some ⟨b6,0,none⟩)] h (fun _ h'=>∃ mp' v' N,Hs h0 h' (Yr p b4 b5 b1 b6 m mp' v' (C ++ N) ++ rs)∧MetP mp' (M ++ N)∧Dfs r M n N):=by
 intro z
 induction z using Nat.strongRecOn with
 | _ z ih =>
 intro rs h mp v C M n S hm hz hn hC
 dsimp only [Yr,List.cons_append,List.nil_append] at S
 have hU:=Qm hC.1 (m:=r.us.map (·.name)) fun x hx=>Jf (hC.2 x hx).2
 have h64:=H.l64
 rw [List.length_map] at hU
 refine zg rfl Tryz.func72 rfl rfl ?_
 all_goals (repeat' (first|refine qw ?_|refine qh rfl ?_|refine qi ?_|refine qp ?_|refine qg ?_|refine qj ?_|refine qo ?_|(refine qc 0 ?_;(first|refine lB S rfl rfl ?_|refine qy S rfl rfl ?_|refine qU S ?_|refine lH S ?_);refine mv ?_)))
 refine lk S (.there .here) (fun y hy=>?_) (fun hy=>?_)
 ·rw [hm n] at hy
  have hM:n∈M:=by
   apply Classical.byContradiction
   intro q
   rw [if_neg q] at hy;cases hy
  rw [if_pos hM] at hy;cases hy
  simp only [okV]
  (refine qf ?_)
  all_goals (repeat' (first|refine qw ?_|refine qh rfl ?_|refine qi ?_|refine qp ?_|refine qg ?_|refine qj ?_|refine qo ?_|(refine qc 1 ?_;(first|refine lB S rfl rfl ?_|refine qy S rfl rfl ?_|refine qU S ?_|refine lH S ?_);refine mv ?_)))
  refine qI ⟨_,rfl,?_⟩
  exact ⟨mp,v,[],(by rw [List.append_nil];exact S),(by rw [List.append_nil];exact hm),⟨by simp,by simp,.inl hM,by simp,by simp,by simp⟩⟩
 ·have hM:n ∉ M:=fun q=>by rw [hm n,if_pos q] at hy;cases hy
  have hlt:=PS hn hM
  simp only [okV]
  (refine qf ?_)
  all_goals (repeat' (first|refine qw ?_|refine qh rfl ?_|refine qi ?_|refine qp ?_|refine qg ?_|refine qj ?_|refine qo ?_|(refine qc 1 ?_;(first|refine lB S rfl rfl ?_|refine qy S rfl rfl ?_|refine qU S ?_|refine lH S ?_);refine mv ?_)))
  refine up (x:=true) (key:=n) S (.there .here) (.there .here) (fun h S=>?_) (.inl rfl)
  have hm':=hm.put n
  (refine qf ?_)
  skip
  all_goals (repeat' (first|refine qw ?_|refine qh rfl ?_|refine qi ?_|refine qp ?_|refine qg ?_|refine qj ?_|refine qo ?_|(refine qc 2 ?_;(first|refine lB S rfl rfl ?_|refine qy S rfl rfl ?_|refine qU S ?_|refine lH S ?_);refine mv ?_;(refine one 1 S ?_;clear S;intro u h S))))
  refine app (y0:=n) S rfl rfl ?_;clear S;intro v1 h S;obtain ⟨v,rfl⟩:=S.sV v1;((first|(refine sB S rfl rfl ?_;clear S;intro h S)|(refine zS S rfl rfl ?_;clear S;intro h S));refine qf ?_)
  all_goals (repeat' (first|refine qw ?_|refine qh rfl ?_|refine qi ?_|refine qp ?_|refine qg ?_|refine qj ?_|refine qo ?_|(refine qc 3 ?_;(first|refine lB S rfl rfl ?_|refine qy S rfl rfl ?_|refine qU S ?_|refine lH S ?_);refine mv ?_)))
  (refine qE rfl rfl rfl rfl rfl ((Gj S.wf (B.ext w S.ext) H n 1).mono ?_);rintro u h ⟨l,x,l1,l2,l3⟩)<;>(replace S:=S.jT x;clear x;(first|refine jA S ?_|refine jZ S rfl rfl ?_);refine mv ?_;refine qf ?_)
  all_goals (repeat' (first|refine qw ?_|refine qh rfl ?_|refine qi ?_|refine qp ?_|refine qg ?_|refine qj ?_|refine qo ?_))
  have S:=(show Hs h0 h (.sl u 9 1 eS l :: (Yr p b4 b5 b1 b6 m (jS mp n true) v (C ++ [n] ++ []) ++ rs)) from by
   rw [List.append_nil]
   replace S:Hs h0 h (.sl u 9 1 eS l :: .sl v.val 9 1 eS (C ++ [n]) :: .blk b4 [.map (some m)] 112 :: .mp m .bool (jS mp n true) :: .blk b5 [v.val] 22 :: .blk b1 [.pointer (some ⟨p,0,none⟩)] 40 :: .blk b6 [cvJ b4 b5 b1 b6] 113 :: rs):=S
   dsimp only [Yr,List.cons_append,List.nil_append]
   exact S.pick)
  refine qM (σ:=Nat×List (List UInt8×Bool)×SlV×List (List UInt8)) (fun (i,mp,v,N) h'=>Hs h0 h' (.sl u 9 1 eS l :: (Yr p b4 b5 b1 b6 m mp v (C ++ [n] ++ N) ++ rs))∧MetP mp (M ++ [n] ++ N)∧i≤l.length∧N.Nodup∧(∀ x∈N,x ∉ M∧x≠n∧gat r.us x≠none∧Rch r 1 n x∧∀ y,adj r 1 x y→y∈M∨y=n∨y∈N)∧∀ j,j<i→l.getD j default∈M∨l.getD j default=n∨l.getD j default∈N) (fun (i,mp,v,N)=>l.length - i) (fun (i,mp,v,N)=>[(4,.pointer (some ⟨b6,0,none⟩)),(19,u),(20,.int .i64 l.length),(21,.int .i64 i)]) (0,jS mp n true,v,[]) (by repeat (first|exact Ks.le_nil _|refine Ks.qx rfl ?_|refine Ks.qA ?_)) ?_ ?_
  ·exact ⟨S,(by rw [List.append_nil];exact hm'),Nat.zero_le _,by simp,by simp,fun j hj=>absurd hj (Nat.not_lt_zero _)⟩
  clear S
  rintro ⟨i,mp,v,N⟩ h ⟨S,k1,k2,k3,k4,k5⟩
  dsimp only [Yr,List.cons_append,List.nil_append] at S
  all_goals (repeat' (first|refine qw ?_|refine qh rfl ?_|refine qi ?_|refine qp ?_|refine qg ?_|refine qj ?_|refine qo ?_|(refine qc 4 ?_;(first|refine cT ?_|refine cF ?_|(refine cS ?_ ?_<;>intro hc))<;>(refine qf ?_))))
  ·all_goals (repeat' (first|refine qw ?_|refine qh rfl ?_|refine qi ?_|refine qp ?_|refine qg ?_|refine qj ?_|refine qo ?_|(refine qc 5 ?_;(first|refine zK S ?_|refine qC S rfl rfl ?_);(first|refine lB S rfl rfl ?_|refine qy S rfl rfl ?_|refine qU S ?_|refine lH S ?_);refine mv ?_;refine qf ?_)|(refine qc 6 ?_;(first|refine lB S rfl rfl ?_|refine qy S rfl rfl ?_|refine qU S ?_|refine lH S ?_);refine mv ?_)))
   simp only [Int.toNat_natCast]
   have hf:=(l2 _).1 (qQ (show i<l.length by omega))
   have hfk:=(Qp H hf).2.1
   have hz2:vZ r (M ++ [n] ++ N)≤vZ r (M ++ [n]):=PR fun x hx=>List.mem_append.2 (.inl hx)
   have hC2:(C ++ [n] ++ N).Nodup∧∀ x∈C ++ [n] ++ N,x∈M ++ [n] ++ N∧gat r.us x≠none:=by
    refine ⟨?_,fun x hx=>?_⟩
    ·rw [List.nodup_append,List.nodup_append]
     refine ⟨⟨hC.1,by simp,fun a ha b hb e=>?_⟩,k3,fun a ha b hb e=>?_⟩
     ·rw [List.mem_singleton] at hb
      subst e;subst hb;exact hM (hC.2 _ ha).1
     ·subst e
      rcases List.mem_append.1 ha with q|q
      ·exact (k4 a hb).1 (hC.2 a q).1
      ·exact (k4 a hb).2.1 (List.mem_singleton.1 q)
    ·simp only [List.mem_append,List.mem_singleton] at hx ⊢
     rcases hx with (q|q)|q
     ·exact ⟨.inl (.inl (hC.2 x q).1),(hC.2 x q).2⟩
     ·exact ⟨.inl (.inr q),q ▸ hn⟩
     ·exact ⟨.inr q,(k4 x q).2.2.1⟩
   have S:=(show Hs h0 h (Yr p b4 b5 b1 b6 m mp v (C ++ [n] ++ N) ++ (.sl u 9 1 eS l :: rs)) from by dsimp only [Yr,List.cons_append,List.nil_append];exact S.pick)
   (refine zV rfl rfl rfl rfl ((ih (vZ r (M ++ [n])) (by omega) (l.getD i default) S k1 hz2 hfk hC2).mono ?_);rintro _ h ⟨mp',v',N2,S,e1,D⟩)<;>(refine qf ?_)
   all_goals (repeat' (first|refine qw ?_|refine qh rfl ?_|refine qi ?_|refine qp ?_|refine qg ?_|refine qj ?_|refine qo ?_|(refine qc 7 ?_;(first|refine ad ?_|refine vl ?_);refine mv ?_;refine qf ?_)))
   refine ⟨(i+1,mp',v',N ++ N2),?_,?_,(by repeat (first|exact Ks.le_nil _|refine Ks.qx rfl ?_|refine Ks.qA ?_))⟩
   ·show l.length - (i+1)<l.length - i;omega
   ·have key:∀ x,x∈M ++ [n] ++ N→x∈M∨x=n∨x∈N:=fun x hx=>by
     simp only [List.mem_append,List.mem_singleton] at hx;grind
    have fin:∀ y,(y∈M ++ [n] ++ N∨y∈N2)→y∈M∨y=n∨y∈N ++ N2:=fun y hy=>by
     rw [List.mem_append]
     rcases hy with q|q
     ·rcases key y q with q|q|q
      ·exact .inl q
      ·exact .inr (.inl q)
      ·exact .inr (.inr (.inl q))
     ·exact .inr (.inr (.inr q))
    refine ⟨?_,?_,?_,?_,fun x hx=>?_,QZ (fun j hj=>?_) ?_⟩
    ·dsimp only [Yr,List.cons_append,List.nil_append] at S ⊢
     rw [← List.append_assoc]
     exact S.pick
    ·rw [← List.append_assoc];exact e1
    ·(try dsimp only);omega
    ·rw [List.nodup_append]
     exact ⟨k3,D.nd,fun a ha b hb e=>by subst e;exact D.dj a hb (by simp [ha])⟩
    ·rcases List.mem_append.1 hx with q|q
     ·obtain ⟨a1,a2,a3,a4,a5⟩:=k4 x q
      refine ⟨a1,a2,a3,a4,fun y hy=>?_⟩
      rcases a5 y hy with q|q|q
      ·exact .inl q
      ·exact .inr (.inl q)
      ·exact .inr (.inr (List.mem_append.2 (.inl q)))
     ·have hd:=D.dj x q
      simp only [List.mem_append,List.mem_singleton,not_or] at hd
      exact ⟨hd.1.1,hd.1.2,D.kn x q,(Rch.step .refl hf).trans (D.rc x q),fun y hy=>fin y (D.cl x q y hy)⟩
    ·rcases k5 j hj with q|q|q
     ·exact .inl q
     ·exact .inr (.inl q)
     ·exact .inr (.inr (List.mem_append.2 (.inl q)))
    ·exact fin _ D.self
  ·obtain rfl:i=l.length:=by omega
   refine ⟨_,rfl,?_⟩
   refine ⟨mp,v,[n] ++ N,?_,?_,⟨?_,fun x hx=>?_,.inr (by simp),fun x hx=>?_,fun x hx=>?_,fun x hx y hy=>?_⟩⟩
   ·rw [← List.append_assoc]
    dsimp only [Yr,List.cons_append,List.nil_append]
    exact S.pick
   ·rw [← List.append_assoc];exact k1
   ·rw [List.nodup_append]
    exact ⟨by simp,k3,fun a ha b hb e=>by subst e;exact (k4 a hb).2.1 (List.mem_singleton.1 ha)⟩
   ·rcases List.mem_append.1 hx with q|q
    ·rw [List.mem_singleton.1 q];exact hM
    ·exact (k4 x q).1
   ·rcases List.mem_append.1 hx with q|q
    ·rw [List.mem_singleton.1 q];exact hn
    ·exact (k4 x q).2.2.1
   ·rcases List.mem_append.1 hx with q|q
    ·rw [List.mem_singleton.1 q];exact .refl
    ·exact (k4 x q).2.2.2.1
   ·rw [List.mem_append,List.mem_singleton]
    rcases List.mem_append.1 hx with q|q
    ·rw [List.mem_singleton.1 q] at hy
     obtain ⟨j,j1,j2⟩:=qR.1 ((l2 y).2 hy)
     have:=k5 j j1
     rw [j2] at this
     rcases this with q|q|q
     ·exact .inl q
     ·exact .inr (.inl q)
     ·exact .inr (.inr q)
    ·rcases (k4 x q).2.2.2.2 y hy with q|q|q
     ·exact .inl q
     ·exact .inr (.inl q)
     ·exact .inr (.inr q)
end Go.Proofs.Xx
namespace Go.Proofs.Xx
open Go Go.Proofs
set_option linter.unusedSimpArgs false
set_option linter.unusedVariables false
set_option linter.unusedSectionVars false
set_option maxRecDepth 100000
set_option maxHeartbeats 4000000
structure Wd where
 sv:SlV
 ws:List (List UInt8)
instance:Inhabited Wd:=⟨⟨⟨none,0,0⟩,[]⟩⟩
def xZ (w:Wd):List Value:=[w.sv.val]
def WdsOk (cs:List Wd) (h:AH) (fp:Fp):Prop:=∀ w∈cs,(Rs.rd w.sv.val 1 eS w.ws).ok h fp
abbrev W9 (cs:List Wd):Rs:=.any (WdsOk cs)
theorem Hs.qbJ {h0 h:AH} {rs:List Rs} {cs:List Wd} {g:Wd} {e:TypeId} (S:Hs h0 h (.sl g.sv.val e 1 eS g.ws :: W9 cs :: rs)):Hs h0 h (W9 (cs ++ [g]) :: rs):=by
 obtain ⟨f1,k1,k2,f2,k3,k4,k5⟩:=S.sep
 refine ⟨S.ext,fun b=>f1 b∨f2 b,fun h' q g' hg=>?_,fun b hb=>?_,k5.mono fun b hb=>⟨trivial,fun q=>?_⟩⟩
 ·rcases List.mem_append.1 hg with hg|hg
  ·exact Vy (k3 h' (fun b hb=>q b (.inr hb)) g' hg) fun b hb=>.inr hb
  ·obtain rfl:=List.mem_singleton.1 hg
   exact Vy (qbK (k1.local fun b hb=>q b (.inl hb))) fun b hb=>.inl hb
 ·rcases hb with hb|hb
  ·exact k2 b hb
  ·exact ⟨(k4 b hb).1,(k4 b hb).2.1,trivial⟩
 ·rcases q with q|q
  ·exact hb.1.2 q
  ·exact hb.2 q
theorem WdsOk.rd {h:AH} {fp:Fp} {cs:List Wd} (k:WdsOk cs h fp) {i:Nat} (hi:i<cs.length):Qd h (cs.getD i default).sv.val 1 eS (cs.getD i default).ws:=by
 have q:=k _ (qQ hi)
 rcases q with ⟨q1,q2⟩|⟨b,o,cap,cc,e,s,r,q1,q2,q3,q4⟩
 ·exact .inl ⟨q1,by rw [q2];rfl,by rw [q2];rfl⟩
 ·exact .inr ⟨b,o,cap,cc,e,s,r,q1,q2,q4⟩
structure CirOk (r:Rl) (L:List Wd):Prop where
 ss:∀ w∈L,SS w.ws∧w.ws≠[]∧∀ x,x∈w.ws↔(gat r.us (w.ws.getD 0 default)≠none∧Rch r 1 (w.ws.getD 0 default) x)
 hd:∀ i j,i<j→j<L.length→zy ((L.getD i default).ws.getD 0 default) ((L.getD j default).ws.getD 0 default)
theorem Rch.known {r:Rl} (H:RO r) {k:Int} {n x:List UInt8} (h:Rch r k n x) (hn:gat r.us n≠none):gat r.us x≠none:=by
 induction h with
 | refl=>exact hn
 | step h a ih=>exact (Qp H a).2.1
theorem Rch.closed {r:Rl} {k:Int} {n x:List UInt8} {M:List UInt8→Prop} (h:Rch r k n x) (hn:M n) (hc:∀ x,M x→∀ y,adj r k x y→M y):M x:=by
 induction h with
 | refl=>exact hn
 | step h a ih=>exact hc _ ih _ a
theorem SS.le {l:List (List UInt8)} (h:SS l) {i j:Nat} (hij:i≤j) (hj:j<l.length):¬ zy (l.getD j default) (l.getD i default):=by
 rcases Nat.lt_or_ge i j with q|q
 ·exact zY (h i j q hj)
 ·obtain rfl:i=j:=by omega
  exact zu _
abbrev qaD (p b4 b5 b1 b6 m:Nat) (mp:List (List UInt8×Bool)) (vc:SlV) (u:Value) (ns:List (List UInt8)) (v3:Value) (cs:List Wd):List Rs :=
 [.sl u 9 1 eS ns,.blk b4 [.map (some m)] 112,.mp m .bool mp,.blk b5 [vc.val] 22,.blk b1 [.pointer (some ⟨p,0,none⟩)] 40,.blk b6 [cvJ b4 b5 b1 b6] 113,.sl v3 22 1 xZ cs,W9 cs]
structure CirI (r:Rl) (ns:List (List UInt8)) (i:Nat) (M:List (List UInt8)) (cs:List Wd):Prop where
 mem:∀ x,x∈M↔∃ w∈cs,x∈w.ws
 cl:∀ x∈M,∀ y,adj r 1 x y→y∈M
 nm:∀ j,j<i→ns.getD j default∈M
 ok:CirOk r cs
 hd:∀ j,j<cs.length→∃ k,k<i∧(cs.getD j default).ws.getD 0 default=ns.getD k default
 ln:cs.length≤i
theorem CirI.next {r:Rl} (H:RO r) {ns:List (List UInt8)} (hs:SS ns) (hns:∀ x,x∈ns↔gat r.us x≠none) {i:Nat} (hi:i<ns.length) {M N N':List (List UInt8)} {cs:List Wd} {v:SlV} (I:CirI r ns i M cs) (D:Dfs r M (ns.getD i default) N) (hn:ns.getD i default ∉ M) (hS:SS N') (hN:∀ x,x∈N'↔x∈N):CirI r ns (i+1) (M ++ N) (cs ++ [⟨v,N'⟩]):=by
 have hk:gat r.us (ns.getD i default)≠none:=(hns _).1 (qQ hi)
 have hself:ns.getD i default∈N:=D.self.elim (fun q=>absurd q hn) id
 have hcomp:∀ x,Rch r 1 (ns.getD i default) x→x∈N:=fun x hx=>by
  have:x∈M∨x∈N:=hx.closed (M:=fun x=>x∈M∨x∈N) (.inr hself) fun x h y a=>by
   rcases h with h|h
   ·exact .inl (I.cl x h y a)
   ·exact D.cl x h y a
  rcases this with q|q
  ·exact absurd (hx.symm.closed (M:=fun x=>x∈M) q I.cl) hn
  ·exact q
 have hlen:0<N'.length:=List.length_pos_of_mem ((hN _).2 hself)
 have h0:N'.getD 0 default=ns.getD i default:=by
  obtain ⟨j,j1,j2⟩:=qR.1 ((hN _).2 hself)
  have le1:=hS.le (Nat.zero_le j) j1
  rw [j2] at le1
  have hm0:=(hN _).1 (qQ hlen)
  obtain ⟨k,k1,k2⟩:=qR.1 ((hns _).2 (D.kn _ hm0))
  have hki:i≤k:=by
   apply Classical.byContradiction
   intro q
   exact D.dj _ hm0 (k2 ▸ I.nm k (by omega))
  have le2:=hs.le hki k1
  rw [k2] at le2
  rcases Jt le1 with q|q
  ·exact q
  ·exact absurd q le2
 refine ⟨fun x=>?_,fun x hx y a=>?_,QZ (fun j hj=>List.mem_append.2 (.inl (I.nm j hj))) (List.mem_append.2 (.inr hself)),⟨fun w hw=>?_,fun j k hjk hk2=>?_⟩,fun j hj=>?_,by simp;exact I.ln⟩
 ·rw [List.mem_append,I.mem]
  constructor
  ·rintro (⟨w,h1,h2⟩|h)
   ·exact ⟨w,by simp [h1],h2⟩
   ·exact ⟨⟨v,N'⟩,by simp,(hN x).2 h⟩
  ·rintro ⟨w,h1,h2⟩
   rcases List.mem_append.1 h1 with q|q
   ·exact .inl ⟨w,q,h2⟩
   ·rw [List.mem_singleton.1 q] at h2;exact .inr ((hN x).1 h2)
 ·rw [List.mem_append] at hx ⊢
  rcases hx with q|q
  ·exact .inl (I.cl x q y a)
  ·exact D.cl x q y a
 ·rcases List.mem_append.1 hw with q|q
  ·exact I.ok.ss w q
  ·rw [List.mem_singleton.1 q]
   refine ⟨hS,fun e=>?_,fun x=>?_⟩
   ·simp only at e;rw [e] at hlen;exact absurd hlen (by simp)
   ·simp only [h0,hN]
    exact ⟨fun h=>⟨hk,D.rc x h⟩,fun h=>hcomp x h.2⟩
 ·simp only [List.length_append,List.length_singleton] at hk2
  rw [gA1 (show j<cs.length by omega)]
  rcases Nat.lt_or_ge k cs.length with q|q
  ·rw [gA1 q];exact I.ok.hd j k hjk q
  ·rw [gA2 q,show k - cs.length=0 by omega]
   show zy _ (N'.getD 0 default)
   rw [h0]
   obtain ⟨z,z1,z2⟩:=I.hd j (by omega)
   rw [z2];exact hs z i z1 hi
 ·simp only [List.length_append,List.length_singleton] at hj
  rcases Nat.lt_or_ge j cs.length with q|q
  ·obtain ⟨z,z1,z2⟩:=I.hd j q
   exact ⟨z,by omega,by rw [gA1 q];exact z2⟩
  ·rw [gA2 q,show j - cs.length=0 by omega]
   exact ⟨i,by omega,h0⟩
variable [Flag]
theorem KH {h0:AH} (w:WfH h0) {p:Nat} {r:Rl} (B:BkRd h0 p r) (H:RO r):Fn Tryz.prog Xh 25 [.pointer (some ⟨p,0,none⟩)] h0 (fun u h'=>∃ cs,Hs h0 h' [.sl u 22 1 xZ cs,W9 cs]∧CirOk r cs∧(∀ x,gat r.us x≠none→∃ w∈cs,x∈w.ws)∧cs.length≤64):=by
 have S:=Hs.start w
 have B0:=B
 obtain ⟨s,B⟩:=B
 have hb:=B.bk
 have h64:=H.l64
 refine zg rfl Tryz.func25 rfl rfl ?_
 all_goals (repeat' (first|refine qw ?_|refine qh rfl ?_|refine qi ?_|refine qp ?_|refine qg ?_|refine qj ?_|refine qo ?_|(refine qc 0 ?_;(refine bx S ?_;clear S;intro b h S);refine mv ?_;refine qf ?_)|(refine qc 1 ?_;(first|refine lB S rfl rfl ?_|refine qy S rfl rfl ?_|refine qU S ?_|refine lH S ?_))))
 (refine qE rfl rfl rfl rfl rfl ((Q5 S.wf (S.ext.get w hb)).mono ?_);rintro _ h ⟨rfl,x⟩)<;>(replace S:=S.qW x;clear x;refine qf ?_)
 obtain ⟨b1,hnm⟩:∃ x,x=b:=⟨_,rfl⟩;subst hnm
 all_goals (repeat' (first|refine qw ?_|refine qh rfl ?_|refine qi ?_|refine qp ?_|refine qg ?_|refine qj ?_|refine qo ?_|(refine qc 2 ?_;refine mv ?_;refine qf ?_)|(refine qc 3 ?_;refine mv ?_;refine qf ?_)))
 (repeat (refine qw ?_));refine qc 4 ?_
 refine mkm (α:=Bool) .bool S ?_;clear S;intro m h S;((refine al S ?_;clear S;intro b h S);(first|(refine sB S rfl rfl ?_;clear S;intro h S)|(refine zS S rfl rfl ?_;clear S;intro h S));refine qf ?_)
 obtain ⟨b4,hnm⟩:∃ x,x=b:=⟨_,rfl⟩;subst hnm
 all_goals (repeat' (first|refine qw ?_|refine qh rfl ?_|refine qi ?_|refine qp ?_|refine qg ?_|refine qj ?_|refine qo ?_|(refine qc 5 ?_;(refine al S ?_;clear S;intro b h S);refine qf ?_)))
 obtain ⟨b5,hnm⟩:∃ x,x=b:=⟨_,rfl⟩;subst hnm
 all_goals (repeat' (first|refine qw ?_|refine qh rfl ?_|refine qi ?_|refine qp ?_|refine qg ?_|refine qj ?_|refine qo ?_|(refine qc 6 ?_;(refine al S ?_;clear S;intro b h S);refine qf ?_)))
 obtain ⟨b6,hnm⟩:∃ x,x=b:=⟨_,rfl⟩;subst hnm
 all_goals (repeat' (first|refine qw ?_|refine qh rfl ?_|refine qi ?_|refine qp ?_|refine qg ?_|refine qj ?_|refine qo ?_|(refine qc 7 ?_;refine vl ?_;(first|(refine sB S rfl rfl ?_;clear S;intro h S)|(refine zS S rfl rfl ?_;clear S;intro h S));refine qf ?_)))
 all_goals (repeat' (first|refine qw ?_|refine qh rfl ?_|refine qi ?_|refine qp ?_|refine qg ?_|refine qj ?_|refine qo ?_|(refine qc 8 ?_;(first|refine lB S rfl rfl ?_|refine qy S rfl rfl ?_|refine qU S ?_|refine lH S ?_))))
 (refine qE rfl rfl rfl rfl rfl ((Px S.wf (B0.ext w S.ext) H).mono ?_);rintro un h ⟨ns,x,n1,n2,n3⟩)<;>(replace S:=S.jT x;clear x;(first|refine jA S ?_|refine jZ S rfl rfl ?_);refine mv ?_;refine qf ?_)
 all_goals (repeat' (first|refine qw ?_|refine qh rfl ?_|refine qi ?_|refine qp ?_|refine qg ?_|refine qj ?_|refine qo ?_|(refine qc 2 ?_;refine mv ?_;refine qf ?_)|(refine qc 3 ?_;refine mv ?_;refine qf ?_)|(refine qc 4 ?_;skip)|(refine qc 5 ?_;(refine al S ?_;clear S;intro b h S);refine qf ?_)|(refine qc 6 ?_;(refine al S ?_;clear S;intro b h S);refine qf ?_)|(refine qc 7 ?_;refine vl ?_;(first|(refine sB S rfl rfl ?_;clear S;intro h S)|(refine zS S rfl rfl ?_;clear S;intro h S));refine qf ?_)|(refine qc 8 ?_;(first|refine lB S rfl rfl ?_|refine qy S rfl rfl ?_|refine qU S ?_|refine lH S ?_))))
 have S:=(S.Zv (e:=22) (z:=1) (enc:=xZ)).anyS (p:=WdsOk []) fun h' g hg=>by cases hg
 replace S:Hs h0 h (W9 [] :: .sl (.slice none 0 0) 22 1 xZ [] :: .sl un 9 1 eS ns :: .blk b6 [cvJ b4 b5 b1 b6] 113 :: .blk b5 [SlV.val ⟨none,0,0⟩] 22 :: .blk b4 [.map (some m)] 112 :: .mp m .bool [] :: .blk b1 [.pointer (some ⟨p,0,none⟩)] 40 :: []):=S
 have S:=(show Hs h0 h (qaD p b4 b5 b1 b6 m [] ⟨none,0,0⟩ un ns (.slice none 0 0) []) from S.pick)
 refine qM (σ:=Nat×List (List UInt8×Bool)×SlV×List (List UInt8)×List Wd×Value) (fun (i,mp,vc,M,cs,v3) h'=>Hs h0 h' (qaD p b4 b5 b1 b6 m mp vc un ns v3 cs)∧MetP mp M∧i≤ns.length∧CirI r ns i M cs) (fun (i,mp,vc,M,cs,v3)=>ns.length - i) (fun (i,mp,vc,M,cs,v3)=>[(3,v3),(5,.pointer (some ⟨b5,0,none⟩)),(6,.pointer (some ⟨b6,0,none⟩)),(14,un),(15,.int .i64 ns.length),(16,.int .i64 i)]) (0,[],⟨none,0,0⟩,[],[],.slice none 0 0) (by repeat (first|exact Ks.le_nil _|refine Ks.qx rfl ?_|refine Ks.qA ?_)) ?_ ?_
 ·refine ⟨S,fun x=>by simp [zH,QN],Nat.zero_le _,⟨by simp,by simp,by simp,⟨by simp,by simp⟩,by simp,by simp⟩⟩
 clear S
 rintro ⟨i,mp,vc,M,cs,v3⟩ h ⟨S,k1,k2,k3⟩
 all_goals (repeat' (first|refine qw ?_|refine qh rfl ?_|refine qi ?_|refine qp ?_|refine qg ?_|refine qj ?_|refine qo ?_|(refine qc 9 ?_;(first|refine cT ?_|refine cF ?_|(refine cS ?_ ?_<;>intro hc))<;>(refine qf ?_))))
 ·all_goals (repeat' (first|refine qw ?_|refine qh rfl ?_|refine qi ?_|refine qp ?_|refine qg ?_|refine qj ?_|refine qo ?_|(refine qc 10 ?_;(first|refine zK S ?_|refine qC S rfl rfl ?_);(first|refine lB S rfl rfl ?_|refine qy S rfl rfl ?_|refine qU S ?_|refine lH S ?_);refine mv ?_;refine qf ?_)|(refine qc 11 ?_;(first|(refine sB S rfl rfl ?_;clear S;intro h S)|(refine zS S rfl rfl ?_;clear S;intro h S));refine qf ?_)|(refine qc 12 ?_;(first|refine lB S rfl rfl ?_|refine qy S rfl rfl ?_|refine qU S ?_|refine lH S ?_);refine mv ?_)))
  simp only [Int.toNat_natCast]
  have hk:gat r.us (ns.getD i default)≠none:=(n2 _).1 (qQ (by omega))
  have hnl:i<ns.length:=by omega
  have S:=S.Zv (e:=9) (z:=1) (enc:=eS)
  replace S:Hs h0 h (.sl (SlV.val ⟨none,0,0⟩) 9 1 eS [] :: .sl un 9 1 eS ns :: .blk b4 [.map (some m)] 112 :: .mp m .bool mp :: .blk b5 [SlV.val ⟨none,0,0⟩] 22 :: .blk b1 [.pointer (some ⟨p,0,none⟩)] 40 :: .blk b6 [cvJ b4 b5 b1 b6] 113 :: .sl v3 22 1 xZ cs :: W9 cs :: []):=S
  have S:=(show Hs h0 h (Yr p b4 b5 b1 b6 m mp ⟨none,0,0⟩ [] ++ (.sl un 9 1 eS ns :: .sl v3 22 1 xZ cs :: W9 cs :: [])) from by dsimp only [Yr,List.cons_append,List.nil_append];exact S.pick)
  have hC:([]:List (List UInt8)).Nodup∧∀ x∈([]:List (List UInt8)),x∈M∧gat r.us x≠none:=⟨by simp,by simp⟩
  (refine zV rfl rfl rfl rfl ((qbi w B0 H (vZ r M) (ns.getD i default) S k1 (Nat.le_refl _) hk hC).mono ?_);rintro _ h ⟨mp',v',N,S,e1,D⟩)<;>(refine qf ?_)
  rw [List.nil_append] at S
  dsimp only [Yr,List.cons_append,List.nil_append] at S
  have hnM:0<N.length→ns.getD i default ∉ M:=fun hl q=>D.dj _ (qQ hl) ((D.rc _ (qQ hl)).closed (M:=fun x=>x∈M) q k3.cl)
  have hN64:=Qm D.nd (m:=r.us.map (·.name)) fun x hx=>Jf (D.kn x hx)
  rw [List.length_map] at hN64
  all_goals (repeat' (first|refine qw ?_|refine qh rfl ?_|refine qi ?_|refine qp ?_|refine qg ?_|refine qj ?_|refine qo ?_|(refine qc 13 ?_;(first|refine lB S rfl rfl ?_|refine qy S rfl rfl ?_|refine qU S ?_|refine lH S ?_);(first|refine jA S ?_|refine jZ S rfl rfl ?_);(first|refine cT ?_|refine cF ?_|(refine cS ?_ ?_<;>intro hc))<;>(refine qf ?_))))
  ·all_goals (repeat' (first|refine qw ?_|refine qh rfl ?_|refine qi ?_|refine qp ?_|refine qg ?_|refine qj ?_|refine qo ?_|(refine qc 14 ?_;(first|refine lB S rfl rfl ?_|refine qy S rfl rfl ?_|refine qU S ?_|refine lH S ?_))))
   have S:=(show Hs h0 h (.sl v'.val 9 1 eS N :: .blk b4 [.map (some m)] 112 :: .mp m .bool mp' :: .blk b5 [v'.val] 22 :: .blk b1 [.pointer (some ⟨p,0,none⟩)] 40 :: .blk b6 [cvJ b4 b5 b1 b6] 113 :: .sl un 9 1 eS ns :: .sl v3 22 1 xZ cs :: W9 cs :: []) from S.pick)
   (refine qE rfl rfl rfl rfl rfl ((gW S (by omega)).mono ?_);rintro _ h ⟨N',z1,z2,S⟩)<;>(refine qf ?_)
   all_goals (repeat' (first|refine qw ?_|refine qh rfl ?_|refine qi ?_|refine qp ?_|refine qg ?_|refine qj ?_|refine qo ?_|(refine qc 15 ?_;refine mv ?_;(first|refine lB S rfl rfl ?_|refine qy S rfl rfl ?_|refine qU S ?_|refine lH S ?_);(refine one 1 S ?_;clear S;intro u h S))))
   have hcl:=k3.ln
   refine app (y0:=⟨v',N'⟩) S rfl rfl ?_;clear S;intro v h S;(refine mv ?_;refine qf ?_)
   all_goals (repeat' (first|refine qw ?_|refine qh rfl ?_|refine qi ?_|refine qp ?_|refine qg ?_|refine qj ?_|refine qo ?_|(refine qc 16 ?_;(first|refine ad ?_|refine vl ?_);refine mv ?_;refine qf ?_)))
   refine ⟨(i+1,mp',v',M ++ N,cs ++ [⟨v',N'⟩],v),?_,?_,(by repeat (first|exact Ks.le_nil _|refine Ks.qx rfl ?_|refine Ks.qA ?_))⟩
   ·show ns.length - (i+1)<ns.length - i;omega
   ·have hl0:0<N.length:=by omega
    have S:=(show Hs h0 h (.sl v'.val 9 1 eS N' :: W9 cs :: .sl un 9 1 eS ns :: .blk b4 [.map (some m)] 112 :: .mp m .bool mp' :: .blk b5 [v'.val] 22 :: .blk b1 [.pointer (some ⟨p,0,none⟩)] 40 :: .blk b6 [cvJ b4 b5 b1 b6] 113 :: .sl v 22 1 xZ (cs ++ [⟨v',N'⟩]) :: []) from S.pick)
    have S:=Hs.qbJ (g:=⟨v',N'⟩) S
    exact ⟨(show Hs h0 h (qaD p b4 b5 b1 b6 m mp' v' un ns v (cs ++ [⟨v',N'⟩])) from S.pick),e1,hnl,k3.next H n1 n2 hnl D (hnM hl0) (SS.of z1 z2 D.nd) fun x=>z1.perm.mem_iff⟩
  ·have hl0:N=[]:=by cases N with|nil=>rfl|cons x l=>simp at hc
   subst hl0
   all_goals (repeat' (first|refine qw ?_|refine qh rfl ?_|refine qi ?_|refine qp ?_|refine qg ?_|refine qj ?_|refine qo ?_|(refine qc 16 ?_;(first|refine ad ?_|refine vl ?_);refine mv ?_;refine qf ?_)))
   refine ⟨(i+1,mp',v',M,cs,v3),?_,?_,(by repeat (first|exact Ks.le_nil _|refine Ks.qx rfl ?_|refine Ks.qA ?_))⟩
   ·show ns.length - (i+1)<ns.length - i;omega
   ·rw [List.append_nil] at e1
    exact ⟨(show Hs h0 h (qaD p b4 b5 b1 b6 m mp' v' un ns v3 cs) from S.pick),e1,hnl,⟨k3.mem,k3.cl,QZ k3.nm (D.self.elim id (fun q=>by cases q)),k3.ok,fun j hj=>let ⟨z,z1,z2⟩:=k3.hd j hj;⟨z,by omega,z2⟩,(by have:=k3.ln;show cs.length≤i+1;omega)⟩⟩
 ·obtain rfl:i=ns.length:=by omega
  skip
  all_goals (repeat' (first|refine qw ?_|refine qh rfl ?_|refine qi ?_|refine qp ?_|refine qg ?_|refine qj ?_|refine qo ?_|(refine qc 17 ?_;refine mv ?_;refine mv ?_;refine qf ?_)))
  refine qI ⟨_,rfl,?_⟩
  dsimp only [qaD] at S
  refine ⟨cs,(show Hs h0 h [.sl v3 22 1 xZ cs,W9 cs] from S.pick),k3.ok,fun x hx=>?_,by have:=k3.ln;omega⟩
  obtain ⟨j,j1,j2⟩:=qR.1 ((n2 x).2 hx)
  have:=k3.nm j j1
  rw [j2] at this
  exact (k3.mem x).1 this
end Go.Proofs.Xx
namespace Go.Proofs.Xx
open Go Go.Proofs
set_option linter.unusedSimpArgs false
set_option linter.unusedVariables false
set_option linter.unusedSectionVars false
set_option maxRecDepth 100000
set_option maxHeartbeats 4000000
section
variable {P:Program} {X:Extern} {sz:Nat} {L:Ks} {h h0:AH} {rs:List Rs} {ops:Array Oper} {os:List Oper} {o:Oper} {R:Ks→AH→Prop}
theorem bE {L1 L2:Ks} {x y:Operand} {ty ty2:TypeId} {a b:Bool} (w1:a=b→KO P X sz ops os L1 h R) (w2:¬ a=b→KO P X sz ops os L2 h R) (ho:o.op = .binOp .eql ty x y ty2:=by exact rfl) (hg:qF ops L.tree o.guard=some true:=by exact rfl) (hx:kA L x=some (.bool a):=by exact rfl) (hy:kA L y=some (.bool b):=by exact rfl) (hu:P.underlying ty=some .bool:=by exact rfl)
 (hp1:qY sz L o.dst (.bool true)=some L1:=by exact rfl) (hp2:qY sz L o.dst (.bool false)=some L2:=by exact rfl):KO P X sz ops (o :: os) L h R:=by
 by_cases p:a=b
 ·subst p;exact jh ho hg hx hy (v:=.bool true) (by cases a<;>simp [QH,hu]) hp1 (w1 rfl)
 ·exact jh ho hg hx hy (v:=.bool false) (by cases a<;>cases b<;>first|exact absurd rfl p|simp [QH,hu]) hp2 (w2 p)
end
theorem QX {α:Type} [Inhabited α] {l m:List α} (hl:l.length=m.length) (h:∀ i,i<l.length→l.getD i default=m.getD i default):l=m:=by
 apply List.ext_getElem hl
 intro i h1 h2
 have:=h i h1
 rwa [List.getD_eq_getElem?_getD,List.getD_eq_getElem?_getD,List.getElem?_eq_getElem h1,List.getElem?_eq_getElem h2] at this
theorem qcT (a b:Ti):(zQ ⟨a.a.toArray⟩ ⟨b.a.toArray⟩ && (zQ ⟨a.b.toArray⟩ ⟨b.b.toArray⟩ && (a.k == b.k && true)))=true↔a=b:=by
 rw [Q4,Q4]
 cases a;cases b
 simp
theorem Star.snoc {h:AH} {r:Rs} {fp:Fp} (hr:r.ok h fp):∀ {l:List Rs} {U:Fp},Star h l U→(∀ b,fp b→¬ U b)→Star h (l ++ [r]) (fun b=>U b∨fp b)
 | [],U,_,_=>⟨fp,hr,fun b hb=>.inr hb,trivial⟩
 | x :: l,U,⟨fx,h1,h2,h3⟩,hd=>⟨fx,h1,fun b hb=>.inl (h2 b hb),(Star.snoc hr h3 fun b hb q=>hd b hb q.1).mono fun b hb=>by
  rcases hb with hb|hb
  ·exact ⟨.inl hb.1,hb.2⟩
  ·exact ⟨.inr hb,fun q=>hd b hb (h2 b q)⟩⟩
abbrev Zq (g:Ze):Rs:=.sl g.tv.val 9 1 eS g.tg
abbrev JI (gs:List Ze):Rs:=.any (fun h fp=>Star h (gs.map Zq) fp)
theorem Hs.PV {h0 h:AH} {rs:List Rs} {gs:List Ze} {g:Ze} (S:Hs h0 h (.sl g.tv.val 9 1 eS g.tg :: JI gs :: rs)):Hs h0 h (JI (gs ++ [g]) :: rs):=by
 obtain ⟨f1,k1,k2,f2,k3,k4,k5⟩:=S.sep
 refine ⟨S.ext,fun b=>f2 b∨f1 b,fun h' q=>?_,fun b hb=>?_,k5.mono fun b hb=>⟨trivial,fun q=>?_⟩⟩
 ·rw [List.map_append]
  exact Star.snoc (k1.local fun b hb=>q b (.inr hb)) (k3 h' fun b hb=>q b (.inl hb)) fun b hb q=>(k4 b q).2.2.2 hb
 ·rcases hb with hb|hb
  ·exact ⟨(k4 b hb).1,(k4 b hb).2.1,trivial⟩
  ·exact k2 b hb
 ·rcases q with q|q
  ·exact hb.2 q
  ·exact hb.1.2 q
theorem Star.get {h:AH} {r:Rs}:∀ {l:List Rs} {U:Fp},Star h l U→r∈l→∃ fp,r.ok h fp
 | x :: l,U,⟨fx,h1,h2,h3⟩,hr=>by
  rcases List.mem_cons.1 hr with rfl|hr
  ·exact ⟨fx,h1⟩
  ·exact Star.get h3 hr
theorem qb7 {α:Type} {v:Value} {e:TypeId} {z:Nat} {enc:α→List Value} {l:List α} {h:AH} {fp:Fp} (k:(Rs.sl v e z enc l).ok h fp):Qd h v z enc l:=by
 rcases k with ⟨rfl,rfl⟩|⟨b,o,cc,slk,cap,h1,h2,h3,h4,-⟩
 ·exact .inl ⟨rfl,rfl,rfl⟩
 ·exact .inr ⟨b,o,_,cc,e,slk,false,h1,h2,h4⟩
abbrev pI (v:RlV) (ts:List Ti):List Rs:=[.sl v.vg.val 24 9 eG v.gs,.sl v.vt.val 111 3 jK ts,JI v.gs]
theorem Hs.qb9 {h0 h:AH} {rs:List Rs} {v:RlV} {r:Rl} (S:Hs h0 h (pI v r.ts ++ rs)) (hu:v.gs.map (·.toGu)=r.us) (h1:r.us.length≤9223372036854775807) (h2:r.ts.length≤9223372036854775807) (h3:∀ g∈r.us,g.tg.length≤9223372036854775807):RlOk h v r:=by
 obtain ⟨fp,k⟩:=Hs.qbw (p:=fun h fp=>Star h (v.gs.map Zq) fp) S (.there (.there .here))
 refine ⟨Rd.Jb S .here,Rd.Jb S (.there .here),fun i hi=>⟨?_,?_⟩,hu,h1,h2⟩
 ·obtain ⟨fq,q⟩:=k.get (List.mem_map.2 ⟨_,qQ hi,rfl⟩)
  exact qb7 q
 ·exact h3 _ (by rw [← hu];exact List.mem_map.2 ⟨_,qQ hi,rfl⟩)
variable [Flag]
theorem X6 {h0:AH} (w:WfH h0) (v u:Value) (l m:List (List UInt8)) (rv:Qd h0 v 1 eS l) (ru:Qd h0 u 1 eS m) (hl:l.length≤9223372036854775807) (hm:m.length≤9223372036854775807):Fn Tryz.prog Xh 60 [v,u] h0 (fun x h'=>Zd x (l=m)∧Hs h0 h' []):=by
 have S:=Hs.start w
 refine zg rfl Tryz.func60 rfl rfl ?_
 all_goals (repeat' (first|refine qw ?_|refine qh rfl ?_|refine qi ?_|refine qg ?_|(refine qc 0 ?_;refine mv ?_;refine qf ?_)|(refine qc 1 ?_;refine mv ?_;refine jA S ?_;refine mv ?_;refine jA S ?_;(first|(refine cS ?_ ?_<;>intro hc))<;>(refine qf ?_))|(refine qc 2 ?_;refine mv ?_;refine qf ?_)|(refine qc 3 ?_;refine mv ?_;refine qf ?_)))
 ·refine qI ⟨_,rfl,?_⟩
  exact ⟨.inr ⟨rfl,fun q=>by subst q;exact hc rfl⟩,S⟩
 ·refine qM (σ:=Nat) (fun i h'=>Hs h0 h' []∧i≤l.length∧∀ j,j<i→l.getD j default=m.getD j default) (fun i=>l.length - i) (fun i=>[(0,v),(1,u),(5,.int .i64 i)]) 0 (by repeat (first|exact Ks.le_nil _|refine Ks.qx rfl ?_)) ?_ ?_
  ·exact ⟨S,Nat.zero_le _,fun j hj=>absurd hj (Nat.not_lt_zero _)⟩
  clear S
  rintro i h ⟨S,g1,g2⟩
  all_goals (repeat' (first|refine qw ?_|refine qh rfl ?_|refine qi ?_|refine qp ?_|refine qg ?_|(refine qc 4 ?_;refine mv ?_;refine mv ?_;refine jA S ?_;(first|(refine cS ?_ ?_<;>intro hc))<;>(refine qf ?_))|(refine qc 5 ?_;refine mv ?_;refine ad ?_;refine mv ?_;refine qf ?_)|(refine qL 6 ?_;refine mv ?_;refine mv ?_;refine zK S ?_;refine qU S ?_;refine mv ?_;refine mv ?_;refine zK S ?_;refine qU S ?_;(refine tS ?_ ?_<;>intro hc)<;>(refine qf ?_))|(refine qc 7 ?_;refine mv ?_;refine qf ?_)|(refine qc 8 ?_;refine mv ?_;refine qf ?_)))
  all_goals (try simp only [Int.toNat_natCast] at *)
  ·refine ⟨i+1,?_,?_,(by repeat (first|exact Ks.le_nil _|refine Ks.qx rfl ?_))⟩
   ·show l.length - (i+1)<l.length - i;omega
   ·exact ⟨S,by omega,QZ g2 hc⟩
  ·refine qI ⟨_,rfl,?_⟩
   exact ⟨.inr ⟨rfl,fun q=>by subst q;exact hc rfl⟩,S⟩
  ·refine qI ⟨_,rfl,?_⟩
   exact ⟨.inl ⟨rfl,QX (by omega) fun j hj=>g2 j (by omega)⟩,S⟩
theorem wC {h0:AH} (w:WfH h0) (v u:Value) (l m:List Ti) (rv:Qd h0 v 3 jK l) (ru:Qd h0 u 3 jK m) (hl:l.length≤9223372036854775807) (hm:m.length≤9223372036854775807):Fn Tryz.prog Xh 68 [v,u] h0 (fun x h'=>Zd x (l=m)∧Hs h0 h' []):=by
 have S:=Hs.start w
 refine zg rfl Tryz.func68 rfl rfl ?_
 all_goals (repeat' (first|refine qw ?_|refine qh rfl ?_|refine qi ?_|refine qg ?_|(refine qc 0 ?_;refine mv ?_;refine qf ?_)|(refine qc 1 ?_;refine mv ?_;refine jA S ?_;refine mv ?_;refine jA S ?_;(first|(refine cS ?_ ?_<;>intro hc))<;>(refine qf ?_))|(refine qc 2 ?_;refine mv ?_;refine qf ?_)|(refine qc 3 ?_;refine mv ?_;refine qf ?_)))
 ·refine qI ⟨_,rfl,?_⟩
  exact ⟨.inr ⟨rfl,fun q=>by subst q;exact hc rfl⟩,S⟩
 ·refine qM (σ:=Nat) (fun i h'=>Hs h0 h' []∧i≤l.length∧∀ j,j<i→l.getD j default=m.getD j default) (fun i=>l.length - i) (fun i=>[(0,v),(1,u),(5,.int .i64 i)]) 0 (by repeat (first|exact Ks.le_nil _|refine Ks.qx rfl ?_)) ?_ ?_
  ·exact ⟨S,Nat.zero_le _,fun j hj=>absurd hj (Nat.not_lt_zero _)⟩
  clear S
  rintro i h ⟨S,g1,g2⟩
  all_goals (repeat' (first|refine qw ?_|refine qh rfl ?_|refine qi ?_|refine qp ?_|refine qg ?_|(refine qc 4 ?_;refine mv ?_;refine mv ?_;refine jA S ?_;(first|(refine cS ?_ ?_<;>intro hc))<;>(refine qf ?_))|(refine qc 5 ?_;refine mv ?_;refine ad ?_;refine mv ?_;refine qf ?_)|(refine qL 6 ?_;refine mv ?_;refine mv ?_;refine zK S ?_;refine qU S ?_;refine mv ?_;refine mv ?_;refine zK S ?_;refine qU S ?_;(refine gE ?_ ?_<;>intro hc)<;>(refine qf ?_))|(refine qc 7 ?_;refine mv ?_;refine qf ?_)|(refine qc 8 ?_;refine mv ?_;refine qf ?_)))
  all_goals (try simp only [Int.toNat_natCast] at *)
  ·refine ⟨i+1,?_,?_,(by repeat (first|exact Ks.le_nil _|refine Ks.qx rfl ?_))⟩
   ·show l.length - (i+1)<l.length - i;omega
   ·exact ⟨S,by omega,QZ g2 ((qcT _ _).1 hc)⟩
  ·refine qI ⟨_,rfl,?_⟩
   exact ⟨.inr ⟨rfl,fun q=>by subst q;rw [(qcT _ _).2 rfl] at hc;cases hc⟩,S⟩
  ·refine qI ⟨_,rfl,?_⟩
   exact ⟨.inl ⟨rfl,QX (by omega) fun j hj=>g2 j (by omega)⟩,S⟩
theorem yF {h0:AH} (w:WfH h0) (g k:Ze) (rg:Qd h0 g.tv.val 1 eS g.tg) (rk:Qd h0 k.tv.val 1 eS k.tg) (hg:g.tg.length≤9223372036854775807) (hk:k.tg.length≤9223372036854775807):Fn Tryz.prog Xh 62 [gV g,gV k] h0 (fun x h'=>Zd x (g.toGu=k.toGu)∧Hs h0 h' []):=by
 have S:=Hs.start w
 obtain ⟨⟨n1,n2,n3,n4,n5,n6,n7,n8,n9⟩,n10⟩:=g
 obtain ⟨⟨m1,m2,m3,m4,m5,m6,m7,m8,m9⟩,m10⟩:=k
 unfold gV
 dsimp only at *
 refine zg rfl Tryz.func62 rfl rfl ?_
 skip
 all_goals (repeat' (first|refine qw ?_|(refine qc 0 ?_;(refine bx S ?_;clear S;intro b h S);(refine bx S ?_;clear S;intro b h S);refine mv ?_;refine qf ?_)|(refine qc 1 ?_;refine vl ?_;refine lB S rfl rfl ?_;refine vl ?_;refine lB S rfl rfl ?_;(refine tS ?_ ?_<;>intro hc)<;>(refine mv ?_;(first|refine off ?_|(refine vl ?_));(first|refine off ?_|(refine lB S rfl rfl ?_));(first|refine off ?_|(refine vl ?_));(first|refine off ?_|(refine lB S rfl rfl ?_));(first|refine off ?_|(refine tS ?_ ?_<;>intro hc))<;>(refine vl ?_;refine mv ?_;(first|refine off ?_|(refine vl ?_));(first|refine off ?_|(refine lB S rfl rfl ?_));(first|refine off ?_|(refine vl ?_));(first|refine off ?_|(refine lB S rfl rfl ?_));(first|refine off ?_|(refine tS ?_ ?_<;>intro hc))<;>(refine vl ?_;refine mv ?_;(first|refine off ?_|(refine vl ?_));(first|refine off ?_|(refine lB S rfl rfl ?_));(first|refine off ?_|(refine vl ?_));(first|refine off ?_|(refine lB S rfl rfl ?_));(first|refine off ?_|(first|(refine cS ?_ ?_<;>intro hc)))<;>(refine vl ?_;refine mv ?_;(first|refine off ?_|(refine vl ?_));(first|refine off ?_|(refine lB S rfl rfl ?_));(first|refine off ?_|(refine vl ?_));(first|refine off ?_|(refine lB S rfl rfl ?_));(first|refine off ?_|(first|(refine cS ?_ ?_<;>intro hc)))<;>(refine vl ?_;refine mv ?_;(first|refine off ?_|(refine vl ?_));(first|refine off ?_|(refine lB S rfl rfl ?_));(first|refine off ?_|(refine vl ?_));(first|refine off ?_|(refine lB S rfl rfl ?_));(first|refine off ?_|(refine tS ?_ ?_<;>intro hc))<;>(refine vl ?_;refine mv ?_;(first|refine off ?_|(refine vl ?_));(first|refine off ?_|(refine lB S rfl rfl ?_));(first|refine off ?_|(refine vl ?_));(first|refine off ?_|(refine lB S rfl rfl ?_));(first|refine off ?_|(refine bE ?_ ?_<;>intro hc))<;>(refine vl ?_;refine mv ?_;(first|refine off ?_|(refine vl ?_));(first|refine off ?_|(refine lB S rfl rfl ?_));(first|refine off ?_|(refine vl ?_));(first|refine off ?_|(refine lB S rfl rfl ?_));(first|refine off ?_|(refine bE ?_ ?_<;>intro hc))<;>(refine vl ?_;refine mv ?_;(first|refine off ?_|(refine vl ?_));(first|refine off ?_|(refine lB S rfl rfl ?_));(first|refine off ?_|(refine vl ?_));(first|refine off ?_|(refine lB S rfl rfl ?_));(first|(refine off ?_;refine vl ?_;refine mv ?_;refine qf ?_)|skip))))))))))))
 ·(refine qE rfl rfl rfl rfl rfl ((X6 S.wf n10.val m10.val n9 m9 (rg.ext w S.ext) (rk.ext w S.ext) hg hk).mono ?_);rintro _ h ⟨⟨rfl,z⟩|⟨rfl,z⟩,x⟩)<;>(replace S:=S.qW x;clear x;refine vl ?_;refine mv ?_;refine qf ?_)
  ·all_goals (repeat' (fail))
   refine qI ⟨_,rfl,?_⟩
   refine ⟨.inl ⟨rfl,?_⟩,S.drop⟩
   simp only [Gu.mk.injEq]
   exact ⟨by assumption,by assumption,by assumption,by assumption,by assumption,by assumption,by assumption,by assumption,z⟩
  ·all_goals (repeat' (fail))
   refine qI ⟨_,rfl,?_⟩
   refine ⟨.inr ⟨rfl,fun q=>?_⟩,S.drop⟩
   simp only [Gu.mk.injEq] at q
   exact z q.2.2.2.2.2.2.2.2
 all_goals
  refine qI ⟨_,rfl,?_⟩
  refine ⟨.inr ⟨rfl,fun q=>?_⟩,S.drop⟩
  simp only [Gu.mk.injEq] at q
  exact absurd (by first|exact q.1|exact q.2.1|exact q.2.2.1|exact q.2.2.2.1|exact q.2.2.2.2.1|exact q.2.2.2.2.2.1|exact q.2.2.2.2.2.2.1|exact q.2.2.2.2.2.2.2.1) hc
theorem WM {h0:AH} (w:WfH h0) (v u:Value) (gs ks:List Ze) (rv:Qd h0 v 9 eG gs) (ru:Qd h0 u 9 eG ks) (tv:∀ i,i<gs.length→Qd h0 (gs.getD i default).tv.val 1 eS (gs.getD i default).tg∧(gs.getD i default).tg.length≤9223372036854775807) (tu:∀ i,i<ks.length→Qd h0 (ks.getD i default).tv.val 1 eS (ks.getD i default).tg∧(ks.getD i default).tg.length≤9223372036854775807) (hl:gs.length≤9223372036854775807) (hm:ks.length≤9223372036854775807) :
 Fn Tryz.prog Xh 67 [v,u] h0 (fun x h'=>Zd x (gs.map (·.toGu)=ks.map (·.toGu))∧Hs h0 h' []):=by
 have S:=Hs.start w
 refine zg rfl Tryz.func67 rfl rfl ?_
 all_goals (repeat' (first|refine qw ?_|refine qh rfl ?_|refine qi ?_|refine qg ?_|(refine qc 0 ?_;refine mv ?_;refine qf ?_)|(refine qc 1 ?_;refine mv ?_;refine jA S ?_;refine mv ?_;refine jA S ?_;(first|(refine cS ?_ ?_<;>intro hc))<;>(refine qf ?_))|(refine qc 2 ?_;refine mv ?_;refine qf ?_)|(refine qc 3 ?_;refine mv ?_;refine qf ?_)))
 ·refine qI ⟨_,rfl,?_⟩
  exact ⟨.inr ⟨rfl,fun q=>by have:=congrArg List.length q;simp at this;omega⟩,S⟩
 ·refine qM (σ:=Nat) (fun i h'=>Hs h0 h' []∧i≤gs.length∧∀ j,j<i→(gs.getD j default).toGu=(ks.getD j default).toGu) (fun i=>gs.length - i) (fun i=>[(0,v),(1,u),(5,.int .i64 i)]) 0 (by repeat (first|exact Ks.le_nil _|refine Ks.qx rfl ?_)) ?_ ?_
  ·exact ⟨S,Nat.zero_le _,fun j hj=>absurd hj (Nat.not_lt_zero _)⟩
  clear S
  rintro i h ⟨S,g1,g2⟩
  all_goals (repeat' (first|refine qw ?_|refine qh rfl ?_|refine qi ?_|refine qp ?_|refine qg ?_|(refine qc 4 ?_;refine mv ?_;refine mv ?_;refine jA S ?_;(first|(refine cS ?_ ?_<;>intro hc))<;>(refine qf ?_))|(refine qc 8 ?_;refine mv ?_;refine qf ?_)))
  ·have e1:=tv i (by omega)
   have e2:=tu i (by omega)
   all_goals (repeat' (first|(refine qL 6 ?_;refine mv ?_;refine mv ?_;refine zK S ?_;refine qU S ?_;refine mv ?_;refine mv ?_;refine zK S ?_;refine qU S ?_)))
   simp only [Int.toNat_natCast]
   (refine qE rfl rfl rfl rfl rfl ((yF S.wf (gs.getD i default) (ks.getD i default) (e1.1.ext w S.ext) (e2.1.ext w S.ext) e1.2 e2.2).mono ?_);rintro _ h ⟨⟨rfl,z⟩|⟨rfl,z⟩,x⟩)<;>(replace S:=S.qW x;clear x;refine vl ?_;refine qf ?_)
   ·all_goals (repeat' (first|refine qh rfl ?_|refine qi ?_|(refine qc 5 ?_;refine mv ?_;refine ad ?_;refine mv ?_;refine qf ?_)))
    refine ⟨i+1,?_,?_,(by repeat (first|exact Ks.le_nil _|refine Ks.qx rfl ?_))⟩
    ·show gs.length - (i+1)<gs.length - i;omega
    ·exact ⟨S,by omega,QZ g2 z⟩
   ·all_goals (repeat' (first|refine qw ?_|refine qh rfl ?_|(refine qc 7 ?_;refine mv ?_;refine qf ?_)))
    refine qI ⟨_,rfl,?_⟩
    refine ⟨.inr ⟨rfl,fun q=>z ?_⟩,S⟩
    rw [← zq (f:=fun g:Ze=>g.toGu) (show i<gs.length by omega),← zq (f:=fun g:Ze=>g.toGu) (show i<ks.length by omega),q]
  ·refine qI ⟨_,rfl,?_⟩
   refine ⟨.inl ⟨rfl,QX (by simp;omega) fun j hj=>?_⟩,S⟩
   simp at hj
   rw [zq (by omega),zq (by omega)];exact g2 j (by omega)
theorem ZC {h0:AH} (w:WfH h0) (v u:RlV) (r q:Rl) (hv:RlOk h0 v r) (hu:RlOk h0 u q):Fn Tryz.prog Xh 22 [v.val,u.val] h0 (fun x h'=>Zd x (r=q)∧Hs h0 h' []):=by
 have S:=Hs.start w
 have e1:=hv.len
 have e2:=hu.len
 have l1:=hv.lg
 have l2:=hu.lg
 unfold RlV.val
 refine zg rfl Tryz.func22 rfl rfl ?_
 skip
 all_goals (repeat' (first|refine qw ?_|(refine qc 0 ?_;(refine bx S ?_;clear S;intro b h S);(refine bx S ?_;clear S;intro b h S);refine mv ?_;refine qf ?_)|(refine qc 1 ?_;refine vl ?_;refine lB S rfl rfl ?_;refine vl ?_;refine lB S rfl rfl ?_)))
 (refine qE rfl rfl rfl rfl rfl ((WM S.wf v.vg.val u.vg.val v.gs u.gs (hv.rg.ext w S.ext) (hu.rg.ext w S.ext) (fun i hi=>⟨(hv.tg i hi).1.ext w S.ext,(hv.tg i hi).2⟩) (fun i hi=>⟨(hu.tg i hi).1.ext w S.ext,(hu.tg i hi).2⟩) (by omega) (by omega)).mono ?_);rintro _ h ⟨⟨rfl,z⟩|⟨rfl,z⟩,x⟩)<;>(replace S:=S.qW x;clear x;refine mv ?_;(first|refine off ?_|(refine vl ?_));(first|refine off ?_|(refine lB S rfl rfl ?_));(first|refine off ?_|(refine vl ?_));(first|refine off ?_|(refine lB S rfl rfl ?_));(first|(refine off ?_;refine vl ?_;refine mv ?_;refine qf ?_)|skip))
 ·(refine qE rfl rfl rfl rfl rfl ((wC S.wf v.vt.val u.vt.val r.ts q.ts (hv.rt.ext w S.ext) (hu.rt.ext w S.ext) hv.lt hu.lt).mono ?_);rintro _ h ⟨⟨rfl,z2⟩|⟨rfl,z2⟩,x⟩)<;>(replace S:=S.qW x;clear x;refine vl ?_;refine mv ?_;refine qf ?_)
  ·all_goals (repeat' (fail))
   refine qI ⟨_,rfl,?_⟩
   refine ⟨.inl ⟨rfl,?_⟩,S.drop⟩
   rw [hv.us,hu.us] at z
   cases r;cases q;simp only [Rl.mk.injEq];exact ⟨z,z2⟩
  ·all_goals (repeat' (fail))
   refine qI ⟨_,rfl,?_⟩
   exact ⟨.inr ⟨rfl,fun e=>z2 (by rw [e])⟩,S.drop⟩
 ·all_goals (repeat' (fail))
  refine qI ⟨_,rfl,?_⟩
  exact ⟨.inr ⟨rfl,fun e=>z (by rw [hv.us,hu.us,e])⟩,S.drop⟩
theorem Gs {h0:AH} (w:WfH h0) {p:Nat} {r:Rl} (B:BkRd h0 p r) (H:RO r):Fn Tryz.prog Xh 39 [.pointer (some ⟨p,0,none⟩)] h0 (fun u h'=>∃ v:RlV,u=v.val∧v.gs.map (·.toGu)=r.us∧Hs h0 h' (pI v r.ts)):=by
 have S:=Hs.start w
 obtain ⟨s,B⟩:=B
 have hb:=B.bk
 have hrg:=B.rg
 have hgl:=B.len
 have h64:=H.l64
 have h256:=H.l256
 refine zg rfl Tryz.func39 rfl rfl ?_
 all_goals (repeat' (first|refine qw ?_|(refine qc 0 ?_;(refine al S ?_;clear S;intro b h S);refine qf ?_)|(refine qc 1 ?_;refine mv ?_)))
 (refine qE rfl rfl rfl rfl rfl ((Q5 S.wf (S.ext.get w hb)).mono ?_);rintro _ h ⟨rfl,x⟩)<;>(replace S:=S.qW x;clear x;refine qf ?_)
 obtain ⟨b2,hnm⟩:∃ x,x=b:=⟨_,rfl⟩;subst hnm
 all_goals (repeat' (first|refine qw ?_|refine qh rfl ?_|refine qi ?_|(refine qc 3 ?_;(refine al S ?_;clear S;intro b h S);refine qf ?_)))
 obtain ⟨b3,hnm⟩:∃ x,x=b:=⟨_,rfl⟩;subst hnm
 have S:=((S.Zv (e:=24) (z:=9) (enc:=eG))).anyS (p:=fun h fp=>Star h (([]:List Ze).map Zq) fp) fun h'=>trivial
 replace S:Hs h0 h [JI [],.sl (SlV.val ⟨none,0,0⟩) 24 9 eG [],.blk b3 [SlV.val ⟨none,0,0⟩,.slice none 0 0] 32,.blk b2 [.slice none 0 0,.slice none 0 0] 32]:=S
 all_goals (repeat' (first|refine qg ?_|(refine qc 4 ?_;refine mv ?_;refine vl ?_;refine vl ?_;refine vl ?_;refine lH S ?_;refine jA S ?_;refine mv ?_;refine qf ?_)))
 refine qM (σ:=Nat×SlV×List Ze) (fun (i,vg,gs) h'=>Hs h0 h' [JI gs,.sl vg.val 24 9 eG gs,.blk b3 [vg.val,.slice none 0 0] 32,.blk b2 [.slice none 0 0,.slice none 0 0] 32]∧i≤r.us.length∧gs.map (·.toGu)=r.us.take i) (fun (i,vg,gs)=>r.us.length - i) (fun (i,vg,gs)=>[(0,.pointer (some ⟨p,0,none⟩)),(2,.pointer (some ⟨b2,0,none⟩)),(3,.pointer (some ⟨b3,0,none⟩)),(13,s.vg.val),(14,.int .i64 s.gs.length),(15,.int .i64 i)]) (0,⟨none,0,0⟩,[]) (by repeat (first|exact Ks.le_nil _|refine Ks.qx rfl ?_)) ?_ ?_
 ·exact ⟨S,Nat.zero_le _,rfl⟩
 clear S
 rintro ⟨i,vg,gs⟩ h ⟨S,g1,g2⟩
 all_goals (repeat' (first|refine qw ?_|refine qh rfl ?_|refine qi ?_|refine qp ?_|refine qg ?_|(refine qc 5 ?_;(first|(refine cS ?_ ?_<;>intro hc))<;>(refine qf ?_))))
 ·have hil:i<s.gs.length:=by omega
  have hg:=B.g hil
  have h4:=(ve (H.chk _ (qQ (show i<r.us.length by omega)))).2.2.2.1
  have hl4:(s.gs.getD i default).tg.length≤1000000:=by rw [hg];omega
  have hgs:gs.length≤64:=by have:=congrArg List.length g2;simp at this;omega
  all_goals (repeat' (first|(refine qc 6 ?_;refine zK S ?_;refine qU S ?_;(refine al S ?_;clear S;intro b h S);(first|(refine sB S rfl rfl ?_;clear S;intro h S));refine qf ?_)))
  simp only [Int.toNat_natCast] at S
  simp only [Int.toNat_natCast]
  replace S:Hs h0 h [.blk b (eG (s.gs.getD i default)) 24,JI gs,.sl vg.val 24 9 eG gs,.blk b3 [vg.val,.slice none 0 0] 32,.blk b2 [.slice none 0 0,.slice none 0 0] 32]:=S
  (repeat (refine qw ?_));refine JC (id:=7) [(1,(0,2))] [some (b3)] ?_;refine qK ?_;(first|(refine vl ?_<;>refine qf ⟨⟨by (first|exact True.intro),rfl⟩,?_⟩));refine qK ?_;(first|(refine lB S rfl rfl ?_<;>refine qf ⟨⟨by (first|exact Or.inr rfl),rfl⟩,?_⟩));refine qK ?_;(first|(refine lB S rfl rfl ?_<;>refine qf ⟨⟨by (first|exact True.intro),rfl⟩,?_⟩))
  ((refine qK ?_;first|refine qE rfl rfl rfl rfl rfl ((yc S.wf (s.gs.getD i default) ((B.tg i hil).ext w S.ext) hl4).mono ?_));rintro _ h ⟨tv,rfl,x⟩)<;>((refine qf ⟨⟨True.intro,?_⟩,?_⟩;(focus ((show keepsX _ _ _ _ _;simp only [keepsX];(repeat' (first|exact True.intro|refine And.intro ?_ ?_));all_goals (intro hw;first|exact x.ext.old _ S.bB)))));replace S:=S.jT x;clear x;refine qK ?_;(first|((refine one 9 S ?_;have S0:=S;clear S;intro u h S);refine qf ⟨⟨True.intro,?_⟩,?_⟩;(focus ((show keepsX _ _ _ _ _;simp only [keepsX];(repeat' (first|exact True.intro|refine And.intro ?_ ?_));all_goals (intro hw;first|exact (S.gB).trans (S0.gB).symm))));clear S0)))
  refine qK ?_;refine app (y0:={ s.gs.getD i default with tv:=tv }) S rfl rfl ?_;have S0:=S;clear S;intro v h S;obtain ⟨vg',rfl⟩:=S.sV v;refine qf ⟨⟨True.intro,?_⟩,?_⟩;(focus ((show keepsX _ _ _ _ _;simp only [keepsX];(repeat' (first|exact True.intro|refine And.intro ?_ ?_));all_goals (intro hw;first|exact (S.gB).trans (S0.gB).symm))));clear S0;(refine qK ?_;(first|(refine vl ?_<;>refine qf ⟨⟨by (first|exact True.intro),rfl⟩,?_⟩));refine qK ?_;(first|((refine sB S rfl rfl ?_;have S0:=S;clear S;intro h S);refine qf ⟨⟨True.intro,?_⟩,?_⟩;(focus ((show keepsX _ _ _ _ _;simp only [keepsX];(repeat' (first|exact True.intro|refine And.intro ?_ ?_));all_goals (intro hw;first|exact absurd hw (by decide +kernel)))));clear S0));refine Xb ?_)
  all_goals (repeat' (first|(refine qc 8 ?_;refine ad ?_;refine mv ?_;refine qf ?_)))
  refine ⟨(i+1,vg',gs ++ [{ s.gs.getD i default with tv:=tv }]),?_,?_,(by repeat (first|exact Ks.le_nil _|refine Ks.qx rfl ?_))⟩
  ·show r.us.length - (i+1)<r.us.length - i;omega
  ·replace S:Hs h0 h (.sl vg'.val 24 9 eG (gs ++ [{ s.gs.getD i default with tv:=tv }]) :: .sl tv.val 9 1 eS (s.gs.getD i default).tg :: .blk b (eG (s.gs.getD i default)) 24 :: JI gs :: .blk b3 [vg'.val,.slice none 0 0] 32 :: .blk b2 [.slice none 0 0,.slice none 0 0] 32 :: []):=S
   have S:=(show Hs h0 h (.sl tv.val 9 1 eS (s.gs.getD i default).tg :: JI gs :: .sl vg'.val 24 9 eG (gs ++ [{ s.gs.getD i default with tv:=tv }]) :: .blk b3 [vg'.val,.slice none 0 0] 32 :: .blk b2 [.slice none 0 0,.slice none 0 0] 32 :: []) from S.pick)
   refine ⟨Hs.PV (g:={ s.gs.getD i default with tv:=tv }) S,by (try dsimp only);omega,?_⟩
   dsimp only
   rw [zk (by omega),List.map_append,g2,← hg];rfl
 ·obtain rfl:i=r.us.length:=by omega
  rw [List.take_length] at g2
  all_goals (repeat' (first|(refine qc 9 ?_;refine mv ?_;refine vl ?_;refine vl ?_;refine vl ?_;refine lH S ?_)))
  (refine qE rfl rfl rfl rfl rfl ((Pn S.wf s.vt.val r.ts (B.rt.ext w S.ext) (by omega)).mono ?_);rintro v h x)<;>(replace S:=S.jT x;clear x;obtain ⟨vt',rfl⟩:=S.sV v;refine vl ?_;(first|(refine sB S rfl rfl ?_;clear S;intro h S));refine qf ?_)
  all_goals (repeat' (first|refine qw ?_|(refine qc 10 ?_;refine lB S rfl rfl ?_;(first|(refine sB S rfl rfl ?_;clear S;intro h S));refine qf ?_)))
  refine qI ⟨_,JQ S rfl (by first|exact .there (.there (.there (.there .here)))) (by exact rfl) (by exact rfl),?_⟩
  refine ⟨⟨vg,vt',gs⟩,rfl,g2,?_⟩
  exact (show Hs h0 h [.sl vg.val 24 9 eG gs,.sl vt'.val 111 3 jK r.ts,JI gs] from S.pick)
end Go.Proofs.Xx
namespace Go.Proofs.Xx
open Go Go.Proofs
set_option linter.unusedSimpArgs false
set_option linter.unusedVariables false
set_option linter.unusedSectionVars false
set_option maxRecDepth 100000
set_option maxHeartbeats 4000000
structure Chg (h h':AH) (b:Nat) (o:Qj):Prop where
 at_:h'.get b=some o
 old:∀ j,j≠b→j<h.next→h'.get j=h.get j
 next:h.next≤h'.next
 wf:WfH h'
theorem Chg.trans {h h' h'':AH} {b:Nat} {o o':Qj} (c:Chg h h' b o) (d:Chg h' h'' b o'):Chg h h'' b o' :=
 ⟨d.at_,fun j hj hn=>(d.old j hj (Nat.lt_of_lt_of_le hn c.next)).trans (c.old j hj hn),Nat.le_trans c.next d.next,d.wf⟩
theorem gU {c:List Value} {o:Nat} (h:o≤c.length):splice c o []=c:=by simp [splice]
section
variable {P:Program} {X:Extern} {sz:Nat} {L L':Ks} {h:AH} {ops:Array Oper} {os:List Oper} {o:Oper} {R:Ks→AH→Prop}
theorem rwa {x y:Operand} {ts tx e e2:TypeId} {zc new cc:List Value} {by_ b o' n cap m z:Nat} {slk:Option Nat} {u:Value} {d:Tmp} (hb:h.get b=some (.cells cc e2 slk false)) (wf:WfH h) (hr:Rd h u z m new)
 (w:∀ h',Chg h h' b (.cells (splice cc (o'+n*z) new) e2 slk false)→KO P X sz ops os (L.put d (.slice (some ⟨b,o',none⟩) (n+m) cap)) h' R)
 (ho:o.op = .call { callee:=.builtin .append,args:=#[x,y],argTypes:=#[ts,tx] }:=by exact rfl) (hg:qF ops L.tree o.guard=some true:=by exact rfl) (hx:kA L x=some (.slice (some ⟨b,o',none⟩) n cap):=by exact rfl) (hy:kA L y=some u:=by exact rfl)
 (hs:zf P ts=some e:=by exact rfl) (hz:zo P e=some zc:=by exact rfl) (hzl:zc.length=z:=by exact rfl) (hby:QP P e=some (by_+1):=by exact rfl) (hxs:P.underlying tx=some (.slice e):=by exact rfl)
 (hc:n+m≤cap:=by omega) (hcc:o'+cap*z≤cc.length:=by assumption) (h1:new.all one? = true:=by assumption) (hsz:(m+1)*(by_+1)≤140737488355328:=by omega) (hdst:o.dst=some d:=by exact rfl) (hds:Nat.blt d sz=true:=by exact rfl):KO P X sz ops (o :: os) L h R:=by
 subst hzl
 have hlen:=hr.length
 have hfit:o'+n*zc.length+new.length≤cc.length:=by
  rw [hlen,Nat.add_assoc,← Nat.add_mul]
  exact Nat.le_trans (Nat.add_le_add_left (Nat.mul_le_mul_right _ hc) _) hcc
 have k2:Nat.beq new.length (m*zc.length)=true:=by rw [hlen];simp
 have hsrc:Xn zc.length u h=some (m,new):=hr.source
 have go:∀ h',jI P [ts,tx] (.slice (some ⟨b,o',none⟩) n cap) u h=some (.slice (some ⟨b,o',none⟩) (n+m) cap,h')→Chg h h' b (.cells (splice cc (o'+n*zc.length) new) e2 slk false)→KO P X sz ops (o :: os) L h R:=fun h' q1 q2=>by
  refine zJ (v:=.slice (some ⟨b,o',none⟩) (n+m) cap) (h':=h') hg ?_ (by simp only [qY,hdst,hds]) (w h' q2)
  rw [ho]
  simp [jr,qV hx,qV hy,jq,jv,q1,Qz]
 cases m with
 | zero =>
  have hn:new=[]:=List.length_eq_zero_iff.1 (by omega)
  subst hn
  refine go h ?_ ⟨by rw [gU (by simp at hfit;omega)];exact hb,fun _ _ _=>rfl,Nat.le_refl _,wf⟩
  simp only [jI,hs,hxs,hz,hby,hsrc,Nat.ble_eq_true_of_le hsz,h1,k2,Bool.and_self,hb,Nat.ble_eq_true_of_le (show n≤cap from hc),Nat.add_zero]
 | succ m =>
  refine go (h.put b (.cells (splice cc (o'+n*zc.length) new) e2 slk false)) ?_ ⟨by rw [AH.get_put,if_pos rfl],fun j hj _=>by rw [AH.get_put,if_neg hj],Nat.le_refl _,wf.put (wf.lt hb) _⟩
  simp only [jI,hs,hxs,hz,hby,hsrc,Nat.ble_eq_true_of_le hsz,h1,k2,Bool.and_self,hb,Nat.ble_eq_true_of_le hc,putCells,Nat.ble_eq_true_of_le hfit]
end
variable [Flag]
end Go.Proofs.Xx
namespace Go.Proofs.Xx
open Go Go.Proofs
set_option linter.unusedSimpArgs false
set_option linter.unusedVariables false
set_option linter.unusedSectionVars false
set_option maxRecDepth 100000
set_option maxHeartbeats 4000000
def qdS (ts:List Ti) (a b:List UInt8):List Ti:=ts.filter fun t=>!decide (t.a=Qs a b∧t.b=Qu a b)
open Classical in
noncomputable def qdR (r:Rl) (a b:List UInt8):Rl×Int:=if tied r.ts a b then (⟨r.us,qdS r.ts a b⟩,0) else (r,6)
variable [Flag]
end Go.Proofs.Xx
namespace Go.Proofs.Xx
open Go Go.Proofs
set_option linter.unusedSimpArgs false
set_option linter.unusedVariables false
set_option linter.unusedSectionVars false
set_option maxRecDepth 100000
theorem xx (a b:List UInt8):Qs a b=Qs b a:=by
 unfold Qs
 rcases ZE a b with h|h|h
 ·rw [if_neg (zY h),if_pos h]
 ·subst h;rfl
 ·rw [if_pos h,if_neg (zY h)]
theorem xy (a b:List UInt8):Qu a b=Qu b a:=by
 unfold Qu
 rcases ZE a b with h|h|h
 ·rw [if_pos h,if_neg (zY h)]
 ·subst h;rfl
 ·rw [if_neg (zY h),if_pos h]
theorem qa9 {a b:List UInt8} (h:a≠b):zy (Qs a b) (Qu a b)∧((Qs a b=a∧Qu a b=b)∨(Qs a b=b∧Qu a b=a)):=by
 rcases ZE a b with q|q|q
 ·rw [QS q,QT q];exact ⟨q,.inl ⟨rfl,rfl⟩⟩
 ·exact absurd q h
 ·rw [xx,xy,QS q,QT q];exact ⟨q,.inr ⟨rfl,rfl⟩⟩
theorem qcd {ts:List Ti} (hs:TS ts) (y:Ti):∃ i,Plc ts y i:=by
 induction ts with
 | nil=>exact ⟨0,Nat.le_refl _,fun j hj=>absurd hj (Nat.not_lt_zero _),fun j _ hj=>absurd hj (Nat.not_lt_zero _)⟩
 | cons x r ih =>
  by_cases h:Zm x y
  ·obtain ⟨i,i1,i2,i3⟩:=ih (List.pairwise_cons.1 hs).2
   refine ⟨i+1,by simp;exact i1,fun j hj=>?_,fun j h1 h2=>?_⟩
   ·cases j with
    | zero=>exact h
    | succ j=>exact i2 j (by omega)
   ·cases j with
    | zero=>omega
    | succ j=>exact i3 j (by omega) (by simp at h2;omega)
  ·refine ⟨0,Nat.zero_le _,fun j hj=>absurd hj (Nat.not_lt_zero _),fun j _ hj q=>h ?_⟩
   rcases Nat.eq_zero_or_pos j with z|z
   ·subst z;exact q
   ·exact QQ (hs.lt z hj) q
theorem Plc.kind {ts:List Ti} {a b:List UInt8} {k k':Int} {i:Nat} (h:Plc ts ⟨a,b,k⟩ i):Plc ts ⟨a,b,k'⟩ i:=⟨h.1,h.2.1,h.2.2⟩
theorem qbZ {ts:List Ti} {a b:List UInt8} {k:Int} (hs:TS ts) (hn:¬ tied ts a b):∃ i,i≤ts.length∧yI ts (XG a b k)=ts.take i ++ XG a b k :: ts.drop i∧TS (yI ts (XG a b k)):=by
 obtain ⟨i,hi⟩:=qcd hs ⟨Qs a b,Qu a b,0⟩
 have e:=Yb (t:=XG a b k) (hi.kind (k':=k))
 refine ⟨i,hi.1,e,?_⟩
 rw [e,TS,List.pairwise_append]
 refine ⟨List.Pairwise.sublist (List.take_sublist i ts) hs,List.pairwise_cons.2 ⟨fun y hy=>?_,List.Pairwise.sublist (List.drop_sublist i ts) hs⟩,fun x hx y hy=>?_⟩
 ·obtain ⟨j,hj,rfl⟩:=qR.1 hy
  simp only [List.length_drop] at hj
  have ej:(ts.drop i).getD j default=ts.getD (i+j) default:=by
   rw [List.getD_eq_getElem?_getD,List.getD_eq_getElem?_getD,List.getElem?_drop]
  rw [ej]
  rcases VD (ts.getD (i+j) default) (XG a b k) with q|q|q
  ·exact absurd q (hi.2.2 (i+j) (by omega) (by omega))
  ·exact absurd ⟨_,qQ (show i+j<ts.length by omega),q⟩ hn
  ·exact q
 ·obtain ⟨j,hj,rfl⟩:=qR.1 hx
  simp only [List.length_take] at hj
  rw [getD_take (by omega)]
  have h1:=hi.2.1 j (by omega)
  rcases List.mem_cons.1 hy with rfl|hy
  ·exact h1
  ·obtain ⟨m,hm,rfl⟩:=qR.1 hy
   simp only [List.length_drop] at hm
   have ej:(ts.drop i).getD m default=ts.getD (i+m) default:=by
    rw [List.getD_eq_getElem?_getD,List.getD_eq_getElem?_getD,List.getElem?_drop]
   rw [ej]
   exact hs.lt (by omega) (by omega)
theorem RO.tie {r:Rl} (H:RO r) {a b:List UInt8} {k:Int} (h:(Zo r a b k).2=0):RO (Zo r a b k).1:=by
 obtain ⟨h1,h2,h3,h4,h5,h6,h7⟩:=Z4 h
 rw [h7]
 obtain ⟨i,hi,e,hs⟩:=qbZ (k:=k) H.ts h5
 obtain ⟨m1,m2⟩:=qa9 h2
 refine ⟨H.chk,H.nd,H.l64,hs,fun t ht=>?_,?_⟩
 ·simp only at ht
  rw [e] at ht
  have:t∈r.ts∨t=XG a b k:=by
   rcases List.mem_append.1 ht with q|q
   ·exact .inl (List.mem_of_mem_take q)
   ·rcases List.mem_cons.1 q with q|q
    ·exact .inr q
    ·exact .inl (List.mem_of_mem_drop q)
  rcases this with q|rfl
  ·exact H.tt t q
  ·refine ⟨m1,h1,?_⟩
   rcases m2 with ⟨e1,e2⟩|⟨e1,e2⟩
   ·show Xx.gat r.us (Qs a b)≠none∧Xx.gat r.us (Qu a b)≠none
    rw [e1,e2];exact ⟨h3,h4⟩
   ·show Xx.gat r.us (Qs a b)≠none∧Xx.gat r.us (Qu a b)≠none
    rw [e1,e2];exact ⟨h4,h3⟩
 ·simp only
  rw [e];simp;omega
set_option maxHeartbeats 4000000
def Zn (ts:List Ti) (a b:List UInt8):Option Ti:=ts.find? fun t=>decide (t.a=Qs a b∧t.b=Qu a b)
theorem VG (ts:List Ti) (a b:List UInt8):Zn ts a b=Zn ts b a:=by unfold Zn;rw [xx a b,xy a b]
theorem Jq {ts:List Ti} {a b:List UInt8} {t:Ti} (h:Zn ts a b=some t):t∈ts∧t.a=Qs a b∧t.b=Qu a b:=by
 have h1:=List.find?_some h
 exact ⟨List.mem_of_find?_eq_some h,by simpa using h1⟩
theorem kV {ts:List Ti} {a b:List UInt8} (h:Zn ts a b=none):¬ tied ts a b:=by
 rintro ⟨t,ht,h1,h2⟩
 have:=List.find?_eq_none.1 h t ht
 simp [h1,h2] at this
theorem XZ {ts:List Ti} {a b:List UInt8} {t:Ti} (hs:TS ts) (ht:t∈ts) (h1:t.a=Qs a b) (h2:t.b=Qu a b):Zn ts a b=some t:=by
 cases h:Zn ts a b with
 | none=>exact absurd ⟨t,ht,h1,h2⟩ (kV h)
 | some u =>
  obtain ⟨hu,u1,u2⟩:=Jq h
  obtain ⟨i,hi,rfl⟩:=qR.1 ht
  obtain ⟨j,hj,rfl⟩:=qR.1 hu
  rcases Nat.lt_trichotomy i j with q|q|q
  ·rcases hs.lt q hj with y|y
   ·rw [h1,u1] at y;exact absurd y (zu _)
   ·rw [h2,u2] at y;exact absurd y.2 (zu _)
  ·rw [q]
  ·rcases hs.lt q hi with y|y
   ·rw [h1,u1] at y;exact absurd y (zu _)
   ·rw [h2,u2] at y;exact absurd y.2 (zu _)
def tkd (o:Option Ti):Value:=match o with|some t=>.tuple #[.int .u8 t.k,.bool true]|none=>.tuple #[.int .u8 0,.bool false]
variable [Flag]
end Go.Proofs.Xx
namespace Go.Proofs.Xx
open Go Go.Proofs
set_option linter.unusedSimpArgs false
set_option linter.unusedVariables false
set_option linter.unusedSectionVars false
theorem xk {r:Rl} (H:RO r) {k:Int} {a b:List UInt8} (h:adj r k a b):∃ t,Zn r.ts a b=some t∧t.k=k:=by
 obtain ⟨t,h1,h2,h3⟩:=h
 have hlt:=(H.tt t h1).1
 refine ⟨t,?_,h2⟩
 rcases h3 with ⟨rfl,rfl⟩|⟨rfl,rfl⟩
 ·exact XZ H.ts h1 (QS hlt).symm (QT hlt).symm
 ·rw [VG];exact XZ H.ts h1 (QS hlt).symm (QT hlt).symm
theorem yg {r:Rl} {a b:List UInt8} {t:Ti} (h:Zn r.ts a b=some t):adj r t.k a b:=by
 obtain ⟨h1,h2,h3⟩:=Jq h
 refine ⟨t,h1,rfl,?_⟩
 by_cases q:zy b a
 ·have e1:Qs a b=b:=if_pos q
  have e2:Qu a b=a:=if_neg (zY q)
  exact .inr ⟨by rw [h3,e2],by rw [h2,e1]⟩
 ·have e1:Qs a b=a:=if_neg q
  refine .inl ⟨by rw [h2,e1],?_⟩
  rw [h3];unfold Qu
  split
  ·rfl
  ·rename_i q2
   rcases Jt q with e|e
   ·exact e
   ·exact absurd e q2
variable [Flag]
end Go.Proofs.Xx
namespace Go.Proofs.Xx
open Go Go.Proofs
set_option linter.unusedSimpArgs false
set_option linter.unusedVariables false
set_option linter.unusedSectionVars false
set_option maxRecDepth 100000
set_option maxHeartbeats 4000000
variable [Flag]
end Go.Proofs.Xx
namespace Go.Proofs.Xx
open Go Go.Proofs
set_option linter.unusedSimpArgs false
set_option linter.unusedVariables false
set_option linter.unusedSectionVars false
set_option maxRecDepth 100000
set_option maxHeartbeats 4000000
section
variable {P:Program} {X:Extern} {sz:Nat} {L L':Ks} {h h0:AH} {rs:List Rs} {ops:Array Oper} {os:List Oper} {o:Oper} {R:Ks→AH→Prop}
end
variable [Flag]
end Go.Proofs.Xx
namespace Go.Proofs.Xx
open Go Go.Proofs
set_option linter.unusedSimpArgs false
set_option linter.unusedVariables false
set_option linter.unusedSectionVars false
set_option maxRecDepth 100000
set_option maxHeartbeats 4000000
def qdx (n:List UInt8) (t:Ti):Prop:=t.a=n∨t.b=n
instance (n:List UInt8) (t:Ti):Decidable (qdx n t):=inferInstanceAs (Decidable (_∨_))
def cvN (b:Nat):Value:=.func (.func 92) #[] #[.pointer (some ⟨b,0,none⟩)]
def qd7 (n:List UInt8) (t:Ti):Bool:=!decide (qdx n t)
variable [Flag]
end Go.Proofs.Xx
namespace Go.Proofs.Xx
open Go Go.Proofs
set_option linter.unusedSimpArgs false
set_option linter.unusedVariables false
set_option linter.unusedSectionVars false
set_option maxRecDepth 100000
set_option maxHeartbeats 4000000
variable [Flag]
theorem Ko {h0 h:AH} {rs:List Rs} {v:Value} {l:List (List UInt8)} (S:Hs h0 h (.sl v 9 1 eS l :: rs)) (hl:l.length≤1000000) :
 Fn Tryz.prog Xh 76 [v] h (fun _ h'=>Hs h0 h' (.sl v 9 1 eS l.reverse :: rs)):=by
 refine zg rfl Tryz.func76 rfl rfl ?_
 all_goals (repeat' (first|refine qw ?_|refine qh rfl ?_|refine qi ?_|refine qp ?_|refine qg ?_|refine qj ?_|refine qo ?_|(refine qc 0 ?_;refine mv ?_;(first|refine jA S ?_|refine jZ S rfl rfl ?_);(first|refine sb ?_|refine vl ?_);refine mv ?_;refine mv ?_;refine qf ?_)))
 refine qM (σ:=Nat×List (List UInt8)) (fun (i,m) h'=>Hs h0 h' (.sl v 9 1 eS m :: rs)∧2*i≤l.length+1∧m.length=l.length∧(∀ k,k<l.length→m.getD k default=l.getD (if k<i∨l.length - 1 - i<k then l.length - 1 - k else k) default)) (fun (i,m)=>l.length - i) (fun (i,m)=>[(0,v),(2,.int .i64 i),(3,.int .i64 ((l.length:Int) - 1 - i))]) (0,l) (by repeat (first|exact Ks.le_nil _|refine Ks.qx rfl ?_|refine Ks.qA ?_)) ?_ ?_
 ·exact ⟨S,by omega,rfl,fun k hk=>by rw [if_neg (by omega)]⟩
 clear S
 rintro ⟨i,m⟩ h ⟨S,g1,g2,g3⟩
 all_goals (repeat' (first|refine qw ?_|refine qh rfl ?_|refine qi ?_|refine qp ?_|refine qg ?_|refine qj ?_|refine qo ?_|(refine qc 1 ?_;refine mv ?_;refine mv ?_;(first|refine cT ?_|refine cF ?_|(refine cS ?_ ?_<;>intro hc))<;>(refine qf ?_))|(refine qc 2 ?_;refine mv ?_;(first|refine ad ?_|refine vl ?_);refine mv ?_;(first|refine sb ?_|refine vl ?_);refine mv ?_;refine mv ?_;refine qf ?_)|(refine qL 3 ?_;(iterate 6 refine mv ?_);(first|refine zK S ?_|refine qC S rfl rfl ?_);(first|refine lB S rfl rfl ?_|refine qy S rfl rfl ?_|refine qU S ?_|refine lH S ?_);refine mv ?_;refine mv ?_;(first|refine zK S ?_|refine qC S rfl rfl ?_);(first|refine lB S rfl rfl ?_|refine qy S rfl rfl ?_|refine qU S ?_|refine lH S ?_);(first|refine zK S ?_|refine qC S rfl rfl ?_);(first|(refine sB S rfl rfl ?_;clear S;intro h S)|(refine zS S rfl rfl ?_;clear S;intro h S));(first|refine zK S ?_|refine qC S rfl rfl ?_);(first|(refine sB S rfl rfl ?_;clear S;intro h S)|(refine zS S rfl rfl ?_;clear S;intro h S));refine qf ?_)))
 ·have e:((l.length:Int) - 1 - (i:Int)).toNat=l.length - 1 - i:=by omega
  simp only [Int.toNat_natCast,e] at S
  have s1:∀ k,((m.set i (m.getD (l.length - 1 - i) default)).set (l.length - 1 - i) (m.getD i default)).getD k default=if k=l.length - 1 - i then m.getD i default else if k=i then m.getD (l.length - 1 - i) default else m.getD k default:=fun k=>by
   rw [jW _ _ (by simp;omega) k,jW _ _ (by omega) k]
  refine ⟨(i+1,(m.set i (m.getD (l.length - 1 - i) default)).set (l.length - 1 - i) (m.getD i default)),?_,?_,(by repeat (first|exact Ks.le_nil _|refine Ks.qx rfl ?_|refine Ks.qA ?_))⟩
  ·show l.length - (i+1)<l.length - i;omega
  ·refine ⟨S,by (try dsimp only);omega,by simp;exact g2,fun k hk=>?_⟩
   rw [s1]
   split
   ·rename_i q
    rw [g3 i (by omega),if_neg (by omega),if_pos (by omega)]
    congr 1;omega
   ·split
    ·rename_i q q2
     rw [g3 _ (by omega),if_neg (by omega),if_pos (by omega),q2]
    ·rename_i q q2
     rw [g3 k hk]
     congr 1
     split<;>split<;>omega
 ·refine ⟨_,rfl,?_⟩
  have:m=l.reverse:=QX (by simp;exact g2) fun k hk=>by
   rw [g3 k (by omega),List.getD_eq_getElem?_getD,List.getD_eq_getElem?_getD,List.getElem?_reverse (by omega)]
   congr 2
   split<;>omega
  rw [← this];exact S
end Go.Proofs.Xx
namespace Go.Proofs.Xx
open Go Go.Proofs
set_option linter.unusedSimpArgs false
set_option linter.unusedVariables false
set_option linter.unusedSectionVars false
set_option maxRecDepth 100000
set_option maxHeartbeats 4000000
def cvC (b:Nat):Value:=.func (.func 78) #[] #[.pointer (some ⟨b,0,none⟩)]
def qd8 (g:Ze) (t:List UInt8):Bool:=decide (t∈g.tg)
def qea (r:Rl) (a b:List UInt8):List (List UInt8):=match gat r.us a,gat r.us b with
 | some i,some j=>(r.us.getD i default).tg.filter fun t=>decide (t∈(r.us.getD j default).tg)
 | _,_=>[]
def spk (r:Rl) (a b:List UInt8):Prop:=∃ i j,gat r.us a=some i∧gat r.us b=some j∧∃ t,t∈(r.us.getD i default).tg∧t∈(r.us.getD j default).tg
theorem spk.symm {r:Rl} {a b:List UInt8} (h:spk r a b):spk r b a:=by
 obtain ⟨i,j,h1,h2,t,h3,h4⟩:=h
 exact ⟨j,i,h2,h1,t,h4,h3⟩
theorem spk.kn {r:Rl} {a b:List UInt8} (h:spk r a b):gat r.us a≠none∧gat r.us b≠none:=by
 obtain ⟨i,j,h1,h2,t,h3,h4⟩:=h
 rw [h1,h2];simp
variable [Flag]
end Go.Proofs.Xx
