/-
  The list of names.
-/
import Derived.Test.YtnponmgkfkdkaaaGreatDoorM15
import Derived.Test.YtnponmgkfkdkaaaGreatDoorM14
import Derived.Test.YtnponmgkfkdkaaaGreatDoorM6
import Derived.Test.YtnponmgkfkdkaaaGreatDoorM4
import Derived.Laws.IdiomRangeMap
set_option linter.unusedSimpArgs false
set_option linter.unusedVariables false
set_option linter.unusedSectionVars false
set_option maxRecDepth 100000
set_option maxHeartbeats 4000000
namespace Go.Proofs.Xx
open Go Go.Proofs
def GY (p:Pb) (x:Int):List UInt8:=(p.us.getD x.toNat default).name
noncomputable def qj6 (p:Pb) (q:List Int) (x:Int):List UInt8:=by classical exact GY p x ++ [32] ++ (if q.getD x.toNat default<0 then [45] else qd8 p.tabs (qdS p.tabs (q.getD x.toNat default)) (qgt p.tabs (q.getD x.toNat default))) ++ [10]
def NmO (p:Pb) (l:List Int):Prop:=l.Pairwise (fun x y=>jE (GY p x) (GY p y))∧∀ x,x∈l↔0≤x∧x<p.us.length
theorem NmO.uniq {p:Pb} {a b:List Int} (h:NmO p a) (g:NmO p b):a=b:=PR (lt:=fun x y=>jE (GY p x) (GY p y)) (fun x y h1 h2=>zL _ (je h1 h2)) h.1 g.1 fun x=>(h.2 x).trans (g.2 x).symm
theorem qiT {p:Pb} (hP:PO p) {x y:Int} (hx:0≤x∧x<p.us.length) (hy:0≤y∧y<p.us.length) (h:x≠y):GY p x≠GY p y:=fun e=>by
 rcases zE6 x.toNat y.toNat with r|r|r
 ·exact hP.rl.nd _ _ r (show y.toNat<p.us.length by omega) e
 ·omega
 ·exact hP.rl.nd _ _ r (show x.toNat<p.us.length by omega) e.symm
theorem NmO.len {p:Pb} {l:List Int} (h:NmO p l):l.length=p.us.length:=by
 have hp:l.Perm (upI p.us.length):=by
  refine (List.perm_ext_iff_of_nodup ?_ ?_).2 fun x=>(h.2 x).trans ⟨fun ⟨a,b⟩=>zF1.2 ⟨x.toNat,zE2.2 (by omega),by show ((x.toNat:Nat):Int)=x;omega⟩,qdA⟩
  ·exact List.nodup_iff_pairwise_ne.2 (h.1.imp fun {a b} z e=>by rw [e] at z;exact zL _ z)
  ·unfold upI;rw [List.nodup_iff_pairwise_ne,List.pairwise_map];exact (List.nodup_iff_pairwise_ne.1 List.nodup_range).imp fun {a b} z e=>z (Int.ofNat.inj e)
 rw [hp.length_eq,kY]
variable [Flag]
end Go.Proofs.Xx
namespace Go.Proofs.Xx
open Go Go.Proofs
def flR (n:Nat) (R:List Int):List Bool:=(List.range n).map fun j:Nat=>decide ((j:Int)∈R)
theorem VH:∀ {a b:List Int},a.Nodup→(∀ x∈a,x∈b)→a.length≤b.length
 | [],_,_,_=>zB0 _
 | x :: a,b,h,hs=>by
  rw [List.nodup_cons] at h;have hx:x∈b:=hs x (by simp);have:=VH (a:=a) (b:=b.erase x) h.2 fun y hy=>(List.mem_erase_of_ne (fun e=>h.1 (by rw [← e];exact hy))).2 (hs y (List.mem_cons_of_mem _ hy));rw [List.length_erase_of_mem hx] at this;have:=List.length_pos_of_mem hx;rw [zC4];omega
structure SelN (p:Pb) (R:List Int):Prop where
 pw:R.Pairwise (fun x y=>jE (GY p x) (GY p y))
 rg:∀ x∈R,0≤x∧x<p.us.length
 up:∀ x:Int,0≤x→x<p.us.length→x ∉ R→∀ y∈R,jE (GY p y) (GY p x)
theorem SelN.nd {p:Pb} {R:List Int} (h:SelN p R):R.Nodup:=List.nodup_iff_pairwise_ne.2 (h.pw.imp fun {a b} z e=>by rw [e] at z;exact zL _ z)
theorem SelN.left {p:Pb} {R:List Int} (h:SelN p R) (hl:R.length<p.us.length):∃ j:Nat,j<p.us.length∧(j:Int) ∉ R:=by
 by_cases q:∃ j:Nat,j<p.us.length∧(j:Int) ∉ R
 ·exact q
 ·exfalso
  have hall:∀ x∈upI p.us.length,x∈R:=fun x hx=>by
   by_cases c:x∈R
   ·exact c
   ·have:=qdA hx;exact absurd ⟨x.toNat,by omega,by rw [show ((x.toNat:Nat):Int)=x by omega];exact c⟩ q
  have hnd:(upI p.us.length).Nodup:=by
   unfold upI;rw [List.nodup_iff_pairwise_ne,List.pairwise_map];exact (List.nodup_iff_pairwise_ne.1 List.nodup_range).imp fun {a b} z e=>z (Int.ofNat.inj e)
  have:=VH hnd hall;rw [kY] at this;omega
theorem SelN.add {p:Pb} (hP:PO p) {R:List Int} (h:SelN p R) {b:Nat} (hb:b<p.us.length) (hn:(b:Int) ∉ R) (hm:∀ j:Nat,j<p.us.length→(j:Int) ∉ R→¬ jE (GY p j) (GY p b)):SelN p (R ++ [(b:Int)]):=by
 refine ⟨?_,fun x hx=>?_,fun x h1 h2 h3 y hy=>?_⟩
 ·rw [List.pairwise_append];refine ⟨h.pw,List.pairwise_singleton _ _,fun x hx y hy=>?_⟩;rw [zB5.1 hy];exact h.up _ (by omega) (by omega) hn x hx
 ·rcases zB8.1 hx with q|q
  ·exact h.rg x q
  ·rw [zB5.1 q];omega
 ·rw [zB8,zB5,not_or] at h3;rcases zB8.1 hy with q|q
  ·exact h.up x h1 h2 h3.1 y q
  ·rw [zB5.1 q];have e:((x.toNat:Nat):Int)=x:=by omega
   have:=hm x.toNat (by omega) (by rw [e];exact h3.1);rw [e] at this;rcases Zd (GY p b) (GY p x) with r|r|r
   ·exact r
   ·exact absurd r (qiT hP (by omega) ⟨h1,h2⟩ fun e=>h3.2 e.symm)
   ·exact absurd r this
theorem SelN.fin {p:Pb} {R:List Int} (h:SelN p R) (hl:R.length=p.us.length):NmO p R:=by
 refine ⟨h.pw,fun x=>⟨h.rg x,fun hx=>?_⟩⟩;by_cases c:x∈R
 ·exact c
 ·exfalso
  have hnd:(x :: R).Nodup:=List.nodup_cons.2 ⟨c,h.nd⟩;have:=VH (a:=x :: R) (b:=upI p.us.length) hnd fun y hy=>by
   have hr:0≤y∧y<p.us.length:=by
    rcases zE7.1 hy with rfl|q
    ·exact hx
    ·exact h.rg y q
   exact zF1.2 ⟨y.toNat,zE2.2 (by omega),by show ((y.toNat:Nat):Int)=y;omega⟩
  rw [kY,zC4] at this;omega
def qk4 (p:Pb) (R:List Int) (k:Nat) (b:Int):Prop:=(b = -1∧∀ j:Nat,j<k→(j:Int)∈R)∨∃ m:Nat,b=m∧m<k∧(m:Int) ∉ R∧∀ j:Nat,j<k→(j:Int) ∉ R→¬ jE (GY p j) (GY p m)
variable [Flag]
end Go.Proofs.Xx
namespace Go.Proofs.Xx
open Go Go.Proofs
open Classical in
noncomputable def qjV (q:List Int) (y:Int):Int:=if qaI q y then ((qgW q y:Nat):Int) else -1
noncomputable def qjd (p:Pb) (q:List Int) (t:Nat):List Int:=(List.range (zl (tb p.tabs t)).toNat).map fun k:Nat=>qjV q (sumT p.tabs t+k)
open Classical in
noncomputable def qkj (p:Pb) (k:Nat) (g:Int):List UInt8:=dgs k ++ [32] ++ (if g<0 then [45] else GY p g) ++ [10]
noncomputable def qki (p:Pb) (l:List Int) (n:Nat):List UInt8:=(List.range n).flatMap fun k=>qkj p k (l.getD k default)
noncomputable def qkh (p:Pb) (q:List Int) (t:Nat):List UInt8:=qdx ++ [32] ++ (tb p.tabs t).name ++ [10] ++ qki p (qjd p q t) (qjd p q t).length
variable [Flag]
end Go.Proofs.Xx
namespace Go.Proofs.Xx
open Go Go.Proofs
variable [Flag]
end Go.Proofs.Xx
namespace Go.Proofs.Xx
open Go Go.Proofs
section
variable {l m:List Tab} (h:l.map (·.toC)=m.map (·.toC))
include h
end
end Go.Proofs.Xx
namespace Go.Proofs.Xx
open Go
section
variable {P:Program} {X:Extern} {inR:Bool} {sz:Nat} {L:Ks} {h:AH} {Q:KQ} {ops:Array Oper} {i:Nat} {o:Oper} {os:List Oper}
def KOY (P:Program) (X:Extern) (sz:Nat) (ops:Array Oper) (F:Nat→Tr Value→AH→AH→Prop) (i:Nat) (os:List Oper) (L:Ks) (h:AH) (R:Ks→AH→Prop):Prop :=
 ∀ t,Kn t L→∃ n l t' h',ZR P X (exec P X n) sz ops [] false i os t h=some (l,t',h')∧(∀ k o,os[k]? = some o→∃ s,l[k]? = some s∧(s.go=true→qp ops s.t o.guard=some true)∧F (i+k) s.t s.h (hpAt l h' (k+1))∧(qG ops [] (i+k)=false→hpAt l h' (k+1)=s.h))∧hpAt l h' 0=h∧∃ L',Kn t' L'∧R L' h'
variable {F:Nat→Tr Value→AH→AH→Prop}
theorem qh4 {R:Ks→AH→Prop} (hq:R L h):KOY P X sz ops F i [] L h R:=fun t hk=>⟨0,[],t,h,rfl,fun k o ho=>by simp at ho,rfl,L,hk,hq⟩
theorem Qi {R:Ks→AH→Prop} (w:KO P X sz ops [o] L h (fun L' h'=>((∀ t,Kn t L→F i t h h')∧(qG ops [] i=false→h'=h))∧KOY P X sz ops F (i+1) os L' h' R)):KOY P X sz ops F i (o :: os) L h R:=fun t hk=>by
 obtain ⟨n,t1,h1,e1,L',k1,⟨sf,sx⟩,w2⟩:=w t hk;obtain ⟨n2,l,t2,h2,e2,g2,z2,L2,k2,q2⟩:=w2 t1 k1;have hx:=sf t hk;have M:=X8 (P:=P) (X:=X) (QC (P:=P) (X:=X) (Nat.le_max_right n n2)) (sz:=sz) (ops:=ops) (ids:=[]) (pl:=false) os (i+1) t1 h1 _ e2;have e3:=ZL (P:=P) (X:=X) (QC (P:=P) (X:=X) (Nat.le_max_left n n2)) (sz:=sz) (ops:=ops) [o] t h _ e1;have key:∀ (go:Bool) (v:Value),(go=true→qp ops t o.guard=some true)→∀ k o',(o :: os)[k]? = some o'→∃ s,((⟨t,h,go,v⟩:zH) :: l)[k]? = some s∧(s.go=true→qp ops s.t o'.guard=some true)∧F (i+k) s.t s.h (hpAt ((⟨t,h,go,v⟩:zH) :: l) h2 (k+1))∧(qG ops [] (i+k)=false→hpAt ((⟨t,h,go,v⟩:zH) :: l) h2 (k+1)=s.h):=by
  intro go v hgo k o' ho;cases k with
  | zero =>
   simp only [List.getElem?_cons_zero,Option.some.injEq] at ho;subst ho;refine ⟨_,rfl,hgo,?_⟩;have:hpAt ((⟨t,h,go,v⟩:zH) :: l) h2 (0+1)=h1:=by rw [← z2];simp [hpAt]
   rw [this];exact ⟨hx,sx⟩
  | succ k =>
   simp only [zH4] at ho;obtain ⟨s,s1,s2,s3⟩:=g2 k o' ho;refine ⟨s,by simpa using s1,s2,?_⟩;have:hpAt ((⟨t,h,go,v⟩:zH) :: l) h2 (k+1+1)=hpAt l h2 (k+1):=by simp [hpAt]
   rw [this,show i+(k+1)=i+1+k by omega];exact s3
 simp only [XB] at e3;split at e3
 ·rename_i hg
  split at e3
  ·rename_i v h3 ho
   split at e3
   ·rename_i t3 hp
    cases e3
    exact ⟨max n n2,⟨t,h,true,v⟩ :: l,t2,h2,by simp only [ZR,hg,stepD,Qk,ho,hp,M,JR],key true v (fun _=>hg),rfl,L2,k2,q2⟩
   ·cases e3
  ·cases e3
 ·rename_i hg
  split at e3
  ·rename_i t3 hp
   cases e3
   exact ⟨max n n2,⟨t,h,false,.tuple #[]⟩ :: l,t2,h2,by simp only [ZR,hg,hp,M,JR],key false _ (fun q=>by cases q),rfl,L2,k2,q2⟩
  ·cases e3
 ·cases e3
theorem qgm {id:Nat} (j a c:Nat) (F:Nat→Tr Value→AH→AH→Prop) (w:KOY P X sz ops F 0 ops.toList L h (Q .norm))
 (hv:∀ (t:Tr Value) (k m1 m2:AH) (o:Oper),ops[j]? = some o→F j t k m1→(∀ t' k',F a t' k' m2→k'=k→∃ v,ja P t k o.op=some (.val v k)∧∃ u,ja P t m2 o.op=some (.val v u)))
 (hord:(Nat.blt j a && (Nat.blt a c && Nat.blt c ops.size))=true:=by decide +kernel)
 (hch:((List.range ops.size).all fun q=>qG ops [] q == (Nat.beq q a || Nat.beq q c))=true:=by decide +kernel)
 (hd:kK ops [] [(j,0,1)]=true:=by decide +kernel):K P X inR sz (.region id ops true) L h Q:=fun t hk=>by
 obtain ⟨n,l,t',h',hl,hg,hz,L',hk',hq⟩:=w t hk;rw [zA8,zA8,Nat.blt_eq,Nat.blt_eq,Nat.blt_eq] at hord;obtain ⟨o1,o2,o3⟩:=hord;rw [zC8] at hch;have chain:∀ q,q<ops.size→(qG ops [] q=true↔q=a∨q=c):=fun q hq=>by
  have:=hch q (zE2.2 hq);rw [beq_iff_eq] at this;rw [this,zG8];refine ⟨fun z=>z.imp zA6 zA6,fun z=>?_⟩;rcases z with rfl|rfl
  ·exact .inl (by simp)
  ·exact .inr (by simp)
 unfold kK at hd;rw [zA8,zA8,zC8] at hd;obtain ⟨⟨hp,hf⟩,hs⟩:=hd;have hf:XP ops (masks ops.toList [])=[]:=by simpa using hf
 obtain ⟨q1,q2,q3,q4⟩:=JH ops.toList 0 t h l t' h' hl;have hgo:∀ q (hq:q<ops.size),∃ s,l[q]? = some s∧hpAt l h' q=s.h∧F q s.t s.h (hpAt l h' (q+1))∧(qG ops [] q=false→hpAt l h' (q+1)=s.h):=fun q hq=>by
  obtain ⟨s,s1,_,s3,s4⟩:=hg q ops[q] (by rw [zC1];exact zE1 hq);rw [zG1] at s3 s4;exact ⟨s,s1,by unfold hpAt;rw [s1],s3,s4⟩
 have same:∀ p q,p≤q→q≤ops.size→(∀ x,p≤x→x<q→x≠a∧x≠c)→hpAt l h' q=hpAt l h' p:=by
  intro p q hpq;induction hpq with
  | refl=>intro _ _;rfl
  | @step m hm ih =>
   intro hle hx;rw [← ih (by omega) fun x x1 x2=>hx x x1 (by omega)];obtain ⟨s,s1,s2,s3,s4⟩:=hgo m (by omega);have hne:=hx m hm (by omega);have hcf:qG ops [] m=false:=by
    cases e:qG ops [] m with
    | false=>rfl
    | true=>have:=(chain m (by omega)).1 e;omega
   rw [s4 hcf,s2]
 have hopd:JJ P X (exec P X n) sz ops (masks ops.toList []) [] [] t h=some (t',h'):=by
  unfold JJ;rw [hl];simp only;split
  ·rfl
  ·rw [if_pos];intro x hx hc o s ho hs' hgo' hcalm m k hm hfar;have h1:=hs x (zE2.2 hx);rw [hc,Bool.false_or] at h1;have hjx:x=j:=by
    by_cases e:x=j
    ·exact e
    ·exfalso
     have hw:Xr [(j,0,1)] x=none:=by
      unfold Xr;have:Nat.beq j x=false:=by
       cases q:Nat.beq j x with
       | false=>rfl
       | true=>exact absurd (zA6 q).symm e
      rw [this];rfl
     rw [hw] at h1;simp only [ho,zA8,zG3] at h1;have h2:=h1.2;unfold XW at hcalm h2;simp only [Qk] at hcalm h2;rw [h2] at hcalm;cases hcalm
   subst hjx;have hw:Xr [(x,0,1)] x=some (0,1):=by unfold Xr;rw [show Nat.beq x x=true by simp]
   rw [hw] at h1;simp only [zA8,zC8,zG8] at h1;obtain ⟨⟨a1,a2⟩,a3⟩:=h1;have hmems:(List.range ops.size).filter (qG ops [])=[a,c]:=by
    have key:∀ N,N≤ops.size→(List.range N).filter (qG ops [])=(if a<N then [a] else []) ++ (if c<N then [c] else []):=by
     intro N;induction N with
     | zero=>intro _;rfl
     | succ N ih =>
      intro hN;rw [List.range_succ,zD1,ih (by omega)];have cN:=chain N (by omega);cases e:qG ops [] N with
      | false =>
       have:¬ (N=a∨N=c):=fun z=>by rw [cN.2 z] at e;cases e
       rw [zD7,e];simp only [zD8,if_false,List.filter_nil,zD6];have ea:(if a<N+1 then [a] else [])=(if a<N then [a] else []):=by
        by_cases z:a<N
        ·rw [if_pos z,if_pos (by omega)]
        ·rw [if_neg z,if_neg (by omega)]
       have ec:(if c<N+1 then [c] else [])=(if c<N then [c] else []):=by
        by_cases z:c<N
        ·rw [if_pos z,if_pos (by omega)]
        ·rw [if_neg z,if_neg (by omega)]
       rw [ea,ec]
      | true =>
       rw [zD7,e];simp only [if_true,List.filter_nil];rcases cN.1 e with r|r
       ·subst r;rw [if_neg (by omega),if_neg (by omega),if_pos (by omega),if_neg (by omega)];rfl
       ·subst r;rw [if_pos (by omega),if_neg (by omega),if_pos (by omega),if_pos (by omega)];rfl
    rw [key ops.size (zA3 _),if_pos (by omega),if_pos o3];rfl
   obtain ⟨s0,e0,eh0,eF,-⟩:=hgo x hx;rw [hs'] at e0;cases e0
   obtain ⟨s3,e3,sf⟩:=q4 x o (by rw [zC1];exact ho);rw [hs'] at e3;cases e3
   have hsv:=sf.2.2.1 hgo';simp only [stepD,zG1,Qk] at hsv;obtain ⟨sa,ea,eha,eFa,-⟩:=hgo a (by omega);have hax:sa.h=s.h:=by rw [← eha,← eh0,same x a (by omega) (by omega) fun y y1 y2=>by omega]
   obtain ⟨v,v1,u,v2⟩:=hv s.t s.h _ _ o ho eF sa.t sa.h eFa hax;have hvv:s.v=v:=by
    unfold yg at hsv;rw [v1] at hsv;exact (Prod.mk.inj (Option.some.inj hsv)).1.symm
   unfold OkAtP;simp only [Qk];rw [hvv];have hm1:m≤1:=by
    have hml:m<((List.range ops.size).filter (qG ops [])).length+1:=by
     have:=(zD5.1 hm).1;simpa using this
    have:=a3 m (zE2.2 hml);rw [hfar] at this;rcases this with q|q
    ·cases q
    ·exact zB6 q.2
   rw [hmems] at hm;match m,hm1,hm with
   | 0,_,hm =>
    simp only [List.getElem?_cons_zero,Option.some.injEq] at hm;subst hm;have:h=s.h:=by rw [← eh0,same 0 x (zB0 _) (by omega) fun y y1 y2=>by omega,q2]
    rw [this];exact ⟨_,v1⟩
   | 1,_,hm =>
    simp only [List.map_cons,zH4,List.getElem?_cons_zero,Option.some.injEq] at hm;subst hm;exact ⟨_,v2⟩
 refine ⟨n+1,_,_,_,?_,L',hk',hq⟩;rw [Qo];simp only [zD];have:WN P X (exec P X n) sz ops t h=some (t',h'):=by
  unfold WN;simp only [hf,hp];exact hopd
 rw [this]
end
def kvL (x:Di):List Value:=[.int .i64 (x.tt:Int),str x.d,.int .i64 0]
abbrev Jv (x:Di):Value:=.agg (kvL x).toArray
def zX (x y:Di):Prop:=x.tt=y.tt∧x.d=y.d
instance (x y:Di):Decidable (zX x y):=by unfold zX;exact inferInstance
theorem xh (x y:Di):zN Tryz.prog 50 (kvL x) (kvL y)=some (decide (zX x y)):=by
 have e:zN Tryz.prog 50 (kvL x) (kvL y)=some (((x.tt:Int) == (y.tt:Int)) && (zA ⟨x.d.toArray⟩ ⟨y.d.toArray⟩ && (((0:Int) == 0) && true))):=by kernel_rfl
 rw [e];congr 1
 rw [Bool.eq_iff_iff,decide_eq_true_eq];unfold zX zA;simp only [zA8,beq_iff_eq,and_true,beq_self_eq_true];constructor
 ·rintro ⟨a,b⟩;exact ⟨by omega,by simpa using b⟩
 ·rintro ⟨a,b⟩;exact ⟨by omega,by simpa using b⟩
def JQ (l:List Di):List (Value×Value×Nat):=(List.range l.length).map fun i=>(Jv (l.getD i default),.int .i64 (l.getD i default).n,i)
theorem Qc {l:List Di}:(JQ l).length=l.length:=by unfold JQ;simp
theorem Xl {l:List Di} {i:Nat} (hi:i<l.length):(JQ l)[i]? = some (Jv (l.getD i default),.int .i64 (l.getD i default).n,i):=by
 unfold JQ;rw [zH8,List.getElem?_range hi];rfl
theorem yL {l:List Di} {x:Di}:JQ (l ++ [x])=JQ l ++ [(Jv x,.int .i64 x.n,l.length)]:=by
 unfold JQ;rw [zB2,List.length_singleton,List.range_succ,zC9];congr 1
 ·apply List.map_congr_left
  intro i hi;have hi:=zE2.1 hi;rw [show (l ++ [x]).getD i default=l.getD i default by rw [zA2,zA2,zH7 hi]]
 ·rw [List.map_cons,List.map_nil,show (l ++ [x]).getD l.length default=x by simp [zA2]]
def YJ (x:Di):List Di→Nat→Option Nat
 | [],_=>none
 | y :: l,i=>if zX x y then some i else YJ x l (i+1)
theorem Zl {x:Di}:∀ {l:List Di} {i k:Nat},YJ x l i=some k→i≤k∧k - i<l.length∧zX x (l.getD (k - i) default)
 | [],i,k,h=>by cases h
 | y :: l,i,k,h=>by
  unfold YJ at h;split at h
  ·rename_i q
   cases h
   exact ⟨zA3 _,by simp,by rw [zG6];exact q⟩
  ·obtain ⟨a,b,c⟩:=Zl h;refine ⟨by omega,by simp;omega,?_⟩;rw [show k - i=(k - (i+1))+1 by omega];exact c
theorem Vg {x:Di}:∀ {l:List Di} {i:Nat},YJ x l i=none→∀ y∈l,¬ zX x y
 | [],i,h,y,hy=>by cases hy
 | z :: l,i,h,y,hy=>by
  unfold YJ at h;split at h
  ·cases h
  ·rename_i q
   rcases zE7.1 hy with rfl|r
   ·exact q
   ·exact Vg h y r
theorem qbY {x:Di}:∀ (l:List Di) (es:List (Value×Value×Nat)) (i:Nat),es.map (fun e=>(e.1,e.2.1))=l.map (fun y=>(Jv y,Value.int .i64 y.n)) →
 JA Tryz.prog 50 (kvL x) es i=some ((YJ x l i).map fun k=>(k,.int .i64 (l.getD (k - i) default).n))
 | [],[],i,_=>rfl
 | [],e :: es,i,h=>by cases h
 | y :: l,[],i,h=>by cases h
 | y :: l,e :: es,i,h=>by
  simp only [List.map_cons,List.cons.injEq,Prod.mk.injEq] at h;obtain ⟨⟨h1,h2⟩,h3⟩:=h;unfold JA;rw [h1];simp only [xh];by_cases q:zX x y
  ·simp only [q,decide_true];unfold YJ;rw [if_pos q,h2];simp
  ·simp only [q,decide_false];have ek:YJ x (y :: l) i=YJ x l (i+1):=by rw [YJ,if_neg q]
   rw [qbY l es (i+1) h3,ek];cases hk:YJ x l (i+1) with
   | none=>rfl
   | some k =>
    have:=(Zl hk).1;simp only [Option.map_some];rw [show k - i=(k - (i+1))+1 by omega];rfl
theorem qfT {l:List Di}:(JQ l).map (fun e=>(e.1,e.2.1))=l.map (fun y=>(Jv y,Value.int .i64 y.n)):=by
 apply List.ext_getElem?
 intro i;rcases zA7 i l.length with r|r
 ·rw [zH8,Xl r,zH8,zA4 r];have:l.getD i default=l[i]:=by rw [zA2,zA4 r];rfl
  rw [this];rfl
 ·rw [zG5 (by simp [Qc];omega),zG5 (by simp;omega)]
theorem PX {x:Di} {l:List Di}:JA Tryz.prog 50 (kvL x) (JQ l) 0=some ((YJ x l 0).map fun k=>(k,.int .i64 (l.getD k default).n)):=qbY l (JQ l) 0 qfT
def Zw (l:List Di) (x:Di):List Di:=match YJ x l 0 with
 | some k=>l.set k ⟨(l.getD k default).t,(l.getD k default).d,(l.getD k default).n+1⟩
 | none=>l ++ [⟨x.t,x.d,1⟩]
def XC (l:List Di) (x:Di):Int:=match YJ x l 0 with
 | some k=>(l.getD k default).n
 | none=>0
theorem qce {l:List Di} {x:Di} {k:Nat} (hk:YJ x l 0=some k):(JQ l).modify k (fun e=>(e.1,.int .i64 ((l.getD k default).n+1),e.2.2))=JQ (Zw l x)∧(JQ l).modify k (fun e=>(Jv x,e.2))=JQ l:=by
 obtain ⟨-,h1,h2⟩:=Zl hk;rw [Nat.sub_zero] at h1 h2;have hkv:Jv x=Jv (l.getD k default):=by
  unfold Jv kvL;rw [h2.1,h2.2]
 constructor
 ·unfold Zw;rw [hk];apply List.ext_getElem?
  intro i;rw [List.getElem?_modify];rcases zA7 i l.length with r|r
  ·rw [Xl r,Xl (by simpa using r)];by_cases e:k=i
   ·subst e;have:(l.set k ⟨(l.getD k default).t,(l.getD k default).d,(l.getD k default).n+1⟩).getD k default=⟨(l.getD k default).t,(l.getD k default).d,(l.getD k default).n+1⟩:=by simp [zA2,r]
    rw [this];simp [Jv,kvL]
   ·have:(l.set k ⟨(l.getD k default).t,(l.getD k default).d,(l.getD k default).n+1⟩).getD i default=l.getD i default:=by simp [zA2,List.getElem?_set,e]
    rw [this];simp [e]
  ·rw [zG5 (by simp [Qc];omega),zG5 (by simp [Qc];omega)];simp
 ·apply List.ext_getElem?
  intro i;rw [List.getElem?_modify];rcases zA7 i l.length with r|r
  ·rw [Xl r];by_cases e:k=i
   ·subst e;simp [hkv]
   ·simp [e]
  ·rw [zG5 (by simp [Qc];omega)];simp
section
variable {X:Extern} {sz:Nat} {L:Ks} {h h0:AH} {rs:List Rs} {ops:Array Oper} {os:List Oper} {o:Oper} {R:Ks→AH→Prop}
theorem Hs.qgy {b c c2:Nat} {es es2:List (Value×Value×Nat)} (S:Hs h0 h (KD b es c :: rs)):Hs h0 (h.put b (.map es2 c2)) (KD b es2 c2 :: rs):=by
 obtain ⟨fp,k1,k2⟩:=At.here.ok S.sep;obtain ⟨g1,g2⟩:=k1 h fun _ _=>rfl;have g3:=fun j (hj:fp j)=>k2 j hj;refine S.turn .here (zA3 _) (S.wf.put (g3 b g2).2.1 _) fun fq q1 q2=>?_;obtain ⟨g4,g5⟩:=q1 h fun _ _=>rfl;exact ⟨fun j _ hj=>by rw [AH.get_put,if_neg];intro q;subst q;exact hj g5,fq,fun h' q=>⟨by rw [q b g5,AH.get_put,if_pos rfl],g5⟩,fun j hj=>⟨(q2 j hj).2,.inl hj⟩⟩
theorem Hs.mkG {b c:Nat} {es:List (Value×Value×Nat)} (S:Hs h0 h (KD b es c :: rs)):h.get b=some (.map es c):=(S.qe5 .here).choose_spec.1
theorem qa7 {b c:Nat} {l:List Di} {x:Di} {h:AH} (hg:h.get b=some (.map (JQ l) c)):Qg Tryz.prog 95 (.map (some b)) (Jv x) false h=none∧Qy Tryz.prog 95 (.map (some b)) (Jv x) false h=some (.int .i64 (XC l x)):=by
 constructor
 ·unfold Qg;rw [show Vb Tryz.prog 95 (Jv x)=none by kernel_rfl]
 ·unfold Qy;rw [show PG Tryz.prog 95 (Jv x)=some (50,3) by
   have e:=xh x x;have e2:decide (zX x x)=true:=by simp [zX]
   rw [e2] at e;unfold PG;rw [show Tryz.prog.underlying 95=some (.map 50 3) by kernel_rfl];simp only [Jv];rw [e]]
  have hM:Zx (.map (some b)) h=some (JQ l):=by unfold Zx;simp only [hg]
  rw [hM];simp only [show (Jv x).cells.toList=kvL x from rfl,PX];unfold XC;cases YJ x l 0 with
  | none=>rfl
  | some k=>rfl
end
def xW (l:List Di) (x:Di):Nat:=match YJ x l 0 with|some k=>k|none=>l.length
def ZH (l:List Di) (x:Di):List Di:=match YJ x l 0 with|some _=>l|none=>l ++ [⟨x.t,x.d,0⟩]
theorem qbS {x y:Di} (hs:zX x y):∀ {l:List Di} {i:Nat},YJ x l i=none→YJ x (l ++ [y]) i=some (i+l.length)
 | [],i,_=>by rw [zC0,YJ,if_pos hs];rfl
 | z :: l,i,h=>by
  have hn:¬ zX x z:=Vg h z (by simp);rw [YJ,if_neg hn] at h;rw [zC6,YJ,if_neg hn,qbS hs h,zC4];congr 1;omega
theorem qf3 {l:List Di} {x:Di}:XC (ZH l x) x=XC l x:=by
 unfold ZH;cases hk:YJ x l 0 with
 | some k=>rfl
 | none =>
  simp only;unfold XC;rw [hk,qbS (x:=x) (y:=⟨x.t,x.d,0⟩) ⟨rfl,rfl⟩ hk];simp [zA2]
theorem qhm (x:Di):PG Tryz.prog 95 (Jv x)=some (50,3):=by
 have e:=xh x x;have e2:decide (zX x x)=true:=by simp [zX]
 rw [e2] at e;unfold PG;rw [show Tryz.prog.underlying 95=some (.map 50 3) by kernel_rfl];simp only [Jv];rw [e]
theorem qfU {b:Nat} {l:List Di} {x:Di} {h:AH} (hg:h.get b=some (.map (JQ l) l.length)):JV Tryz.prog 95 (.map (some b)) (Jv x) h=none ∧
 ZZ Tryz.prog 95 (.map (some b)) (Jv x) h=some (.tuple #[.int .i64 (XC l x),.int .i64 (xW l x:Nat)],h.put b (.map (JQ (ZH l x)) (ZH l x).length)):=by
 constructor
 ·unfold JV;rw [show Vb Tryz.prog 95 (Jv x)=none by kernel_rfl]
 ·unfold ZZ;rw [qhm];simp only [hg,show (Jv x).cells.toList=kvL x from rfl,PX];unfold XC xW ZH;cases hk:YJ x l 0 with
  | some k =>
   have h1:=(Zl hk).2.1;rw [Nat.sub_zero] at h1;simp only [Option.map_some,Xl h1,(qce hk).2]
  | none =>
   simp only [Option.map_none,show zeroV Tryz.prog 3=some (.int .i64 0) by kernel_rfl];rw [yL];simp [Jv,kvL]
theorem qfu {b:Nat} {l:List Di} {x:Di} {h:AH} (hg:h.get b=some (.map (JQ (ZH l x)) (ZH l x).length)):Zp (.map (some b)) (.int .i64 (xW l x:Nat)) (.int .i64 (XC l x+1)) h=some (h.put b (.map (JQ (Zw l x)) (Zw l x).length)):=by
 unfold Zp;simp only [hg];have hpos:xW l x<(ZH l x).length:=by
  unfold xW ZH;cases hk:YJ x l 0 with
  | some k=>have:=(Zl hk).2.1;simpa using this
  | none=>simp
 have hfi:(JQ (ZH l x)).findIdx? (fun e=>decide ((e.2.2:Int)=(xW l x:Nat)))=some (xW l x):=by
  rw [List.findIdx?_eq_some_iff_getElem];refine ⟨by rw [Qc];exact hpos,?_,fun j hj=>?_⟩
  ·have:=Xl hpos;rw [zA4 (by rw [Qc];exact hpos)] at this;rw [Option.some.inj this];simp
  ·have:=Xl (show j<(ZH l x).length by omega);rw [zA4 (by rw [Qc];omega)] at this;rw [Option.some.inj this];simp;omega
 rw [hfi];simp only;congr 2
 have hlen:(Zw l x).length=(ZH l x).length:=by
  unfold Zw ZH;cases hk:YJ x l 0 with
  | some k=>simp
  | none=>simp
 rw [hlen];congr 1
 unfold XC xW ZH;cases hk:YJ x l 0 with
 | some k=>exact (qce hk).1
 | none =>
  simp only;unfold Zw;rw [hk];simp only;rw [yL,yL];apply List.ext_getElem?
  intro i;rw [List.getElem?_modify];rcases zE6 i l.length with r|r|r
  ·rw [zH7 (by rw [Qc];exact r),zH7 (by rw [Qc];exact r)];simp [show ¬ l.length=i by omega]
  ·subst r;rw [List.getElem?_append_right (by rw [Qc];omega),List.getElem?_append_right (by rw [Qc];omega),Qc];simp [Jv,kvL]
  ·rw [zG5 (by simp [Qc];omega),zG5 (by simp [Qc];omega)];simp
def FD (mb:Nat) (kv:Value) (es es2:List (Value×Value×Nat)) (c c2:Nat):Nat→Tr Value→AH→AH→Prop
 | 9,t,h,_=>t.get 27=some (.map (some mb))∧t.get 35=some kv∧h.get mb=some (.map es c)
 | 11,_,_,h'=>h'.get mb=some (.map es2 c2)
 | _,_,_,_=>True
end Go.Proofs.Xx
namespace Go.Proofs.Xx
open Go
section
variable {P:Program}
theorem run_next_at (w:World) (ty:TypeId) (I bm since c0:Nat) (seen:Array Nat) (es:Array MapEntry) (clock:Nat) (hI:w.heap[I]? = some (.mapIter (some bm) since seen c0)) (hb:w.heap[bm]? = some (.map es clock)) (hold:∀ x∈es.toList,x.born<since) (hsc:since≤c0) :
 ((leftOf es seen).size=0∧(Instr.next (.pointer (some ⟨I,0,none⟩)) false ty).run P w = .ok (.tuple #[.bool false]) w) ∨
 ∃ e∈(leftOf es seen).toList,∃ w1:World,w1.Alike w∧w1.tape=w.tape∧(Instr.next (.pointer (some ⟨I,0,none⟩)) false ty).run P w = .ok (.tuple #[.bool true,e.key,e.val]) { w1 with heap:=w1.heap.setIfInBounds I (.mapIter (some bm) since (seen.push e.born) clock) }:=by
 simp only [Instr.next,getObj,zA5,Sem.run,hI,hb,Result.andThen,next_test_false seen es since c0 hold hsc,zD8,if_false];unfold leftOf;have hmem:∀ x∈(Array.filter (fun e=>!seen.contains e.born) es).toList,x.born<since:=fun x hx=>hold x (by simp at hx ⊢;exact hx.1);generalize Array.filter (fun e=>!seen.contains e.born) es=L at hmem ⊢
 have e1:L.filter (fun x=>decide (x.born<since))=L:=Array.filter_eq_self.2 (fun x hx=>by simpa using hmem x (by simpa using hx));have e2:L.filter (fun x=>decide (x.born≥since))=#[]:=by
  rw [Array.filter_eq_empty_iff];intro x hx;have:=hmem x (by simpa using hx);simp
  omega
 simp only [e1,e2,Array.append_empty];by_cases h0:L.size=0
 ·left
  have:L=#[]:=Array.eq_empty_of_size_eq_zero h0;subst this;refine ⟨rfl,?_⟩;simp [choose,Sem.run,Question.forced]
 ·right
  have hne:L.isEmpty=false:=by simp [Array.isEmpty,h0]
  simp only [hne,zD8,if_false,Array.empty_append,Array.size_map];have hch:∃ (j:Nat) (w1:World),j<L.size∧w1.Alike w∧w1.tape=w.tape∧(choose (Question.mapNext L.size)).run P w = .ok j w1:=by
   by_cases hf:L.size≤1
   ·exact ⟨0,w,by omega,⟨rfl,rfl,rfl⟩,rfl,by simp [choose,Sem.run,Question.forced,hf]⟩
   ·exact ⟨_,w.drew,Nat.mod_lt _ (by omega),⟨rfl,rfl,rfl⟩,rfl,by
     simp only [choose,Sem.run,Question.forced,decide_eq_true_eq,hf,if_false,Question.cut];rfl⟩
  obtain ⟨j,w1,hj,hal,htp,hrun⟩:=hch;refine ⟨L[j],by simp,w1,hal,htp,?_⟩;have hset:∀ (o':Obj),(setObj I o').run P w1 = .ok () { w1 with heap:=w1.heap.setIfInBounds I o' }:=fun o'=>by
   simp only [setObj,Sem.run,hal.1,hI]
  simp only [hrun,Array.getElem?_map,zE1 hj,Option.map_some,zA5,hset,Result.andThen];rfl
theorem run_entry_at (w:World) (I bm since:Nat) (seen:Array Nat) (es:Array MapEntry) (clock:Nat) (e:MapEntry) (hI:w.heap[I]? = some (.mapIter (some bm) since (seen.push e.born) clock)) (hb:w.heap[bm]? = some (.map es clock)) (he:e∈es.toList) (hn:(es.toList.map (·.born)).Nodup) :
 (Instr.entry (.pointer (some ⟨I,0,none⟩))).run P w = .ok (.tuple #[e.key,e.val]) w:=by
 have hf:es.find? (·.born == e.born)=some e:=by rw [← Array.find?_toList];exact find_born e es.toList hn he
 simp only [Instr.entry,getObj,zA5,Sem.run,hI,hb,Result.andThen,Array.back?_push,bne_self_eq_false,zD8,if_false,hf];rfl
end
end Go.Proofs.Xx
namespace Go.Proofs.Xx
open Go
def pq:Nat→Code→Code
 | 0,.seq a _=>a
 | n+1,.seq a b=>.seq a (pq n b)
 | _,c=>c
def kJ:Nat→Code→Option Code
 | 0,.seq _ b=>some b
 | n+1,.seq _ b=>kJ n b
 | _,_=>none
theorem TR.kn {f:Emb} {sz:Nat} {t:Tr Value} {L:Ks} {tm:Array Value} (T:TR f sz t tm) (k:Kn t L):TR f sz L.tree tm:=⟨T.1,fun i v hv=>T.2 i v (k i v (by rw [← Ks.jH];exact hv))⟩
def nK (R:Ks→AH→Prop):KQ
 | .norm,L,h=>R L h
 | _,_,_=>False
def rK (R:Ks→AH→Prop):KQ
 | .ret,L,h=>R L h
 | _,_,_=>False
section
variable {P:Program}
theorem pg [Glob] {X:Extern} (hX:∀ N,Z4 P (exec P X N)) {sz:Nat} {fn:FuncId}:∀ (m:Nat) (c d:Code) (N:Nat) (t:Tr Value) (h:AH) (t':Tr Value) (h':AH) (B:Bs) (e:Emb) (w:World) (tm:Array Value),kJ m c=some d→exec P X N true sz (pq m c) t h=some (.norm,t',h')→Rel B e h w→TR e sz t tm →
 ∃ e' w' tm',Rel B e' h' w'∧Turn e h w e' h' w'∧TR e' sz t' tm'∧∀ ds k cs,Steps P (lone (fr fn none tm (.code c :: k) ds) cs w) (lone (fr fn none tm' (.code d :: k) ds) cs w')
 | 0,c,d,N,t,h,t',h',B,e,w,tm,hd,hx,r,T=>by
  cases c with
  | seq a b =>
   cases hd
   obtain ⟨e',w',tm',dn,q1,q2,q3,-,q4,q5⟩:=hX N true sz a t h .norm t' h' hx B e w tm fn none r T (fun q=>by cases q);obtain rfl:=q4 rfl;exact ⟨e',w',tm',q1,q2,q3,fun ds k cs=>.head Jr (q5 ds (.code d :: k) cs)⟩
  | _=>cases hd
 | m+1,c,d,N,t,h,t',h',B,e,w,tm,hd,hx,r,T=>by
  cases c with
  | seq a b =>
   have hd:kJ m b=some d:=hd;have hx:exec P X N true sz (.seq a (pq m b)) t h=some (.norm,t',h'):=hx;cases N with
   | zero=>cases hx
   | succ N =>
    rw [Qo] at hx;unfold zD at hx;simp only at hx;cases ha:exec P X N true sz a t h with
    | none=>rw [ha] at hx;cases hx
    | some q =>
     obtain ⟨x,t1,h1⟩:=q;rw [ha] at hx;cases x with
     | norm =>
      obtain ⟨e1,w1,tm1,dn,q1,q2,q3,-,q4,q5⟩:=hX N true sz a t h .norm t1 h1 ha B e w tm fn none r T (fun q=>by cases q);obtain rfl:=q4 rfl;obtain ⟨e2,w2,tm2,p1,p2,p3,p4⟩:=pg hX m b d N t1 h1 t' h' B e1 w1 tm1 hd hx q1 q3;exact ⟨e2,w2,tm2,p1,q2.trans p2 r.dom,p3,fun ds k cs=>.head Jr (Steps.trans (q5 ds (.code b :: k) cs) (p4 ds k cs))⟩
     | exit id=>cases hx
     | ret=>cases hx
  | _=>cases hd
theorem qhZ [Glob] {X:Extern} (hX:∀ N,Z4 P (exec P X N)) {sz:Nat} {fn:FuncId} {m:Nat} {c d:Code} {L:Ks} {h:AH} {R:Ks→AH→Prop} (hk:K P X true sz (pq m c) L h (nK R)) (hd:kJ m c=some d) {B:Bs} {e:Emb} {w:World} {tm:Array Value} (r:Rel B e h w) (T:TR e sz L.tree tm) :
 ∃ e' w' tm' L' h',Rel B e' h' w'∧Turn e h w e' h' w'∧TR e' sz L'.tree tm'∧R L' h'∧∀ ds k cs,Steps P (lone (fr fn none tm (.code c :: k) ds) cs w) (lone (fr fn none tm' (.code d :: k) ds) cs w'):=by
 obtain ⟨N,x,t',h',hx,L',k1,k2⟩:=hk L.tree (Kn.tree L);cases x with
 | norm =>
  obtain ⟨e',w',tm',q1,q2,q3,q4⟩:=pg hX m c d N _ _ _ _ B e w tm hd hx r T;exact ⟨e',w',tm',L',h',q1,q2,q3.kn k1,k2,q4⟩
 | exit id=>cases k2
 | ret=>cases k2
theorem qh1 [Glob] {X:Extern} (hX:∀ N,Z4 P (exec P X N)) {sz:Nat} {fn:FuncId} {c:Code} {L:Ks} {h:AH} {R:Ks→AH→Prop} (hk:K P X true sz c L h (nK R)) {B:Bs} {e:Emb} {w:World} {tm:Array Value} (r:Rel B e h w) (T:TR e sz L.tree tm) :
 ∃ e' w' tm' L' h',Rel B e' h' w'∧Turn e h w e' h' w'∧TR e' sz L'.tree tm'∧R L' h'∧∀ ds k cs,Steps P (lone (fr fn none tm (.code c :: k) ds) cs w) (lone (fr fn none tm' k ds) cs w'):=by
 obtain ⟨N,x,t',h',hx,L',k1,k2⟩:=hk L.tree (Kn.tree L);cases x with
 | norm =>
  obtain ⟨e',w',tm',dn,q1,q2,q3,-,q4,q5⟩:=hX N true sz c _ _ .norm t' h' hx B e w tm fn none r T (fun q=>by cases q);obtain rfl:=q4 rfl;exact ⟨e',w',tm',L',h',q1,q2,q3.kn k1,k2,q5⟩
 | exit id=>cases k2
 | ret=>cases k2
theorem qh0 [Glob] {X:Extern} (hX:∀ N,Z4 P (exec P X N)) {sz:Nat} {fn:FuncId} {c:Code} {L:Ks} {h:AH} {R:Ks→AH→Prop} (hk:K P X true sz c L h (rK R)) {B:Bs} {e:Emb} {w:World} {tm:Array Value} (r:Rel B e h w) (T:TR e sz L.tree tm) :
 ∃ e' w' tm' L' h',Rel B e' h' w'∧Turn e h w e' h' w'∧TR e' sz L'.tree tm'∧R L' h'∧∀ ds k cs,∃ k',Steps P (lone (fr fn none tm (.code c :: k) ds) cs w) (lone (fr fn none tm' (.code .ret :: k') ds) cs w'):=by
 obtain ⟨N,x,t',h',hx,L',k1,k2⟩:=hk L.tree (Kn.tree L);cases x with
 | ret =>
  obtain ⟨e',w',tm',dn,q1,q2,q3,-,q4,q5⟩:=hX N true sz c _ _ .ret t' h' hx B e w tm fn none r T (fun q=>by cases q);obtain rfl:=q4 rfl;exact ⟨e',w',tm',L',h',q1,q2,q3.kn k1,k2,q5⟩
 | exit id=>cases k2
 | norm=>cases k2
theorem qgp [Glob] {X:Extern} (hX:∀ N,Z4 P (exec P X N)) (hC:∀ N,CallOk P (Qe P X (exec P X N))) {sz:Nat} {fn:FuncId} {ops:Array Oper} {i n:Nat} (hi:i+n=ops.size) {L:Ks} {h:AH} {R:Ks→AH→Prop} (hk:KO P X sz ops (ops.toList.drop i) L h R) {B:Bs} {e:Emb} {w:World} {tm:Array Value} (r:Rel B e h w) (T:TR e sz L.tree tm) :
 ∃ e' w' tm' L' h',Rel B e' h' w'∧Turn e h w e' h' w'∧TR e' sz L'.tree tm'∧R L' h'∧∀ k ds cs,Steps P (lone (fr fn none tm (.inRegion ops (List.range' i n) :: k) ds) cs w) (lone (fr fn none tm' (.inRegion ops [] :: k) ds) cs w'):=by
 obtain ⟨N,t',h',hx,L',k1,k2⟩:=hk L.tree (Kn.tree L);obtain ⟨e',w',tm',q1,q2,q3,q4⟩:=yf (hC N) (JZ (hX N)) n i _ _ _ _ e w tm hi hx r T;exact ⟨e',w',tm',L',h',q1,q2,q3.kn k1,k2,fun k ds cs=>q4 fn none k ds cs⟩
end
noncomputable def P7:Code:=(Tryz.f16.body).getD .skip
noncomputable def Jy (p:Pb) (q:List Int) (g:Nat):Di:=⟨(tOf p.tabs (q.getD g default)).toNat,(p.us.getD g default).diet,0⟩
open Classical in
noncomputable def XT (p:Pb) (q:List Int):Nat→List Di
 | 0=>[]
 | n+1=>if 0≤tOf p.tabs (q.getD n default) then Zw (XT p q n) (Jy p q n) else XT p q n
theorem qe7 {l:List Di} {x:Di}:(Zw l x).length≤l.length+1:=by
 unfold Zw;split<;>simp
theorem Gi {p:Pb} {q:List Int}:∀ n,(XT p q n).length≤n
 | 0=>zA3 _
 | n+1=>by
  have ih:=Gi (p:=p) (q:=q) n;unfold XT;split
  ·have:=qe7 (l:=XT p q n) (x:=Jy p q n);omega
  ·omega
theorem qe6 {l:List Di} {x:Di} {m:Int} (h:∀ y∈l,1≤y.n∧y.n≤m) (hm:0≤m):(∀ y∈Zw l x,1≤y.n∧y.n≤m+1)∧0≤XC l x∧XC l x≤m:=by
 unfold Zw XC;cases hk:YJ x l 0 with
 | some k =>
  have h1:=(Zl hk).2.1;rw [Nat.sub_zero] at h1;have hn:=h _ (qQ h1);refine ⟨fun y hy=>?_,by show 0≤(l.getD k default).n;omega,by show (l.getD k default).n≤m;omega⟩;rcases List.mem_or_eq_of_mem_set hy with r|r
  ·have:=h y r;omega
  ·rw [r];show 1≤(l.getD k default).n+1∧(l.getD k default).n+1≤m+1;omega
 | none =>
  refine ⟨fun y hy=>?_,Int.le_refl _,hm⟩;rcases zB8.1 hy with r|r
  ·have:=h y r;omega
  ·rw [zB5.1 r];show 1≤(1:Int)∧(1:Int)≤m+1;omega
theorem qgM {p:Pb} {q:List Int}:∀ n,∀ y∈XT p q n,1≤y.n∧y.n≤n
 | 0,y,hy=>by cases hy
 | n+1,y,hy=>by
  have ih:=qgM (p:=p) (q:=q) n;unfold XT at hy;split at hy
  ·have:=(qe6 ih (by omega)).1 y hy;omega
  ·have:=ih y hy;omega
section
variable {X:Extern} {sz:Nat} {L:Ks} {h h0:AH} {rs:List Rs} {ops:Array Oper} {os:List Oper} {o:Oper} {R:Ks→AH→Prop}
theorem qj8 {mb c:Nat} {l:List Di} {x:Di} {m k:Operand} {d:Tmp} (hgt:h.get mb=some (.map (JQ l) c)) (w:KO Tryz.prog X sz ops os (L.put d (.int .i64 (XC l x))) h R) (ho:o.op = .lookup 95 m k false:=by exact rfl) (hg:qp ops L.tree o.guard=some true:=by exact rfl)
 (hm:kA L m=some (.map (some mb)):=by exact rfl) (hk:kA L k=some (Jv x):=by exact rfl) (hdst:o.dst=some d:=by exact rfl) (hds:Nat.blt d sz=true:=by exact rfl):KO Tryz.prog X sz ops (o :: os) L h R:=by
 obtain ⟨e1,e2⟩:=qa7 (x:=x) hgt;refine zJ hg (v:=.int .i64 (XC l x)) (h':=h) ?_ (show qJ sz L o.dst _=some (L.put d _) by simp only [qJ,hdst,hds]) w;rw [ho];simp only [ja,qI hm,qI hk,e1,e2,orO,qU]
theorem qjj {mb:Nat} {l:List Di} {x:Di} {m k:Operand} {d:Tmp} (S:Hs h0 h (KD mb (JQ l) l.length :: rs)) (w:∀ h',Hs h0 h' (KD mb (JQ (ZH l x)) (ZH l x).length :: rs)→KO Tryz.prog X sz ops os (L.put d (.tuple #[.int .i64 (XC l x),.int .i64 (xW l x:Nat)])) h' R) (ho:o.op = .mapEntry 95 m k:=by exact rfl) (hg:qp ops L.tree o.guard=some true:=by exact rfl)
 (hm:kA L m=some (.map (some mb)):=by exact rfl) (hk:kA L k=some (Jv x):=by exact rfl) (hdst:o.dst=some d:=by exact rfl) (hds:Nat.blt d sz=true:=by exact rfl):KO Tryz.prog X sz ops (o :: os) L h R:=by
 obtain ⟨e1,e2⟩:=qfU (x:=x) S.mkG;refine zJ hg (v:=.tuple #[.int .i64 (XC l x),.int .i64 (xW l x:Nat)]) (h':=h.put mb (.map (JQ (ZH l x)) (ZH l x).length)) ?_ (show qJ sz L o.dst _=some (L.put d _) by simp only [qJ,hdst,hds]) (w _ S.qgy);rw [ho];simp only [ja,qI hm,qI hk,e1,e2,orO,Qb]
theorem qio {mb:Nat} {l:List Di} {x:Di} {ty:TypeId} {m s v:Operand} (S:Hs h0 h (KD mb (JQ (ZH l x)) (ZH l x).length :: rs)) (w:∀ h',Hs h0 h' (KD mb (JQ (Zw l x)) (Zw l x).length :: rs)→KO Tryz.prog X sz ops os L h' R) (ho:o.op = .entryStore ty m s v:=by exact rfl) (hg:qp ops L.tree o.guard=some true:=by exact rfl)
 (hm:kA L m=some (.map (some mb)):=by exact rfl) (hs:kA L s=some (.int .i64 (xW l x:Nat)):=by exact rfl) (hv:kA L v=some (.int .i64 (XC l x+1)):=by exact rfl) (hp:qJ sz L o.dst (.tuple #[])=some L:=by exact rfl):KO Tryz.prog X sz ops (o :: os) L h R:=by
 refine xq hg (h':=h.put mb (.map (JQ (Zw l x)) (Zw l x).length)) ?_ hp (w _ S.qgy);rw [ho];simp only [ja,qI hm,qI hs,qI hv,qfu (x:=x) S.mkG]
end
variable [Flag]
theorem qeK {h0:AH} (w:WfH h0) (pv:PbV) (p:Pb) (H:PbOk h0 pv p) (hP:PO p) (sq:SlV) (q:List Int) (rq:zC h0 sq.val 1 eI q) (hQ:PartOk p q) :
 K Tryz.prog Xh true 57 (pq 4 P7) [(0,pv.val),(1,sq.val)] h0 (nK fun L' h'=>∃ b mb,Ks.le [(5,.map (some mb)),(8,.slice none 0 0)] L'∧Hs h0 h' [KD mb (JQ (XT p q q.length)) (XT p q q.length).length,.blk b pv.cs 28]):=by
 have S:=Hs.start w;have hql:=hQ.len;have h64:p.us.length≤64:=hP.rl.l64;have hgl:pv.gs.length=p.us.length:=H.rol.len;have rg:zC h0 pv.vg.val 9 eG pv.gs:=H.rol.rg;have ht16:=hP.tabs.1;have hsum:=zQ p.tabs p.tabs.length;unfold PbV.val;all_goals (repeat' (first|refine qg ?_|refine qh rfl ?_|refine qi ?_|refine qC ?_|refine qj ?_|refine qX ?_|refine qY ?_|(refine qc 0 ?_;(refine bx S ?_;clear S;intro b h S);refine mv ?_;refine qf ?_)))
 obtain ⟨b2,hnm⟩:∃ x,x=b:=⟨_,rfl⟩;subst hnm;all_goals (repeat' (first|refine qg ?_|refine qh rfl ?_|refine qi ?_|refine qC ?_|refine qj ?_|refine qX ?_|refine qY ?_|(refine qc 1 ?_;(first|refine lB S rfl rfl ?_|refine zk S rfl rfl ?_|refine jk S ?_|refine lH S ?_);refine mv ?_)))
 (refine qw rfl rfl rfl rfl rfl ((X5 S.wf pv p (H.ext w S.ext) sq.val q (rq.ext w S.ext) (by omega)).mono ?_);rintro _ h ⟨⟨rfl,z⟩|⟨rfl,z⟩,x⟩)<;>(replace S:=S.qE x;clear x;refine vl ?_;refine qf ?_)
 rotate_left
 ·exact absurd ⟨hP,hQ⟩ z
 all_goals (repeat' (first|refine qg ?_|refine qh rfl ?_|refine qi ?_|refine qC ?_|refine qj ?_|refine qX ?_|refine qY ?_|(refine qc 1 ?_;(first|refine lB S rfl rfl ?_|refine zk S rfl rfl ?_|refine jk S ?_|refine lH S ?_);refine mv ?_)))
 (repeat (refine qg ?_));refine qc 3 ?_;refine qiW S ?_;clear S;intro mb h S;refine mv ?_;refine qf ?_;all_goals (repeat' (first|refine qg ?_|refine qh rfl ?_|refine qi ?_|refine qC ?_|refine qj ?_|refine qX ?_|refine qY ?_|(refine qc 4 ?_;(first|refine lB S rfl rfl ?_|refine zk S rfl rfl ?_|refine jk S ?_|refine lH S ?_);refine mv ?_)))
 have hqm:∀ x∈q,x≤9223372036854775807:=fun x hx=>by
  have:=(hQ.rng x hx).2;omega
 (refine qw rfl rfl rfl rfl rfl ((YA S.wf pv p (H.ext w S.ext) sq.val q (rq.ext w S.ext) (by omega) hqm).mono ?_);rintro vt_ h x)<;>(replace S:=S.jm x;clear x;(first|refine jf S ?_|refine xe S rfl rfl ?_);refine mv ?_;refine qf ?_)
 all_goals (repeat' (first|refine qg ?_|refine qh rfl ?_|refine qi ?_|refine qC ?_|refine qj ?_|refine qX ?_|refine qY ?_|(refine qc 4 ?_;(first|refine lB S rfl rfl ?_|refine zk S rfl rfl ?_|refine jk S ?_|refine lH S ?_);refine mv ?_)))
 have htl:(q.map (tOf p.tabs)).length=q.length:=by simp
 replace S:Hs h0 h [.sl vt_ 3 1 eI (q.map (tOf p.tabs)),KD mb (JQ []) 0,.blk b2 pv.cs 28]:=S;have S:=(show Hs h0 h [KD mb (JQ []) 0,.sl vt_ 3 1 eI (q.map (tOf p.tabs)),.blk b2 pv.cs 28] from S.pick)
 refine qH (σ:=Nat) (fun i h'=>Hs h0 h' [KD mb (JQ (XT p q i)) (XT p q i).length,.sl vt_ 3 1 eI (q.map (tOf p.tabs)),.blk b2 pv.cs 28]∧i≤q.length) (fun i=>q.length - i) (fun i=>[(2,.pointer (some ⟨b2,0,none⟩)),(5,.map (some mb)),(18,vt_),(19,.int .i64 ((q.map (tOf p.tabs)).length:Nat)),(20,.int .i64 i)]) 0 qx ?_ ?_
 ·exact ⟨S,zB0 _⟩
 clear S;rintro i h ⟨S,g1⟩;all_goals (repeat' (first|refine qg ?_|refine qh rfl ?_|refine qi ?_|refine qC ?_|refine qj ?_|refine qX ?_|refine qY ?_|(refine qc 5 ?_;(first|refine cT ?_|refine cF ?_|(refine cS ?_ ?_<;>intro hc))<;>(refine qf ?_))))
 ·have hi:i<q.length:=by omega
  have hx0:(q.map (tOf p.tabs)).getD (i:Int).toNat default=tOf p.tabs (q.getD i default):=jc (f:=tOf p.tabs) (show i<q.length by omega);have hgx:pv.gs.getD (i:Int).toNat default=pv.gs.getD i default:=rfl;have hgg:=(hP.gst H (show i<p.us.length by omega)).1;all_goals (repeat' (first|refine qg ?_|refine qh rfl ?_|refine qi ?_|refine qC ?_|refine qj ?_|refine qX ?_|refine qY ?_|(refine qc 6 ?_;refine mv ?_;(first|refine jF S ?_|refine qO S rfl rfl ?_);(first|refine lB S rfl rfl ?_|refine zk S rfl rfl ?_|refine jk S ?_|refine lH S ?_);refine mv ?_;refine mv ?_;refine qf ?_)))
  rw [hx0];all_goals (repeat' (first|refine qg ?_|refine qh rfl ?_|refine qi ?_|refine qC ?_|refine qj ?_|refine qX ?_|refine qY ?_|(refine qc 7 ?_;refine mv ?_;(first|refine cT ?_|refine cF ?_|(refine cS ?_ ?_<;>intro hc))<;>(refine qf ?_))))
  ·have hz:0≤tOf p.tabs (q.getD i default):=by assumption
   have hds:XT p q (i+1)=Zw (XT p q i) (Jy p q i):=by rw [XT,if_pos hz]
   have htb:tOf p.tabs (q.getD i default)<16:=by have:=(pz p.tabs (q.getD i default)).2;omega
   have htt:(((Jy p q i).tt:Nat):Int)=tOf p.tabs (q.getD i default):=by
    show (((tOf p.tabs (q.getD i default)).toNat % 1024:Nat):Int)=_
    rw [Nat.mod_eq_of_lt (by omega)];omega
   have hcn:=(qe6 (l:=XT p q i) (x:=Jy p q i) (qgM i) (by omega)).2;have hdi:(pv.gs.getD i default).diet=(Jy p q i).d:=by show _=(p.us.getD i default).diet;rw [← hgg]
   generalize hl:XT p q i=l at *
   generalize hxx:Jy p q i=x at *
   rw [← htt];(repeat (refine qg ?_));refine qgm (id:=8) 9 11 13 (FD mb (Jv x) (JQ l) (JQ (ZH l x)) l.length (ZH l x).length) ?_ ?_
   ·have hgt:=S.mkG;refine Qi ?_;refine mv ?_;refine qf ⟨⟨fun _ _=>trivial,fun _=>rfl⟩,?_⟩;refine Qi ?_;refine mv ?_;refine qf ⟨⟨fun _ _=>trivial,fun _=>rfl⟩,?_⟩;refine Qi ?_;(first|refine vl ?_|refine fB S ?_);refine qf ⟨⟨fun _ _=>trivial,fun _=>rfl⟩,?_⟩;refine Qi ?_;(first|refine lB S rfl rfl ?_|refine jk S ?_);refine qf ⟨⟨fun _ _=>trivial,fun _=>rfl⟩,?_⟩;refine Qi ?_;refine mv ?_;refine qf ⟨⟨fun _ _=>trivial,fun _=>rfl⟩,?_⟩;refine Qi ?_;(first|refine jF S ?_|refine qO S rfl rfl ?_);refine qf ⟨⟨fun _ _=>trivial,fun _=>rfl⟩,?_⟩;refine Qi ?_;(first|refine fB S ?_|refine vl ?_);refine qf ⟨⟨fun _ _=>trivial,fun _=>rfl⟩,?_⟩;refine Qi ?_;(first|refine jk S ?_|refine lB S rfl rfl ?_);refine qf ⟨⟨fun _ _=>trivial,fun _=>rfl⟩,?_⟩;rw [hgx,hdi];refine Qi ?_;refine vl ?_;refine qf ⟨⟨fun _ _=>trivial,fun _=>rfl⟩,?_⟩;refine Qi ?_;refine qj8 (x:=x) hgt ?_;refine qf ⟨⟨fun t hk=>⟨hk 27 _ rfl,hk 35 _ rfl,hgt⟩,fun _=>rfl⟩,?_⟩;refine Qi ?_;refine ad ?_;refine qf ⟨⟨fun _ _=>trivial,fun _=>rfl⟩,?_⟩;refine Qi ?_;refine qjj (x:=x) S ?_;clear S;intro h S;refine qf ⟨⟨fun _ _=>S.mkG,fun hc=>absurd hc (by decide +kernel)⟩,?_⟩;refine Qi ?_;refine vl ?_;refine qf ⟨⟨fun _ _=>trivial,fun _=>rfl⟩,?_⟩;refine Qi ?_;refine qio (x:=x) S ?_;clear S;intro h S;refine qf ⟨⟨fun _ _=>trivial,fun hc=>absurd hc (by decide +kernel)⟩,?_⟩;refine qh4 ?_;rw [← hds] at S;all_goals (repeat' (first|refine qg ?_|refine qh rfl ?_|refine qi ?_|refine qC ?_|refine qj ?_|refine qX ?_|refine qY ?_|(refine qc 9 ?_;(first|refine ad ?_|refine vl ?_);refine mv ?_;refine qf ?_)))
    refine ⟨i+1,?_,?_,qx⟩
    ·show q.length - (i+1)<q.length - i;omega
    ·exact ⟨S,by (try dsimp only);omega⟩
   ·intro t k m1 m2 o ho h9 t' k' h11 _;obtain ⟨a1,a2,a3⟩:=h9;have a4:m2.get mb=some (.map (JQ (ZH l x)) (ZH l x).length):=h11;obtain ⟨e1,e2⟩:=qa7 (x:=x) a3;obtain ⟨e3,e4⟩:=qa7 (x:=x) a4;rw [qf3] at e4;have hop:o.op = .lookup 95 (.tmp 27) (.tmp 35) false:=by
     rw [← Option.some.inj ho];rfl
    rw [hop];refine ⟨.int .i64 (XC l x),?_,m2,?_⟩
    ·simp only [ja,zY,a1,a2,e1,e2,orO,qU]
    ·simp only [ja,zY,a1,a2,e3,e4,orO,qU]
  ·rw [show XT p q i=XT p q (i+1) by rw [XT,if_neg (by assumption)]] at S;all_goals (repeat' (first|refine qg ?_|refine qh rfl ?_|refine qi ?_|refine qC ?_|refine qj ?_|refine qX ?_|refine qY ?_|(refine qc 9 ?_;(first|refine ad ?_|refine vl ?_);refine mv ?_;refine qf ?_)))
   refine ⟨i+1,?_,?_,qx⟩
   ·show q.length - (i+1)<q.length - i;omega
   ·exact ⟨S,by (try dsimp only);omega⟩
 ·obtain rfl:i=q.length:=by omega
  all_goals (repeat' (first|refine qg ?_|refine qh rfl ?_|refine qi ?_|refine qC ?_|refine qj ?_|refine qX ?_|refine qY ?_|(refine qc 10 ?_;refine mv ?_;refine qf ?_)))
  exact ⟨b2,mb,(qx),S.pick⟩
end Go.Proofs.Xx
namespace Go.Proofs.Xx
open Go Go.Proofs
def opsOf:Code→Array Oper
 | .region _ o _=>o
 | _=>#[]
def qA:Code→Code
 | .seq a _=>a
 | _=>.skip
def qB:Code→Code
 | .seq _ b=>b
 | _=>.skip
def inB:Code→Code
 | .block _ c=>c
 | _=>.skip
def inL:Code→Code
 | .loop c=>c
 | _=>.skip
noncomputable def cT5:Code:=(kJ 4 P7).getD .skip
noncomputable def qag:Code:=qB cT5
noncomputable def cLB:Code:=inL (inB (qB (qA cT5)))
noncomputable def cB3:Code:=inB (qB (qB cLB))
noncomputable def qaf:Code:=qB cB3
noncomputable def o11:Array Oper:=opsOf (qA (qA cT5))
noncomputable def o12:Array Oper:=opsOf (qA cLB)
noncomputable def o13:Array Oper:=opsOf (qA cB3)
theorem qda:kJ 4 P7=some (.seq (.seq (.region 11 o11 false) (.block 2 (.loop (.seq (.region 12 o12 false) (.seq (.cond (.tmp 44) .skip (.exit 2)) (.block 3 (.seq (.region 13 o13 false) qaf))))))) qag):=by kernel_rfl
def hNil:AH:=⟨.e,1,0⟩
theorem qbV:WfH hNil:=fun b _=>Tr.XL b
abbrev itP:Value:=.pointer (some ⟨0,0,none⟩)
variable [Flag]
theorem qaN {h0 h:AH} {vo:Value} {acc:List Di} (S:Hs h0 h [.sl vo 50 3 jb acc]) (x:Di) :
 KO Tryz.prog Xh 57 o13 (o13.toList.drop 1) [(8,vo),(42,itP),(45,.tuple #[Jv x,.int .i64 x.n])] h (fun L' h'=>∃ b,Ks.le [(8,vo),(42,itP),(9,.pointer (some ⟨b,0,none⟩)),(10,.int .i64 x.n)] L'∧Hs h0 h' [.blk b (kvL x) 50,.sl vo 50 3 jb acc]):=by
 refine vl ?_;refine vl ?_;(refine al S ?_;clear S;intro b h S);(first|(refine sB S rfl rfl ?_;clear S;intro h S)|(refine JY S rfl rfl ?_;clear S;intro h S));refine mv ?_;refine qf ?_;exact ⟨b,(qx),S⟩
theorem qfq {h0 h:AH} {vo:Value} {acc:List Di} {b:Nat} (x:Di) (S:Hs h0 h [.blk b (kvL x) 50,.sl vo 50 3 jb acc]) (hl:acc.length≤1000) :
 K Tryz.prog Xh true 57 qaf [(8,vo),(42,itP),(9,.pointer (some ⟨b,0,none⟩)),(10,.int .i64 x.n)] h (nK fun L' h'=>∃ vo',Ks.le [(8,vo'),(42,itP)] L'∧Hs h0 h' [.sl vo' 50 3 jb (acc ++ [x])]):=by
 all_goals (repeat' (first|refine qg ?_|refine qh rfl ?_|refine qi ?_|refine qC ?_|refine qj ?_|refine qX ?_|refine qY ?_|(refine qc 14 ?_;refine mv ?_;(first|refine vl ?_|refine fB S ?_|refine fS S rfl rfl ?_|refine fA ?_);(first|(refine sB S rfl rfl ?_;clear S;intro h S)|(refine JY S rfl rfl ?_;clear S;intro h S));refine qf ?_)))
 replace S:Hs h0 h [.blk b (jb x) 50,.sl vo 50 3 jb acc]:=S;all_goals (repeat' (first|refine qg ?_|refine qh rfl ?_|refine qi ?_|refine qC ?_|refine qj ?_|refine qX ?_|refine qY ?_|(refine qc 15 ?_;refine mv ?_;(first|refine lB S rfl rfl ?_|refine zk S rfl rfl ?_|refine jk S ?_|refine lH S ?_);(refine one 3 S ?_;clear S;intro u h S))))
 refine app (y0:=x) S rfl rfl ?_;clear S;intro v h S;refine mv ?_;refine qf ?_;exact ⟨v,(qx),S.only .here⟩
theorem qfA {h0 h:AH} {vo:Value} {acc:List Di} (S:Hs h0 h [.sl vo 50 3 jb acc]) (hl:acc.length≤200) :
 K Tryz.prog Xh true 57 qag [(8,vo)] h (rK fun L' h'=>∃ l',Ks.le [(4,vo)] L'∧Sw 0 acc.length acc l'∧Srt jl 0 acc.length l'∧Hs h0 h' [.sl vo 50 3 jb l']):=by
 all_goals (repeat' (first|refine qg ?_|refine qh rfl ?_|refine qi ?_|refine qC ?_|refine qj ?_|refine qX ?_|refine qY ?_|(refine qc 16 ?_;refine mv ?_)))
 (refine qw rfl rfl rfl rfl rfl ((qg3 S (by omega)).mono ?_);rintro _ h ⟨l',k1,k2,S2⟩)<;>(replace S:=S2;clear S2;refine qf ?_)
 all_goals (repeat' (first|refine qg ?_|refine qh rfl ?_|refine qi ?_|refine qC ?_|refine qj ?_|refine qX ?_|refine qY ?_|(refine qc 17 ?_;refine mv ?_;refine mv ?_;refine qf ?_)))
 refine qo ?_;exact ⟨l',(qx),k1,k2,S⟩
end Go.Proofs.Xx
namespace Go.Proofs.Xx
open Go Go.RowKit Go.Proofs
def qg0 (e:Value×Value×Nat):MapEntry:={ key:=e.1,val:=e.2.1,born:=e.2.2 }
theorem qeD {f:Emb}:∀ {a:List (Value×Value×Nat)} {b:List MapEntry},EsR f a b→(∀ e∈a,∃ (x:Di) (n:Int) (i:Nat),e=(Jv x,.int .i64 n,i))→b=a.map qg0
 | _,_,.nil,_=>rfl
 | _,_,.cons (e:=e) (e':=e') h hr,hs=>by
  obtain ⟨x,n,i,rfl⟩:=hs e (by simp);rw [List.map_cons,← qeD hr fun y hy=>hs y (List.mem_cons_of_mem _ hy)];congr 1
  have h1:e'.key=Jv x:=xg (P:=Tryz.prog) (kt:=50) (x:=(kvL x).toArray) (by have:=xh x x;simpa [zX] using this) h.1;have h2:e'.val = .int .i64 n:=by
   have:=h.2.1;generalize e'.val=u at this
   cases this;rfl
  have h3:i=e'.born:=h.2.2;cases e' with
  | mk k v b =>
   simp only at h1 h2 h3;subst h1;subst h2;subst h3;rfl
theorem qcZ {l:List Di}:∀ e∈JQ l,∃ (x:Di) (n:Int) (i:Nat),e=(Jv x,.int .i64 n,i):=fun e he=>by
 obtain ⟨i,-,rfl⟩:=zF1.1 he;exact ⟨_,_,_,rfl⟩
def meD (l:List Di):Array MapEntry:=((JQ l).map qg0).toArray
theorem qek {l:List Di}:(meD l).toList.map (·.born)=List.range l.length:=by
 unfold meD JQ;simp [Function.comp_def,qg0]
theorem qbN {l:List Di} {e:MapEntry} (h:e∈(meD l).toList):e.born<l.length∧e=⟨Jv (l.getD e.born default),.int .i64 (l.getD e.born default).n,e.born⟩:=by
 unfold meD JQ at h;simp only [List.map_map] at h;obtain ⟨i,hi,rfl⟩:=zF1.1 h;exact ⟨zE2.1 hi,rfl⟩
theorem TR.irr {f:Emb} {sz:Nat} {L:Ks} {tm:Array Value} (T:TR f sz L.tree tm) {k:Nat} (hk:L.get k=none) (v:Value):TR f sz L.tree (Qu tm (some k) v):=by
 refine ⟨by unfold Qu;simp [T.1],fun i u hu=>?_⟩;obtain ⟨u',h1,h2⟩:=T.2 i u hu;refine ⟨u',?_,h2⟩;unfold Qu;simp only;rw [Array.getElem?_setIfInBounds,if_neg,h1];intro e;subst e;rw [Ks.jH,hk] at hu;cases hu
theorem Y8 {tm:Array Value} {k:Nat} {v:Value} (hk:k<tm.size):Zn (Qu tm (some k) v) (.tmp k)=v:=by
 unfold Zn Qu;simp [Array.getD,hk]
theorem qbK {tm:Array Value} {k j:Nat} {v:Value} (hj:j≠k):Zn (Qu tm (some k) v) (.tmp j)=Zn tm (.tmp j):=by
 unfold Zn Qu;simp only [zH2,Array.getElem?_setIfInBounds];rw [if_neg (fun e=>hj e.symm)]
section
theorem Rel.iter {I:Nat} {e:Emb} {h:AH} {w w1:World} {a:Option Nat} {b c b' c':Nat} {s s':Array Nat} (r:Rel ⟨I+1,w.heap⟩ e h w) (hI:w.heap[I]? = some (.mapIter a b s c)) (hal:w1.heap=w.heap) :
 Rel ⟨I+1,w1.heap.setIfInBounds I (.mapIter a b' s' c')⟩ e h { w1 with heap:=w1.heap.setIfInBounds I (.mapIter a b' s' c') }:=by
 have hlt:I<w.heap.size:=(zB9.1 hI).1;have hne:∀ k,k≠I→(w1.heap.setIfInBounds I (.mapIter a b' s' c'))[k]? = w.heap[k]?:=fun k hk=>by rw [Array.getElem?_setIfInBounds,if_neg (fun q=>hk q.symm),hal]
 refine ⟨r.dom,r.wf,fun b L q=>?_,fun b L o q1 q2=>?_,r.inj,r.own,?_,fun k q=>rfl,?_⟩
 ·simp only [Array.size_setIfInBounds,hal];exact r.rng b L q
 ·by_cases z:L.blk=I
  ·have ho:=r.obj b L o q1 q2;have hw:=r.own b L o q1 q2;cases o with
   | dead=>trivial
   | cells c el slk ro =>
    obtain ⟨cc,fr,a1,-⟩:=ho;rw [z,hI] at a1;cases a1
   | loop st pend sz t ps asg bo =>
    obtain ⟨fn,tm,D,a1,-⟩:=ho;rw [z,hI] at a1;cases a1
   | map es cl =>
    obtain ⟨es',a1,-⟩:=ho;rw [z,hI] at a1;cases a1
  ·exact (r.obj b L o q1 q2).world (hne _ z)
 ·simp only [Array.size_setIfInBounds,hal];exact r.base
 ·obtain ⟨g1,⟨m,el,fr,g2⟩,g3⟩:=r.glob;have hI1:1≤I:=by have:1<I+1:=g1;omega
  refine ⟨g1,?_,fun q=>?_⟩
  ·refine ⟨m,el,fr,?_⟩;show (w1.heap.setIfInBounds I _)[0]? = _
   rw [hne 0 (by omega)];exact g2
  ·obtain ⟨el,fr,g4⟩:=g3 q;refine ⟨el,fr,?_⟩;show (w1.heap.setIfInBounds I _)[1]? = _
   by_cases z:1=I
   ·have g5:w.heap[1]? = some (.cells (Lib.pow10Tab.map fun z=>Value.int .u64 z).toArray el fr):=g4;rw [z,hI] at g5;cases g5
   ·rw [hne 1 z];exact g4
theorem Rel.qd0 {I:Nat} {ref:Array Obj} {e:Emb} {h:AH} {w:World} (r:Rel ⟨I+1,ref⟩ e h w):Rel ⟨I+1,w.heap⟩ e h w:=by
 refine ⟨r.dom,r.wf,r.rng,r.obj,r.inj,r.own,r.base,fun k q=>rfl,?_⟩;obtain ⟨g1,⟨m,el,fr,g2⟩,g3⟩:=r.glob;refine ⟨g1,⟨m,el,fr,?_⟩,fun q=>?_⟩
 ·exact (r.keep 0 (by have:1<I+1:=g1;show 0<I+1;omega)).trans g2
 ·obtain ⟨el,fr,g4⟩:=g3 q;exact ⟨el,fr,(r.keep 1 g1).trans g4⟩
structure LI (l:List Di) (I bm:Nat) (wA:World) (seen:Array Nat) (acc:List Di) (vo:Value) (e:Emb) (h:AH) (w:World) (tm:Array Value):Prop where
 rel:Rel ⟨I+1,w.heap⟩ e h w
 e0:e 0=some ⟨I,0,0⟩
 S:Hs hNil h [.sl vo 50 3 jb acc]
 T:TR e 57 (Ks.tree [(8,vo),(42,itP)]) tm
 it:w.heap[I]? = some (.mapIter (some bm) l.length seen l.length)
 mp:w.heap[bm]? = some (.map (meD l) l.length)
 bI:bm<I
 old:∀ k,k<I→w.heap[k]? = wA.heap[k]?
 os:w.os=wA.os
 tape:w.tape=wA.tape
 out:w.output=wA.output
 nd:seen.toList.Nodup
 lt:∀ j∈seen.toList,j<l.length
 acc:acc=seen.toList.map fun j=>l.getD j default
theorem hXh (N:Nat):Z4 Tryz.prog (exec Tryz.prog Xh N):=ZW follows qgR Jt N
theorem hCh (N:Nat):CallOk Tryz.prog (Qe Tryz.prog Xh (exec Tryz.prog Xh N)):=QM qgR Jt (hXh N)
theorem qbG {a:Array Nat} {j:Nat} (h:a.contains j=false):j ∉ a.toList:=fun q=>by
 have:a.contains j=true:=by rw [Array.contains_iff_mem];exact Array.mem_toList_iff.1 q
 rw [this] at h;cases h
noncomputable abbrev qah:Code:=.seq (.region 12 o12 false) (.seq (.cond (.tmp 44) .skip (.exit 2)) (.block 3 (.seq (.region 13 o13 false) qaf)))
theorem qiP:∃ o,o12[0]? = some o∧o.op = .next (.tmp 42) false∧o.dst=some 43∧o.guard=none∧o.type=0:=⟨_,rfl,rfl,rfl,rfl,rfl⟩
theorem qiO:∃ o,o12[1]? = some o∧o.op = .extract (.tmp 43) 0∧o.dst=some 44∧o.guard=none:=⟨_,rfl,rfl,rfl,rfl⟩
theorem qiM:∃ o,o13[0]? = some o∧o.op = .entry (.tmp 42)∧o.dst=some 45∧o.guard=none:=⟨_,rfl,rfl,rfl,rfl⟩
theorem qiN:List.range o12.size=[0,1]:=by kernel_rfl
theorem qiL:List.range o13.size=0 :: List.range' 1 5:=by kernel_rfl
theorem qiK:1+5=o13.size:=by kernel_rfl
theorem want {ops:Array Oper} {o:Oper} {tm:Array Value} (h:o.guard=none):Region.wanted o (yielded ops tm)=true:=by unfold Region.wanted;rw [h]
theorem yl {w w':World} {tm:Array Value} {v0:Value} {b:Bool} {vs:List Value} (h42:Zn tm (.tmp 42)=v0) (hs:tm.size=57)
 (hr:(Instr.next v0 false 0).run Tryz.prog w = .ok (.tuple (Value.bool b :: vs).toArray) w') (k:List Item) (ds:List Deferred) (cs:List Frame) :
 Steps Tryz.prog (lone (fr 16 none tm (.code qah :: k) ds) cs w) (lone (fr 16 none (Qu (Qu tm (some 43) (.tuple (Value.bool b :: vs).toArray)) (some 44) (.bool b)) (.code (if b then .skip else .exit 2) :: .code (.block 3 (.seq (.region 13 o13 false) qaf)) :: k) ds) cs w'):=by
 obtain ⟨a,a1,a2,a3,a4,a5⟩:=qiP;obtain ⟨c,c1,c2,c3,c4⟩:=qiO;refine .head Jr (.head X7 ?_);rw [qiN];refine .head (jL a1 (want a4) (by rw [a2];rfl) (v:=.tuple (Value.bool b :: vs).toArray) (w':=w') ?_) ?_
 ·unfold execOp;rw [a2];simp only [h42,a5,zA5,hr,zA1];rfl
 rw [a3];refine .head (jL c1 (want c4) (by rw [c2];rfl) (v:=.bool b) (w':=w') ?_) ?_
 ·unfold execOp;rw [c2];simp only [Y8 (show 43<tm.size by omega),zA5];rfl
 rw [c3];refine .head Qw (.head Jr (.head (gW (b:=b) ?_) (.refl _ _)));exact Y8 (by unfold Qu;simp [hs])
end
end Go.Proofs.Xx
namespace Go.Proofs.Xx
open Go Go.RowKit Go.Proofs
noncomputable abbrev qcS (k:List Item):List Item:=.code qah :: .inLoop qah :: .inBlock 2 :: k
theorem qfE {l:List Di} {j:Nat} (hj:j<l.length):(⟨Jv (l.getD j default),.int .i64 (l.getD j default).n,j⟩:MapEntry)∈(meD l).toList:=by
 unfold meD JQ;simp only [List.map_map];exact zF1.2 ⟨j,zE2.2 hj,rfl⟩
theorem qer {l:List Di} {seen:Array Nat} (h:(leftOf (meD l) seen).size=0) {j:Nat} (hj:j<l.length):j∈seen.toList:=by
 by_cases q:seen.contains j=true
 ·exact Array.mem_toList_iff.2 (Array.contains_iff_mem.1 q)
 ·exfalso
  have:(⟨Jv (l.getD j default),.int .i64 (l.getD j default).n,j⟩:MapEntry)∈leftOf (meD l) seen:=by
   unfold leftOf;rw [Array.mem_filter];exact ⟨Array.mem_toList_iff.1 (qfE hj),by simp only [zG3] at *;simpa using q⟩
  rw [Array.eq_empty_of_size_eq_zero h] at this;exact absurd this (Array.not_mem_empty _)
theorem LI.p42 {l:List Di} {I bm:Nat} {wA:World} {seen:Array Nat} {acc:List Di} {vo:Value} {e:Emb} {h:AH} {w:World} {tm:Array Value} (L:LI l I bm wA seen acc vo e h w tm):Zn tm (.tmp 42) = .pointer (some ⟨I,0,none⟩):=by
 have:=qF (o:=.tmp 42) (v:=itP) L.T (by show Tr.get _ 42=_;rw [Ks.jH];rfl);generalize Zn tm (.tmp 42)=u at this ⊢
 cases this with
 | pointer b o M hM =>
  have e1:=L.e0.symm.trans hM;cases e1;rfl
theorem qbg {l:List Di} (h64:l.length≤100) {I bm:Nat} {wA:World} {seen:Array Nat} {acc:List Di} {vo:Value} {e:Emb} {h:AH} {w:World} {tm:Array Value} (L:LI l I bm wA seen acc vo e h w tm) :
 ((∀ j,j<l.length→j∈seen.toList)∧∃ tm',TR e 57 (Ks.tree [(8,vo)]) tm'∧∀ k ds cs,Steps Tryz.prog (lone (fr 16 none tm (qcS k) ds) cs w) (lone (fr 16 none tm' k ds) cs w)) ∨
 ∃ j vo' e' h' w' tm',j<l.length∧j ∉ seen.toList∧LI l I bm wA (seen.push j) (acc ++ [l.getD j default]) vo' e' h' w' tm'∧∀ k ds cs,Steps Tryz.prog (lone (fr 16 none tm (qcS k) ds) cs w) (lone (fr 16 none tm' (qcS k) ds) cs w'):=by
 have h42:=L.p42;have hs:tm.size=57:=L.T.1;have hold:∀ x∈(meD l).toList,x.born<l.length:=fun x hx=>(qbN hx).1;have hacc:acc.length≤100:=by
  rw [L.acc,zC5];have:=Yb (l:=seen.toList) (m:=List.range l.length) L.nd fun x hx=>zE2.2 (L.lt x hx);rw [List.length_range] at this;omega
 rcases run_next_at (P:=Tryz.prog) w 0 I bm l.length l.length seen (meD l) l.length L.it L.mp hold (zA3 _) with ⟨hz,hr⟩|⟨m0,hm0,w1,hal,htp,hr⟩
 ·left
  refine ⟨fun j hj=>qer hz hj,_,?_,fun k ds cs=>(yl h42 hs hr (.inLoop qah :: .inBlock 2 :: k) ds cs).trans (.head (qbD (k':=k) (by simp [exitTo])) (.refl _ _))⟩;exact ((TR.kn L.T (L:=[(8,vo)]) (fun k v hk=>by
   rw [Ks.jH];simp only [Ks.get] at hk ⊢;split at hk
   ·exact hk
   ·cases hk)).irr rfl _).irr rfl _
 ·right
  obtain ⟨hm1,hm2⟩:=mem_left hm0;obtain ⟨hj,hme⟩:=qbN hm1;obtain ⟨j,hjj⟩:∃ j,j=m0.born:=⟨_,rfl⟩
  rw [← hjj] at hj hme hm2 hr;have hkey:m0.key=Jv (l.getD j default):=by rw [hme]
  have hval:m0.val = .int .i64 (l.getD j default).n:=by rw [hme]
  rw [hkey,hval] at hr;have hlt:I<w.heap.size:=(zB9.1 L.it).1;obtain ⟨w2,hw2⟩:∃ w2:World,w2={ w1 with heap:=w1.heap.setIfInBounds I (.mapIter (some bm) l.length (seen.push j) l.length) }:=⟨_,rfl⟩
  rw [← hw2] at hr;have hheap:w2.heap=w1.heap.setIfInBounds I (.mapIter (some bm) l.length (seen.push j) l.length):=by rw [hw2]
  have hne:∀ k,k≠I→w2.heap[k]? = w.heap[k]?:=fun k hk=>by rw [hheap,Array.getElem?_setIfInBounds,if_neg (fun q=>hk q.symm),hal.1]
  have hit2:w2.heap[I]? = some (.mapIter (some bm) l.length (seen.push j) l.length):=by rw [hheap,Array.getElem?_setIfInBounds,if_pos rfl,if_pos (by rw [hal.1];exact hlt)]
  have r2:Rel ⟨I+1,w2.heap⟩ e h w2:=by
   have:=Rel.iter (b':=l.length) (c':=l.length) (s':=seen.push j) L.rel L.it hal.1;rw [hw2];exact this
  have hmp2:w2.heap[bm]? = some (.map (meD l) l.length):=by rw [hne bm (by have:=L.bI;omega)];exact L.mp
  have s1:=fun k ds cs=>yl h42 hs hr (.inLoop qah :: .inBlock 2 :: k) ds cs;obtain ⟨tm2,htm2⟩:∃ tm2,tm2=Qu (Qu tm (some 43) (.tuple (Value.bool true :: [Jv (l.getD j default),.int .i64 (l.getD j default).n]).toArray)) (some 44) (.bool true):=⟨_,rfl⟩
  rw [← htm2] at s1;have T2:TR e 57 (Ks.tree [(8,vo),(42,itP)]) tm2:=by rw [htm2];exact (L.T.irr rfl _).irr rfl _
  have hent:=run_entry_at (P:=Tryz.prog) w2 I bm l.length seen (meD l) l.length m0 (by rw [← hjj];exact hit2) hmp2 hm1 (by rw [qek];exact List.nodup_range);rw [hkey,hval] at hent;obtain ⟨a,a1,a2,a3,a4⟩:=qiM;have h42':Zn tm2 (.tmp 42) = .pointer (some ⟨I,0,none⟩):=by
   have:=qF (o:=.tmp 42) (v:=itP) T2 (by show Tr.get _ 42=_;rw [Ks.jH];rfl);generalize Zn tm2 (.tmp 42)=u at this ⊢
   cases this with
   | pointer b o M hM =>
    have e1:=L.e0.symm.trans hM;cases e1;rfl
  have s2:∀ k ds cs,Steps Tryz.prog (lone (fr 16 none tm (qcS k) ds) cs w) (lone (fr 16 none (Qu tm2 (some 45) (.tuple #[Jv (l.getD j default),.int .i64 (l.getD j default).n])) (.inRegion o13 (List.range' 1 5) :: .code qaf :: .inBlock 3 :: .inLoop qah :: .inBlock 2 :: k) ds) cs w2):=fun k ds cs=>by
   refine (s1 k ds cs).trans ?_;refine .head qbC (.head JE (.head Jr (.head X7 ?_)));rw [qiL];refine .head (jL a1 (want a4) (by rw [a2];rfl) (v:=.tuple #[Jv (l.getD j default),.int .i64 (l.getD j default).n]) (w':=w2) ?_) ?_
   ·unfold execOp;rw [a2];simp only [h42',zA5,hent,zA1];rfl
   ·rw [a3];exact .refl _ _
  have T3:TR e 57 (Ks.tree [(8,vo),(42,itP),(45,.tuple #[Jv (l.getD j default),.int .i64 (l.getD j default).n])]) (Qu tm2 (some 45) (.tuple #[Jv (l.getD j default),.int .i64 (l.getD j default).n])):=by
   have hv:VR e (.tuple #[Jv (l.getD j default),.int .i64 (l.getD j default).n]) (.tuple #[Jv (l.getD j default),.int .i64 (l.getD j default).n]) :=
    VR.tuple _ _ (.cons _ _ _ _ (VR.plain e _ rfl) (.cons _ _ _ _ (.int _ _) .nil))
   exact TR.kn (show TR e 57 (Ks.tree [(45,.tuple #[Jv (l.getD j default),.int .i64 (l.getD j default).n]),(8,vo),(42,itP)]) _ from T2.set (show 45<57 by omega) hv) (Kn.le (Kn.tree _) (qx))
  obtain ⟨e3,w3,tm3,L3,h3,r3,u3,t3,⟨b9,le3,S3⟩,st3⟩:=qgp (fn:=16) hXh hCh qiK (qaN L.S (l.getD j default)) r2 T3;have T4:=TR.kn t3 (Kn.le (Kn.tree _) le3);obtain ⟨e4,w4,tm4,L4,h4,r4,u4,t4,⟨vo',le4,S4⟩,st4⟩:=qh1 (fn:=16) hXh (qfq (l.getD j default) S3 (by omega)) r3 T4;have T5:=TR.kn t4 (Kn.le (Kn.tree _) le4);have hk4:∀ k,k<I+1→w4.heap[k]? = w2.heap[k]?:=fun k hk=>r4.keep k hk;refine ⟨j,vo',e4,h4,w4,tm4,hj,qbG hm2,⟨r4.qd0,u4.le _ _ (u3.le _ _ L.e0),S4,T5,?_,?_,L.bI,fun k hk=>?_,?_,?_,?_,?_,?_,?_⟩,fun k ds cs=>?_⟩
  ·rw [hk4 I (by omega)];exact hit2
  ·rw [hk4 bm (by have:=L.bI;omega)];exact hmp2
  ·rw [hk4 k (by omega),hne k (by omega)];exact L.old k hk
  ·rw [u4.os,u3.os,hw2];exact hal.2.1.trans L.os
  ·rw [u4.tape,u3.tape,hw2];exact htp.trans L.tape
  ·rw [u4.output,u3.output,hw2];exact hal.2.2.trans L.out
  ·rw [Array.toList_push,zG4];exact ⟨L.nd,by simp,fun a ha b hb=>by rw [zB5.1 hb];exact fun e=>qbG hm2 (e ▸ ha)⟩
  ·intro i hi;rw [Array.toList_push] at hi;rcases zB8.1 hi with q|q
   ·exact L.lt i q
   ·rw [zB5.1 q];exact hj
  ·rw [Array.toList_push,zC9,← L.acc];rfl
  ·refine (s2 k ds cs).trans ((st3 _ ds cs).trans (.head Qw ((st4 ds _ cs).trans (.head xI (.head wG (.refl _ _))))))
end Go.Proofs.Xx
namespace Go.Proofs.Xx
open Go Go.RowKit Go.Proofs
theorem LI.size {l:List Di} {I bm:Nat} {wA:World} {seen:Array Nat} {acc:List Di} {vo:Value} {e:Emb} {h:AH} {w:World} {tm:Array Value} (L:LI l I bm wA seen acc vo e h w tm):seen.size≤l.length:=by
 have:=Yb (l:=seen.toList) (m:=List.range l.length) L.nd fun x hx=>zE2.2 (L.lt x hx);rw [List.length_range] at this;simpa using this
theorem xR (l:List Di):((List.range l.length).map fun j=>l.getD j default)=l:=by
 apply List.ext_getElem?
 intro i;rcases zA7 i l.length with r|r
 ·rw [zH8,List.getElem?_range r,zA4 r];simp [zA2,zA4 r]
 ·rw [zG5 (by simp;omega),zG5 (by omega)]
theorem WE {l:List Di} (h64:l.length≤100) {I bm:Nat} {wA:World}:∀ (n:Nat) {seen:Array Nat} {acc:List Di} {vo:Value} {e:Emb} {h:AH} {w:World} {tm:Array Value},l.length - seen.size≤n→LI l I bm wA seen acc vo e h w tm →
 ∃ seen' acc' vo' e' h' w' tm' tm2,LI l I bm wA seen' acc' vo' e' h' w' tm'∧acc'.Perm l∧(acc'=[]→vo'=vo)∧TR e' 57 (Ks.tree [(8,vo')]) tm2∧∀ k ds cs,Steps Tryz.prog (lone (fr 16 none tm (qcS k) ds) cs w) (lone (fr 16 none tm2 k ds) cs w')
 | n,seen,acc,vo,e,h,w,tm,hn,L=>by
  rcases qbg h64 L with ⟨hall,tm2,t2,st⟩|⟨j,vo1,e1,h1,w1,tm1,hj,hjs,L1,st⟩
  ·refine ⟨seen,acc,vo,e,h,w,tm,tm2,L,?_,fun _=>rfl,t2,st⟩;have hp:seen.toList.Perm (List.range l.length):=(List.perm_ext_iff_of_nodup L.nd List.nodup_range).2 fun x=>⟨fun hx=>zE2.2 (L.lt x hx),fun hx=>hall x (zE2.1 hx)⟩
   rw [L.acc];have:=hp.map fun j=>l.getD j default;rwa [xR] at this
  ·have hs:=L1.size;rw [Array.size_push] at hs;cases n with
   | zero=>omega
   | succ n =>
    obtain ⟨seen',acc',vo',e',h',w',tm',tm2,a1,a2,a3,a4,a5⟩:=WE h64 n (by rw [Array.size_push];omega) L1;refine ⟨seen',acc',vo',e',h',w',tm',tm2,a1,a2,fun q=>?_,a4,fun k ds cs=>(st k ds cs).trans (a5 k ds cs)⟩;rw [q] at a2;have:=a2.length_eq;rw [List.length_nil] at this;omega
theorem VN {α:Type} {lt:α→α→Prop} (asym:∀ x y,lt x y→¬ lt y x):∀ {a b:List α},a.Pairwise lt→b.Pairwise lt→a.Perm b→a=b
 | [],b,_,_,h=>(List.nil_perm.1 h).symm ▸ rfl
 | x :: a,[],_,_,h=>by have:=h.length_eq;cases this
 | x :: a,y :: b,h1,h2,h=>by
  rw [zH5] at h1 h2;have e:x=y:=by
   rcases zE7.1 (h.mem_iff.1 (show x∈x :: a by simp)) with q|q
   ·exact q
   ·rcases zE7.1 (h.mem_iff.2 (show y∈y :: b by simp)) with r|r
    ·exact r.symm
    ·exact absurd (h1.1 y r) (asym _ _ (h2.1 x q))
  subst e;rw [VN asym h1.2 h2.2 h.cons_inv]
theorem P8 (x y:Di) (h:jl x y):¬ jl y x:=fun g=>diL_ord.irr x (diL_ord.tr h g)
theorem qb6 {x y:Di} (h:¬ zX x y):jl x y∨jl y x:=by
 unfold jl;rcases zE6 x.tt y.tt with r|r|r
 ·exact .inl (.inl r)
 ·rcases Zd x.d y.d with q|q|q
  ·exact .inl (.inr ⟨r,q⟩)
  ·exact absurd ⟨r,q⟩ h
  ·exact .inr (.inr ⟨r.symm,q⟩)
 ·exact .inr (.inl r)
open Classical in
noncomputable def qcT (x:Di):List Di→List Di
 | []=>[x]
 | y :: l=>if jl x y then x :: y :: l else y :: qcT x l
noncomputable def qcn:List Di→List Di
 | []=>[]
 | x :: l=>qcT x (qcn l)
theorem insD_perm {x:Di}:∀ {l:List Di},(qcT x l).Perm (x :: l)
 | []=>List.Perm.refl _
 | y :: l=>by
  unfold qcT;split
  ·exact List.Perm.refl _
  ·exact (List.Perm.cons y insD_perm).trans (List.Perm.swap x y l)
theorem srtD_perm:∀ {l:List Di},(qcn l).Perm l
 | []=>List.Perm.refl _
 | x :: l=>insD_perm.trans (List.Perm.cons x srtD_perm)
theorem qbU {x:Di}:∀ {l:List Di},l.Pairwise jl→(∀ y∈l,¬ zX x y)→(qcT x l).Pairwise jl
 | [],_,_=>List.pairwise_singleton _ _
 | y :: l,h,hx=>by
  have h':=zH5.1 h;unfold qcT;split
  ·rename_i q
   refine zH5.2 ⟨fun z hz=>?_,h⟩;rcases zE7.1 hz with rfl|r
   ·exact q
   ·exact diL_ord.tr q (h'.1 z r)
  ·rename_i q
   refine zH5.2 ⟨fun z hz=>?_,qbU h'.2 fun u hu=>hx u (List.mem_cons_of_mem _ hu)⟩;rcases zE7.1 (insD_perm.mem_iff.1 hz) with rfl|r
   ·rcases qb6 (hx y (by simp)) with u|u
    ·exact absurd u q
    ·exact u
   ·exact h'.1 z r
theorem gY:∀ {l:List Di},l.Pairwise (fun x y=>¬ zX x y)→(qcn l).Pairwise jl
 | [],_=>List.Pairwise.nil
 | x :: l,h=>by
  have h':=zH5.1 h;exact qbU (gY h'.2) fun y hy=>h'.1 y (srtD_perm.mem_iff.1 hy)
theorem YF {x y:Di} (h:zX x y):zX y x:=⟨h.1.symm,h.2.symm⟩
theorem qgc {l:List Di} {x:Di} (h:l.Pairwise fun x y=>¬ zX x y):(Zw l x).Pairwise fun x y=>¬ zX x y:=by
 unfold Zw;cases hk:YJ x l 0 with
 | some k =>
  have h1:=(Zl hk).2.1;rw [Nat.sub_zero] at h1;simp only;have key:∀ i,(l.set k ⟨(l.getD k default).t,(l.getD k default).d,(l.getD k default).n+1⟩)[i]?.map (fun y:Di=>(y.tt,y.d))=l[i]?.map (fun y:Di=>(y.tt,y.d)):=fun i=>by
   rw [List.getElem?_set];by_cases e:k=i
   ·subst e;rw [if_pos rfl,if_pos h1,zA4 h1];simp [zA2,zA4 h1]
   ·rw [if_neg e]
  have hm:(l.set k ⟨(l.getD k default).t,(l.getD k default).d,(l.getD k default).n+1⟩).map (fun y:Di=>(y.tt,y.d))=l.map (fun y:Di=>(y.tt,y.d)):=by
   apply List.ext_getElem?
   intro i;rw [zH8,zH8];exact key i
  have conv:∀ m:List Di,m.Pairwise (fun x y=>¬ zX x y)↔(m.map (fun y:Di=>(y.tt,y.d))).Pairwise (·≠·):=fun m=>by
   rw [List.pairwise_map];constructor
   ·exact fun q=>q.imp fun {a b} z e=>z ⟨(Prod.mk.inj e).1,(Prod.mk.inj e).2⟩
   ·exact fun q=>q.imp fun {a b} z e=>z (by rw [e.1,e.2])
  rw [conv,hm,← conv];exact h
 | none =>
  rw [List.pairwise_append];refine ⟨h,List.pairwise_singleton _ _,fun a ha b hb=>?_⟩;rw [zB5.1 hb];exact fun q=>Vg hk a ha (YF q)
theorem Gh {p:Pb} {q:List Int}:∀ n,(XT p q n).Pairwise fun x y=>¬ zX x y
 | 0=>List.Pairwise.nil
 | n+1=>by
  have ih:=Gh (p:=p) (q:=q) n;unfold XT;split
  ·exact qgc ih
  ·exact ih
noncomputable def Ja (p:Pb) (q:List Int):List Di:=qcn (XT p q q.length)
theorem qcm {l acc l':List Di} (hnk:l.Pairwise fun x y=>¬ zX x y) (h1:acc.Perm l) (h2:Sw 0 acc.length acc l') (h3:Srt jl 0 acc.length l'):l'=qcn l:=by
 have hp:l'.Perm l:=h2.perm.trans h1;have hn:l'.Pairwise fun x y=>¬ zX x y:=by
  refine (List.Perm.pairwise_iff (fun {x y} z q=>z (YF q)) hp).2 hnk
 have hlen:l'.length=acc.length:=h2.len;have hw:l'.Pairwise jl:=by
  rw [zD2] at hn ⊢;intro i j hi hj hij;have e1:l'.getD i default=l'[i]:=by rw [zA2,zA4 hi];rfl
  have e2:l'.getD j default=l'[j]:=by rw [zA2,zA4 hj];rfl
  have:=h3 i j (zB0 _) hij (by omega);rw [e1,e2] at this;rcases qb6 (hn i j hi hj hij) with r|r
  ·exact r
  ·exact absurd r this
 exact VN P8 hw (gY hnk) (hp.trans srtD_perm.symm)
end Go.Proofs.Xx
namespace Go.Proofs.Xx
open Go Go.RowKit Go.Proofs
noncomputable def WF (L:List Di) (h:AH):Value×AH:=match L with
 | []=>(.slice none 0 0,h.lo0)
 | x :: r=>(.slice (some ⟨h.next,0,none⟩) (x :: r).length (x :: r).length,(h.add (.cells ((x :: r).flatMap jb) 50 (some 3) false)).lo0)
theorem qiS:∃ o,o11[0]? = some o∧o.op = .move (.tmp 5)∧o.dst=some 41∧o.guard=none:=⟨_,rfl,rfl,rfl,rfl⟩
theorem qiR:∃ o,o11[1]? = some o∧o.op = .range 95 (.tmp 41)∧o.dst=some 42∧o.guard=none:=⟨_,rfl,rfl,rfl,rfl⟩
theorem qiQ:List.range o11.size=[0,1]:=by kernel_rfl
theorem qeI:Tryz.prog.underlying 95=some (.map 50 3):=by kernel_rfl
theorem Pi {w:World} {tm:Array Value} {bm:Nat} {es:Array MapEntry} {clock:Nat} (hs:tm.size=57) (h5:Zn tm (.tmp 5) = .map (some bm)) (hb:w.heap[bm]? = some (.map es clock)) (k:List Item) (ds:List Deferred) (cs:List Frame) :
 Steps Tryz.prog (lone (fr 16 none tm (.code (.seq (.seq (.region 11 o11 false) (.block 2 (.loop qah))) qag) :: k) ds) cs w)
  (lone (fr 16 none (Qu (Qu tm (some 41) (.map (some bm))) (some 42) (.pointer (some ⟨w.heap.size,0,none⟩))) (qcS (.code qag :: k)) ds) cs (w.alloc (.mapIter (some bm) clock #[] clock))):=by
 obtain ⟨a,a1,a2,a3,a4⟩:=qiS;obtain ⟨c,c1,c2,c3,c4⟩:=qiR;refine .head Jr (.head Jr (.head X7 ?_));rw [qiQ];refine .head (jL a1 (want a4) (by rw [a2];rfl) (v:=.map (some bm)) (w':=w) ?_) ?_
 ·unfold execOp;rw [a2];simp only [h5];first|rfl|(rw [zA5];rfl)
 rw [a3];refine .head (jL c1 (want c4) (by rw [c2];rfl) (v:=.pointer (some ⟨w.heap.size,0,none⟩)) (w':=w.alloc (.mapIter (some bm) clock #[] clock)) ?_) ?_
 ·unfold execOp;rw [c2];simp only [Y8 (show 41<tm.size by omega),zA5,run_range_map w 95 50 3 bm es clock qeI hb,zA1];rfl
 rw [c3];exact .head Qw (.head JE (.head J9 (.refl _ _)))
theorem qjb {e:Emb} {L:Ks} {tm:Array Value} {sz:Nat} (hs:tm.size=sz) (h:∀ k v,L.get k=some v→∃ v',tm[k]? = some v'∧VR e v v'):TR e sz L.tree tm:=⟨hs,fun k v hv=>h k v (by rw [← Ks.jH];exact hv)⟩
theorem qbZ {tm:Array Value} {k:Nat} (hk:k<tm.size):tm[k]? = some (Zn tm (.tmp k)):=by
 unfold Zn;simp [Array.getD,hk]
theorem qc9 {l:List Di} (h64:l.length≤100) (hnk:l.Pairwise fun x y=>¬ zX x y) {B:Bs} {eA:Emb} {hA:AH} {wA:World} {tmA:Array Value} (rA:Rel B eA hA wA) {mb:Nat} (hmb:hA.get mb=some (.map (JQ l) l.length)) (TA:TR eA 57 (Ks.tree [(5,.map (some mb)),(8,.slice none 0 0)]) tmA) :
 ∃ (l':List Di) (vo:Value) (b:Emb) (h:AH) (w:World) (tm:Array Value),l'=qcn l∧(l'=[]→vo = .slice none 0 0)∧Rel ⟨wA.heap.size+1,w.heap⟩ b h w∧Hs hNil h [.sl vo 50 3 jb l']∧TR b 57 (Ks.tree [(4,vo)]) tm ∧
  (∀ k,k<wA.heap.size→w.heap[k]? = wA.heap[k]?)∧w.os=wA.os∧w.tape=wA.tape∧w.output=wA.output∧wA.heap.size≤w.heap.size ∧
  ∀ k ds cs,∃ k',Steps Tryz.prog (lone (fr 16 none tmA (.code (.seq (.seq (.region 11 o11 false) (.block 2 (.loop qah))) qag) :: k) ds) cs wA) (lone (fr 16 none tm (.code .ret :: k') ds) cs w):=by
 have hs:=TA.1;have h5:=qF (o:=.tmp 5) (v:=.map (some mb)) TA (by show Tr.get _ 5=_;rw [Ks.jH];rfl);have h8:=qF (o:=.tmp 8) (v:=.slice none 0 0) TA (by show Tr.get _ 8=_;rw [Ks.jH];rfl);obtain ⟨bm,e5,hbm⟩:∃ bm,Zn tmA (.tmp 5) = .map (some bm)∧∃ M,eA mb=some M∧M.blk=bm:=by
  generalize Zn tmA (.tmp 5)=u at h5 ⊢
  cases h5 with
  | map b M hM=>exact ⟨_,rfl,M,hM,rfl⟩
 have e8:Zn tmA (.tmp 8) = .slice none 0 0:=by
  generalize Zn tmA (.tmp 8)=u at h8 ⊢
  cases h8;rfl
 obtain ⟨M,hM,rfl⟩:=hbm;obtain ⟨es',g1,g2⟩:=rA.obj mb M _ hM hmb;have hes:es'=meD l:=by
  have:=qeD g2 qcZ;unfold meD;rw [← this]
 subst hes;have hlt:M.blk<wA.heap.size:=rA.rng mb M hM;obtain ⟨I,hI⟩:∃ I,I=wA.heap.size:=⟨_,rfl⟩
 obtain ⟨w1,hw1⟩:∃ w1,w1=wA.alloc (.mapIter (some M.blk) l.length #[] l.length):=⟨_,rfl⟩
 have hheap:w1.heap=wA.heap.push (.mapIter (some M.blk) l.length #[] l.length):=by rw [hw1];rfl
 have hold:∀ k,k<wA.heap.size→w1.heap[k]? = wA.heap[k]?:=fun k hk=>by rw [hheap,Array.getElem?_push_lt hk,zE1 hk]
 have st1:=fun k ds cs=>Pi (k:=k) (ds:=ds) (cs:=cs) hs e5 g1;rw [← hw1,← hI] at st1;have hsz:w1.heap.size=I+1:=by rw [hheap,Array.size_push,hI]
 have L0:LI l I M.blk wA #[] [] (.slice none 0 0) (fun b=>if b=0 then some ⟨I,0,0⟩ else none) hNil w1 (Qu (Qu tmA (some 41) (.map (some M.blk))) (some 42) (.pointer (some ⟨I,0,none⟩))):=by
  refine ⟨⟨fun b L q=>?_,qbV,fun b L q=>?_,fun b L o q1 q2=>?_,fun b L o b' L' o' q1 q2=>?_,fun b L o q1 q2=>?_,?_,fun k q=>rfl,?_⟩,rfl,(Hs.start qbV).Xg,qjb ?_ fun k v hv=>?_,?_,?_,by omega,fun k hk=>hold k (by omega),?_,?_,?_,by simp,fun j hj=>by simp at hj,rfl⟩
  ·show b<1
   by_cases z:b=0
   ·omega
   ·simp [z] at q
  ·by_cases z:b=0
   ·simp only [z,if_true] at q;cases q
    show I<w1.heap.size;omega
   ·simp [z] at q
  ·rw [show hNil.get b=none from Tr.XL b] at q2;cases q2
  ·rw [show hNil.get b=none from Tr.XL b] at q2;cases q2
  ·rw [show hNil.get b=none from Tr.XL b] at q2;cases q2
  ·show I+1≤w1.heap.size;omega
  ·obtain ⟨k1,⟨m,el,fr,k2⟩,k3⟩:=rA.glob;have hb0:=rA.base;refine ⟨by show 1<I+1;have:1<B.lo:=k1;omega,⟨m,el,fr,?_⟩,fun q=>?_⟩
   ·exact (hold 0 (by have:1<B.lo:=k1;omega)).trans ((rA.keep 0 (by have:1<B.lo:=k1;omega)).trans k2)
   ·obtain ⟨el,fr,k4⟩:=k3 q;exact ⟨el,fr,(hold 1 (by have:1<B.lo:=k1;omega)).trans ((rA.keep 1 k1).trans k4)⟩
  ·unfold Qu;simp [hs]
  ·simp only [Ks.get] at hv;split at hv
   ·rename_i z
    have:=zA6 z;subst this;cases hv
    refine ⟨.slice none 0 0,?_,.nilSlice⟩;rw [qbZ (by unfold Qu;simp [hs]),qbK (by omega),qbK (by omega),e8]
   ·split at hv
    ·rename_i z
     have:=zA6 z;subst this;cases hv
     refine ⟨.pointer (some ⟨I,0,none⟩),?_,?_⟩
     ·rw [qbZ (by unfold Qu;simp [hs]),Y8 (by unfold Qu;simp [hs])]
     ·have:=VR.pointer (f:=fun b=>if b=0 then some ⟨I,0,0⟩ else none) 0 0 ⟨I,0,0⟩ rfl;simpa using this
    ·cases hv
  ·rw [hheap,hI];simp
  ·rw [hold _ hlt];exact g1
  ·rw [hw1];rfl
  ·rw [hw1];rfl
  ·rw [hw1];rfl
 obtain ⟨seen',acc,vo,e2,h2,w2,tm2,tm3,L2,p2,n2,t2,st2⟩:=WE h64 l.length (by omega) L0;have hal:acc.length≤100:=by rw [p2.length_eq];exact h64
 obtain ⟨e3,w3,tm4,L3,h3,r3,u3,t3,⟨l',le3,sw3,sr3,S3⟩,st3⟩:=qh0 (fn:=16) hXh (qfA L2.S (by omega)) L2.rel t2;have hk3:∀ k,k<I+1→w3.heap[k]? = w2.heap[k]?:=fun k hk=>r3.keep k hk;refine ⟨l',vo,e3,h3,w3,tm4,?_,fun q=>?_,?_,S3,TR.kn t3 (Kn.le (Kn.tree _) le3),fun k hk=>?_,?_,?_,?_,?_,fun k ds cs=>?_⟩
 ·exact qcm hnk p2 sw3 sr3
 ·refine n2 (List.eq_nil_of_length_eq_zero ?_);have:=sw3.len;rw [q,List.length_nil] at this;omega
 ·rw [← hI];exact r3.qd0
 ·rw [hk3 k (by omega),L2.old k (by omega)]
 ·rw [u3.os,L2.os]
 ·rw [u3.tape,L2.tape]
 ·rw [u3.output,L2.out]
 ·have:=r3.base;have h1:I+1≤w3.heap.size:=this;omega
 ·obtain ⟨k',s⟩:=st3 ds k cs;exact ⟨k',(st1 k ds cs).trans ((st2 _ ds cs).trans s)⟩
end Go.Proofs.Xx
namespace Go.Proofs.Xx
open Go Go.RowKit Go.Proofs
theorem qdn {f g:Emb} {k:IntKind} {n:Int} {v:Value} (h:VR f (.int k n) v):VR g (.int k n) v:=by cases h;exact .int k n
theorem qdm {f g:Emb} {s:ByteArray} {v:Value} (h:VR f (.string s) v):VR g (.string s) v:=by cases h;exact .string s
theorem qfW:∀ {L:List Di} {v:Value},v∈L.flatMap jb→(∃ n,v = .int .i64 n)∨∃ s,v = .string s:=fun {L v} h=>by
 obtain ⟨x,-,hx⟩:=zG9.1 h;unfold jb at hx;simp at hx;rcases hx with rfl|rfl|rfl
 ·exact .inl ⟨_,rfl⟩
 ·exact .inr ⟨_,rfl⟩
 ·exact .inl ⟨_,rfl⟩
theorem XO:∀ (L:List Di),(L.flatMap jb).length=L.length*3
 | []=>rfl
 | x :: L=>by rw [zG2,zB2,XO L,zC4,show (jb x).length=3 from rfl];omega
theorem qdb {h:AH} (pv:PbV) (p:Pb) (H:PbOk h pv p) (hP:PO p) (sq:SlV) (q:List Int) (rq:zC h sq.val 1 eI q) (hQ:PartOk p q):∀ B e w args',Rel B e h w→VRs e [pv.val,sq.val] args' →
 ∃ e' v' w',Rel B e' (WF (Ja p q) h).2 w'∧Turn e h w e' (WF (Ja p q) h).2 w'∧VR e' (WF (Ja p q) h).1 v' ∧
  ((
   callFunc 16 args'.toArray).run Tryz.prog w = .ok (.value v') w' ∨
   ((callFunc 16 args'.toArray).run Tryz.prog w = .ok (.enter 16 args'.toArray) w∧∀ c cs,Steps Tryz.prog (lone (Frame.enter Tryz.prog 16 args'.toArray .normal) (c :: cs) w) (lone (c.finish v') cs w'))):=by
 intro B e w args' r hargs;have hlen:=hargs.length;have hbody:Tryz.f16.body=some P7:=by kernel_rfl
 have hfn:Tryz.prog.funcs[16]? = some Tryz.f16:=Tryz.func16;have hcall:(callFunc 16 args'.toArray).run Tryz.prog w = .ok (.enter 16 args'.toArray) w:=by
  simp only [callFunc,zA5,run_program,zA1,hfn,Jt _ _ hfn (by rw [hbody];rfl),zD8,if_false,hbody,Option.isNone_some,zB1]
 have hent:Frame.enter Tryz.prog 16 args'.toArray .normal=fr 16 none (args'.toArray ++ Array.replicate (Tryz.f16.ntmps - args'.length) undef) [.code P7] []:=by
  simp [Frame.enter,fr,hfn,hbody]
 have T0:TR e 57 (zZ 0 [pv.val,sq.val] .e) (args'.toArray ++ Array.replicate (Tryz.f16.ntmps - args'.length) undef):=by
  refine QD ⟨by simp [hlen],fun k u hk=>by rw [Tr.XL] at hk;cases hk⟩ hargs (by show 0+2≤57;omega) fun j hj=>?_;rw [zG1,Array.getElem?_append_left (by simpa using hj)];simp
 have T1:TR e 57 (Ks.tree [(0,pv.val),(1,sq.val)]) (args'.toArray ++ Array.replicate (Tryz.f16.ntmps - args'.length) undef):=TR.kn T0 fun k v hk=>by
  simp only [Ks.get] at hk;simp only [zZ,Tr.QB];split at hk
  ·rename_i z
   have:=zA6 z;subst this;rw [if_neg (by omega),if_pos rfl];exact hk
  ·split at hk
   ·rename_i z
    have:=zA6 z;subst this;rw [if_pos rfl];exact hk
   ·cases hk
 have hq64:q.length≤64:=by rw [hQ.len];exact hP.rl.l64
 obtain ⟨eA,wA,tmA,LA,hA,rA,uA,tA,⟨b2,mb,leA,SA⟩,stA⟩:=qhZ (fn:=16) (m:=4) hXh (qeK r.wf pv p H hP sq q rq hQ) qda r T1;have TA:=TR.kn tA (Kn.le (Kn.tree _) leA);have hdl:=Gi (p:=p) (q:=q) q.length;obtain ⟨L,vo,eF,hF,wF,tmF,hL,hnil,rF,SF,tF,old,os,tape,out,szF,stF⟩:=qc9 (l:=XT p q q.length) (by omega) (Gh _) rA SA.mkG TA;have hLd:L=Ja p q:=hL;rw [← hLd];have hold:∀ k,k<wA.heap.size→wF.heap[k]? = wA.heap[k]?:=old;have hobj:∀ b M o,e b=some M→h.get b=some o→ObjR e M wF o:=fun b M o q1 q2=>by
  have a1:=(r.obj b M o q1 q2).back uA.le (rA.obj b M o (uA.le b M q1) ((SA.ext.old b (r.dom b M q1)).trans q2));exact a1.world (hold _ (zE3 (r.rng b M q1) uA.size))
 have hres:jr Tryz.prog (Ks.tree [(4,vo)]) hF Tryz.f16.results.toList=some [vo]:=by
  rw [show Tryz.f16.results.toList=[.tmp 4] by kernel_rfl];simp only [jr,Jf,Ks.jH];rfl
 obtain ⟨vs',p1,p2⟩:=QR (P:=Tryz.prog) rF tF hres;obtain ⟨v',r',rfl,hv',hr'⟩:=p2.cons_inv;obtain rfl:=hr'.jv;have hst:∀ c cs,Steps Tryz.prog (lone (Frame.enter Tryz.prog 16 args'.toArray .normal) (c :: cs) w) (lone (c.finish v') cs wF):=fun c cs=>by
  rw [hent];obtain ⟨k',s⟩:=stF [] [] (c :: cs);refine (stA [] [] (c :: cs)).trans (s.trans (.head qaC (.one (wE hfn ?_))));rw [YH,zA5,Array.mapM_eq_mapM_toList,Sem.run_map,p1];rfl
 have hbase:B.lo≤wF.heap.size:=zD0 rA.base szF;have hkeep:∀ k,k<B.lo→wF.heap[k]? = B.ref[k]?:=fun k hk=>(hold k (zE3 hk rA.base)).trans (rA.keep k hk);have hturn:∀ k,k<w.heap.size→(∀ b M,e b=some M→M.blk=k→b<0)→wF.heap[k]? = w.heap[k]?:=fun k hk hn=>by
  rw [hold k (zE3 hk uA.size)];exact uA.keep k hk fun b M q1 q2=>absurd (hn b M q1 q2) (zB7 _)
 have hsw:w.heap.size≤wF.heap.size:=zD0 uA.size szF;match L,hnil,SF,hLd with
 | [],hnil,SF,hLd =>
  have:=hnil rfl;subst this;refine ⟨e,v',wF,?_,?_,?_,.inr ⟨hcall,hst⟩⟩
  ·exact ⟨r.dom,r.wf,fun b M q1=>zE3 (r.rng b M q1) hsw,hobj,r.inj,r.own,hbase,hkeep,r.glob⟩
  ·exact ⟨e.le_refl,zA3 _,zB0 _,fun _ _ q _=>q,fun b M q1 n=>(by rw [n] at q1;cases q1),hsw,hturn,fun _ _ _=>rfl,os.trans uA.os,tape.trans uA.tape,out.trans uA.output⟩
  ·show VR e (.slice none 0 0) v'
   cases hv';exact .nilSlice
 | x :: L,hnil,SF,hLd =>
  obtain ⟨fp,k1,k2,k3⟩:=SF.sep;rcases k1 with ⟨-,k1⟩|⟨b,o,cc,slk,cap,rfl,c1,c2,c3,⟨c4,c5⟩,c6⟩
  ·cases k1
  generalize hLL:x :: L=LL at *
  have hpos:0<LL.length:=by rw [← hLL];simp
  have hflen:(LL.flatMap jb).length=LL.length*3:=XO LL;obtain ⟨LX,hLX,hv2⟩:∃ LX,eF b=some LX∧v' = .slice (some ⟨LX.blk,LX.sh+o,none⟩) LL.length (cap+LX.slack):=by
   cases hv' with
   | slice _ _ a _ _ LX h1 h2 h3 =>
    refine ⟨LX,h1,?_⟩;rcases h3 with rfl|⟨q1,-⟩
    ·rfl
    ·omega
  obtain ⟨ccw,fr_,d1,d2,d3,d4,d5,d6⟩:=rF.obj b LX _ hLX c1;have hown:wA.heap.size+1≤LX.blk:=rF.own b LX _ hLX c1 rfl;have hrng:LX.blk<wF.heap.size:=rF.rng b LX hLX;have hslk:LX.sh+cc.length+LX.slack*3≤ccw.size:=by
   rcases c6 with rfl|rfl
   ·have:=(d4 rfl).1;rw [this];omega
   ·exact d5 3 rfl
  obtain ⟨LN,hLN⟩:∃ LN:Loc,LN=⟨LX.blk,LX.sh+o,cap+LX.slack - LL.length⟩:=⟨_,rfl⟩
  have en:e h.next=none:=by
   cases q1:e h.next with
   | none=>rfl
   | some M=>exact absurd (r.dom _ M q1) (Nat.lt_irrefl _)
  let eN:Emb:=fun c=>if c=h.next then some LN else e c
  have hle:e.le eN:=fun c M q1=>by
   show (if c=h.next then some LN else e c)=some M
   rw [if_neg (fun z=>by rw [z,en] at q1;cases q1)];exact q1
  have hNN:eN h.next=some LN:=by show (if h.next=h.next then some LN else e h.next)=_;rw [if_pos rfl]
  have hNo:∀ c M,eN c=some M→(c=h.next∧M=LN)∨(c≠h.next∧e c=some M):=fun c M q1=>by
   by_cases z:c=h.next
   ·left
    have:eN c=some LN:=by rw [z];exact hNN
    rw [this] at q1;cases q1;exact ⟨z,rfl⟩
   ·right
    have:eN c=e c:=by show (if c=h.next then some LN else e c)=_;rw [if_neg z]
    rw [this] at q1;exact ⟨z,q1⟩
  have hcc:∀ i v,(LL.flatMap jb)[i]? = some v→cc[o+i]? = some v:=fun i v hi=>by
   have ht:(cc.drop o).take (LL.length*3)=LL.flatMap jb:=by
    have c3:=c3;simp only [zq] at c3;split at c3
    ·exact Option.some.inj c3
    ·cases c3
   have hil:i<LL.length*3:=by
    have:=(zD5.1 hi).1;omega
   have e1:((cc.drop o).take (LL.length*3))[i]? = some v:=by rw [ht];exact hi
   rw [zC7,if_pos hil,zC3] at e1;exact e1
  have hoN:ObjR eN LN wF (.cells (LL.flatMap jb) 50 (some 3) false):=by
   refine ⟨ccw,fr_,by rw [hLN];exact d1,?_,fun i v hi=>?_,fun q=>(by cases q),fun k hk=>?_,d6⟩
   ·rw [hflen,hLN];show LX.sh+o+LL.length*3≤ccw.size;omega
   ·obtain ⟨u,u1,u2⟩:=d3 (o+i) v (hcc i v hi);refine ⟨u,by rw [hLN];show ccw[LX.sh+o+i]? = some u;rw [zF7];exact u1,?_⟩;rcases qfW (List.mem_of_getElem? hi) with ⟨n,rfl⟩|⟨s,rfl⟩
    ·exact qdn u2
    ·exact qdm u2
   ·cases hk
    rw [hflen,hLN];show LX.sh+o+LL.length*3+(cap+LX.slack - LL.length)*3≤ccw.size
    omega
  have hlo:∀ c M,e c=some M→M.blk<wA.heap.size:=fun c M q1=>zE3 (r.rng c M q1) uA.size;have hdV:WF LL h=(.slice (some ⟨h.next,0,none⟩) LL.length LL.length,(h.add (.cells (LL.flatMap jb) 50 (some 3) false)).lo0):=by rw [← hLL];rfl
  rw [hdV];have hget:∀ c,(h.add (.cells (LL.flatMap jb) 50 (some 3) false)).lo0.get c=if c=h.next then some (.cells (LL.flatMap jb) 50 (some 3) false) else h.get c:=fun c=>AH.zf ..
  refine ⟨eN,v',wF,?_,?_,?_,.inr ⟨hcall,hst⟩⟩
  ·refine ⟨fun c M q1=>?_,fun c hc=>?_,fun c M q1=>?_,fun c M ob q1 q2=>?_,fun c M ob c' M' ob' q1 q2 q3 q4 q5 q6 q7=>?_,fun c M ob q1 q2 q3=>?_,hbase,hkeep,r.glob⟩
   ·show c<h.next+1
    rcases hNo c M q1 with ⟨z,-⟩|⟨-,z⟩
    ·omega
    ·have:=r.dom c M z;omega
   ·have hc:h.next+1≤c:=hc
    rw [hget,if_neg (by omega)];exact r.wf c (by omega)
   ·rcases hNo c M q1 with ⟨-,z⟩|⟨-,z⟩
    ·rw [z,hLN];exact hrng
    ·exact zE3 (r.rng c M z) hsw
   ·rw [hget] at q2;rcases hNo c M q1 with ⟨z,z2⟩|⟨z,z2⟩
    ·rw [if_pos z] at q2;cases q2;rw [z2];exact hoN
    ·rw [if_neg z] at q2;exact (hobj c M ob z2 q2).mono hle
   ·rw [hget] at q2 q4;rcases hNo c M q1 with ⟨z,z2⟩|⟨z,z2⟩<;>rcases hNo c' M' q3 with ⟨y,y2⟩|⟨y,y2⟩
    ·omega
    ·have:=hlo c' M' y2;rw [z2,hLN] at q5;simp only at q5;omega
    ·have:=hlo c M z2;rw [y2,hLN] at q5;simp only at q5;omega
    ·rw [if_neg z] at q2;rw [if_neg y] at q4;exact r.inj c M ob c' M' ob' z2 q2 y2 q4 q5 q6 q7
   ·rw [hget] at q2;rcases hNo c M q1 with ⟨z,z2⟩|⟨z,z2⟩
    ·rw [z2,hLN];have:=rA.base;show B.lo≤LX.blk;omega
    ·rw [if_neg z] at q2;exact r.own c M ob z2 q2 q3
  ·refine ⟨hle,Nat.le_succ _,zB0 _,fun c M q1 hc=>?_,fun c M q1 n=>?_,hsw,hturn,fun c _ hc=>absurd hc (zB7 _),os.trans uA.os,tape.trans uA.tape,out.trans uA.output⟩
   ·rcases hNo c M q1 with ⟨z,-⟩|⟨-,z⟩
    ·omega
    ·exact z
   ·left
    rcases hNo c M q1 with ⟨-,z⟩|⟨-,z⟩
    ·rw [z,hLN];have:=uA.size;show w.heap.size≤LX.blk;omega
    ·rw [n] at z;cases z
  ·rw [hv2];have hcs:cap+LX.slack=LL.length+LN.slack:=by rw [hLN];show _=LL.length+(cap+LX.slack - LL.length);omega
   rw [hcs];exact .slice h.next 0 _ LL.length LL.length LN hNN (zA3 _) (.inl (by rw [hLN];rfl))
end Go.Proofs.Xx
