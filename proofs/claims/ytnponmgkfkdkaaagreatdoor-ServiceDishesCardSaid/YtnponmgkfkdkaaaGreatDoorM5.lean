/-
  Small lemmas for the rows.
-/
import Derived.Test.YtnponmgkfkdkaaaGreatDoorM4
import Derived.ChangeSame
set_option linter.unusedSectionVars false
set_option linter.unusedSimpArgs false
set_option linter.unusedVariables false
namespace Go.Proofs.Xx
open Go Go.RowKit Go.WideShapes Go.ChangeShapes
section
variable {H:Type} {enc:TypeId×Value→H} {P:Program}
theorem trodAll_length {W:World} {base:Nat} {sp:Nat→Bool} {held:Bool}:∀ {ts:List TypeId} {vs:List Value} {ds:List (DataW H)} {ps:List MemPlace},DataW.TrodAll enc P W base sp held ts vs ds ps→ds.length=ts.length
 | [],[],[],_,_=>rfl
 | t :: ts,v :: vs,d :: ds,ps,h=>by
  obtain ⟨p,q,_,h2,_⟩:=h;simp [trodAll_length h2]
 | [],[],_ :: _,_,h=>h.elim
 | [],_ :: _,_,_,h=>h.elim
 | _ :: _,[],_,_,h=>h.elim
 | _ :: _,_ :: _,[],_,h=>h.elim
theorem vU {f:Func} {s:ChangeSpec} {apart fresh handsOn again:Bool} {W W':World} {args:Array Value} {v:Value} {ds gs:List (DataW H)} {before pa pv:List MemPlace}
 (hW:DataW.Whole enc P f.params.toList s.vars apart W args.toList ds gs before)
 (hres:∀ (b:Nat) (sp:Nat→Bool) (hd:Bool),DataW.TrodAll enc P W' b sp hd f.resultTypes.toList (v.resultList f.resultTypes.size) (s.fn H (ds ++ gs)).results [])
 (hargs:∀ sp:Nat→Bool,(∀ p∈before,sp p.block=true)→DataW.TrodAll enc P W' 0 sp true f.params.toList args.toList (s.fn H (ds ++ gs)).args pa)
 (hvars:∀ sp:Nat→Bool,(∀ p∈before,sp p.block=true)→DataW.TrodVars enc P W' sp s.vars (s.fn H (ds ++ gs)).vars pv)
 (hps:before=pa ++ pv) (hb:Below W.heap.size W W')
 (hok:∀ (j:Nat) (t:TypeId) (r:Value),f.resultTypes[j]? = some t→(v.resultList f.resultTypes.size)[j]? = some r→Value.okWide P W' .any 0 t r) :
 s.post enc P f apart fresh handsOn again W args v W':=by
 have hlt:∀ p∈before,p.block<W.heap.size:=fun p hp=>hW.lt p hp;have hold:∀ p∈before,(fun b=>decide (b<W.heap.size)) p.block=true:=fun p hp=>by simpa using hlt p hp
 refine ⟨ds,gs,before,[],pa,pv,hW,hres _ _ _,hargs _ hold,hvars _ hold,World.keptBut_mono (fun p hp=>⟨hp,?_⟩) (hb.frame (·∈before)),fun _=>?_⟩
 ·rw [hps,zB8] at hp;exact Or.inr hp
 ·obtain ⟨_,_,_,_,_,hz,hn⟩:=hW;refine ⟨hok,_,_,([] ++ pa) ++ pv,⟨[] ++ pa,pv,trodAll_append (hargs _ (fun _ _=>rfl)) (hres _ _ _),hvars _ (fun _ _=>rfl),rfl,?_,?_⟩,?_⟩
  ·intro b off hp;have hin:MemPlace.cell b off∈before:=by rw [hps];simpa using hp
   rw [hb.frozen (hlt _ hin)];exact hz b off hin
  ·intro ha;have:=hn ha;rw [hps] at this;simpa using this
  ·intro p hp _;rw [hps];simpa using hp
end
end Go.Proofs.Xx
namespace Go.Proofs.Xx
open Go
abbrev Fp:=Nat→Prop
inductive Rs:Type 1 where
 | blk (b:Nat) (c:List Value) (e:TypeId)
 | sl {α:Type} (v:Value) (e:TypeId) (z:Nat) (enc:α→List Value) (l:List α)
 | rd {α:Type} (v:Value) (z:Nat) (enc:α→List Value) (l:List α)
 | mp {α:Type} (b:Nat) (enc:α→Value) (l:List (List UInt8×α))
 | any (p:AH→Fp→Prop)
abbrev zC {α:Type} (h:AH) (v:Value) (z:Nat) (enc:α→List Value) (l:List α):Prop:=Rd h v z l.length (l.flatMap enc)
def Rs.ok:Rs→AH→Fp→Prop
 | .blk b c e,h,fp=>h.get b=some (.cells c e none false)∧fp b
 | .sl v e z enc l,h,fp=>(v = .slice none 0 0∧l=[])∨∃ b o cc slk cap,v = .slice (some ⟨b,o,none⟩) l.length cap∧h.get b=some (.cells cc e slk false)∧fp b ∧
  zq cc o (l.length*z)=some (l.flatMap enc)∧(l.length≤cap∧o+cap*z≤cc.length)∧(slk=none∨slk=some z)
 | .rd v z enc l,h,fp=>(v = .slice none 0 0∧l=[])∨∃ b o cap cc e s r,v = .slice (some ⟨b,o,none⟩) l.length cap∧h.get b=some (.cells cc e s r)∧fp b∧zq cc o (l.length*z)=some (l.flatMap enc)
 | .mp b enc l,h,fp=>∃ es clock,h.get b=some (.map es clock)∧fp b∧es.map (fun e=>(e.1,e.2.1))=l.map (fun p=>(Value.string ⟨p.1.toArray⟩,enc p.2))∧(∀ e∈es,e.2.2<clock)∧(es.map (·.2.2)).Nodup
 | .any p,h,fp=>∀ h',(∀ b,fp b→h'.get b=h.get b)→p h' fp
theorem Rs.ok.local {r:Rs} {h h':AH} {fp:Fp} (k:r.ok h fp) (hs:∀ b,fp b→h'.get b=h.get b):r.ok h' fp:=by
 cases r with
 | blk b c e=>exact ⟨by rw [hs b k.2];exact k.1,k.2⟩
 | sl v e z enc l =>
  rcases k with k|⟨b,o,cc,slk,cap,h1,h2,h3,h4⟩
  ·exact .inl k
  ·exact .inr ⟨b,o,cc,slk,cap,h1,by rw [hs b h3];exact h2,h3,h4⟩
 | rd v z enc l =>
  rcases k with k|⟨b,o,cap,cc,e,s,r,h1,h2,h3,h4⟩
  ·exact .inl k
  ·exact .inr ⟨b,o,cap,cc,e,s,r,h1,by rw [hs b h3];exact h2,h3,h4⟩
 | mp b enc l =>
  obtain ⟨es,clock,h1,h2,h3⟩:=k;exact ⟨es,clock,by rw [hs b h2];exact h1,h2,h3⟩
 | any p=>exact fun h2 q=>k h2 fun b hb=>(q b hb).trans (hs b hb)
def Sep (lo:Nat) (h:AH):List Rs→Fp→Prop
 | [],_=>True
 | r :: rs,U=>∃ fp:Fp,r.ok h fp∧(∀ b,fp b→lo≤b∧b<h.next∧U b)∧Sep lo h rs (fun b=>U b∧¬ fp b)
theorem Sep.mono {lo:Nat} {h:AH}:∀ {rs:List Rs} {U U':Fp},(∀ b,U b→U' b)→Sep lo h rs U→Sep lo h rs U'
 | [],_,_,_,_=>trivial
 | r :: rs,U,U',hu,⟨fp,h1,h2,h3⟩=>⟨fp,h1,fun b hb=>⟨(h2 b hb).1,(h2 b hb).2.1,hu b (h2 b hb).2.2⟩,h3.mono fun b hb=>⟨hu b hb.1,hb.2⟩⟩
theorem Sep.frame {lo:Nat} {h h':AH}:∀ {rs:List Rs} {U:Fp},Sep lo h rs U→h.next≤h'.next→(∀ b,lo≤b→b<h.next→U b→h'.get b=h.get b)→Sep lo h' rs U
 | [],_,_,_,_=>trivial
 | r :: rs,U,⟨fp,h1,h2,h3⟩,hn,hs =>
  ⟨fp,h1.local fun b hb=>hs b (h2 b hb).1 (h2 b hb).2.1 (h2 b hb).2.2,fun b hb=>⟨(h2 b hb).1,zE3 (h2 b hb).2.1 hn,(h2 b hb).2.2⟩,h3.frame hn fun b q1 q2 q3=>hs b q1 q2 q3.1⟩
inductive At:List Rs→Rs→Prop where
 | here {r:Rs} {rs:List Rs}:At (r :: rs) r
 | there {r s:Rs} {rs:List Rs} (h:At rs r):At (s :: rs) r
inductive Ut:List Rs→Rs→Rs→List Rs→Prop where
 | here {r r':Rs} {rs:List Rs}:Ut (r :: rs) r r' (r' :: rs)
 | there {r r' s:Rs} {rs rs':List Rs} (h:Ut rs r r' rs'):Ut (s :: rs) r r' (s :: rs')
inductive Dt:List Rs→Rs→List Rs→Prop where
 | here {r:Rs} {rs:List Rs}:Dt (r :: rs) r rs
 | there {r s:Rs} {rs rs':List Rs} (h:Dt rs r rs'):Dt (s :: rs) r (s :: rs')
theorem At.ok {lo:Nat} {h:AH} {r:Rs} {rs:List Rs} (a:At rs r):∀ {U:Fp},Sep lo h rs U→∃ fp:Fp,r.ok h fp∧∀ b,fp b→lo≤b∧b<h.next∧U b:=by
 induction a with
 | here=>intro U ⟨fp,h1,h2,_⟩;exact ⟨fp,h1,h2⟩
 | there a ih =>
  intro U ⟨fq,_,_,h3⟩;obtain ⟨fp,q1,q2⟩:=ih h3;exact ⟨fp,q1,fun b hb=>⟨(q2 b hb).1,(q2 b hb).2.1,(q2 b hb).2.2.1⟩⟩
theorem Ut.ok {lo:Nat} {h h':AH} {r r':Rs} {rs rs':List Rs} (hlo:lo≤h.next) (hn:h.next≤h'.next) (u:Ut rs r r' rs'):∀ {U:Fp},Sep lo h rs U →
 ∃ fp:Fp,r.ok h fp∧(∀ b,fp b→lo≤b∧b<h.next∧U b)∧((∀ b,b<h.next→¬ fp b→h'.get b=h.get b)→(∃ fp':Fp,r'.ok h' fp'∧∀ b,fp' b→b<h'.next∧(fp b∨h.next≤b))→Sep lo h' rs' (fun b=>U b∨h.next≤b)):=by
 induction u with
 | here =>
  intro U ⟨fp,h1,h2,h3⟩;refine ⟨fp,h1,h2,fun hs ⟨fp',k1,k2⟩=>⟨fp',k1,fun b hb=>?_,?_⟩⟩
  ·rcases (k2 b hb).2 with q|q
   ·exact ⟨(h2 b q).1,(k2 b hb).1,.inl (h2 b q).2.2⟩
   ·exact ⟨by omega,(k2 b hb).1,.inr q⟩
  ·have aux:∀ {rs:List Rs} {V:Fp},Sep lo h rs V→(∀ b,V b→¬ fp b)→Sep lo h' rs (fun b=>V b∧b<h.next):=by
    intro rs;induction rs with
    | nil=>intro V _ _;trivial
    | cons s rs ih =>
     intro V ⟨fq,q1,q2,q3⟩ hv;refine ⟨fq,q1.local fun b hb=>hs b (q2 b hb).2.1 (hv b (q2 b hb).2.2),fun b hb=>⟨(q2 b hb).1,zE3 (q2 b hb).2.1 hn,(q2 b hb).2.2,(q2 b hb).2.1⟩,?_⟩;exact (ih q3 fun b hb=>hv b hb.1).mono fun b hb=>⟨⟨hb.1.1,hb.2⟩,hb.1.2⟩
   refine (aux h3 fun b hb=>hb.2).mono fun b hb=>⟨.inl hb.1.1,fun q=>?_⟩
   rcases (k2 b q).2 with q1|q1
   ·exact hb.1.2 q1
   ·omega
 | there a ih =>
  intro U ⟨fq,h1,h2,h3⟩;obtain ⟨fp,k1,k2,k3⟩:=ih h3;refine ⟨fp,k1,fun b hb=>⟨(k2 b hb).1,(k2 b hb).2.1,(k2 b hb).2.2.1⟩,fun hs he=>⟨fq,?_,fun b hb=>⟨(h2 b hb).1,zE3 (h2 b hb).2.1 hn,.inl (h2 b hb).2.2⟩,?_⟩⟩
  ·exact h1.local fun b hb=>hs b (h2 b hb).2.1 fun q=>(k2 b q).2.2.2 hb
  ·exact (k3 hs he).mono fun b hb=>by
    rcases hb with hb|hb
    ·exact ⟨.inl hb.1,hb.2⟩
    ·exact ⟨.inr hb,fun q=>by have:=(h2 b q).2.1;omega⟩
theorem Dt.sep {lo:Nat} {h:AH} {r:Rs} {rs rs':List Rs} (d:Dt rs r rs'):∀ {U:Fp},Sep lo h rs U→∃ fp:Fp,r.ok h fp∧(∀ b,fp b→lo≤b∧b<h.next∧U b)∧Sep lo h rs' (fun b=>U b∧¬ fp b):=by
 induction d with
 | here=>intro U ⟨fp,h1,h2,h3⟩;exact ⟨fp,h1,h2,h3⟩
 | there a ih =>
  intro U ⟨fq,h1,h2,h3⟩;obtain ⟨fp,k1,k2,k3⟩:=ih h3;exact ⟨fp,k1,fun b hb=>⟨(k2 b hb).1,(k2 b hb).2.1,(k2 b hb).2.2.1⟩,fq,h1,fun b hb=>⟨(h2 b hb).1,(h2 b hb).2.1,(h2 b hb).2.2,fun q=>(k2 b q).2.2.2 hb⟩,k3.mono fun b hb=>⟨⟨hb.1.1,hb.2⟩,hb.1.2⟩⟩
structure Hs (h0 h:AH) (rs:List Rs):Prop where
 ext:Ext h0 h
 sep:Sep h0.next h rs (fun _=>True)
theorem Hs.wf {h0 h:AH} {rs:List Rs} (S:Hs h0 h rs):WfH h:=S.ext.wf
theorem Hs.start {h:AH} (w:WfH h):Hs h h []:=⟨Ext.refl w,trivial⟩
theorem Hs.qE {h0 h h':AH} {rs:List Rs} (S:Hs h0 h rs) (x:Hs h h' []):Hs h0 h' rs:=⟨S.ext.trans x.ext,S.sep.frame x.ext.next fun b _ q _=>x.ext.old b q⟩
theorem Sep.join {h0 h h':AH} {rs:List Rs} (S:Hs h0 h rs) (x:Ext h h'):∀ {rs1:List Rs} {U:Fp},Sep h.next h' rs1 U→Sep h0.next h' rs (fun b=>b<h.next)→(∀ b,b<h.next→U b)→Sep h0.next h' (rs1 ++ rs) U
 | [],U,_,k,hu=>k.mono fun b hb=>hu b hb
 | r :: rs1,U,⟨fp,h1,h2,h3⟩,k,hu =>
  ⟨fp,h1,fun b hb=>⟨zD0 S.ext.next (h2 b hb).1,(h2 b hb).2⟩,Sep.join S x h3 k fun b hb=>⟨hu b hb,fun q=>by have:=(h2 b q).1;omega⟩⟩
theorem Hs.join {h0 h h':AH} {rs rs1:List Rs} (S:Hs h0 h rs) (x:Hs h h' rs1):Hs h0 h' (rs1 ++ rs):=by
 refine ⟨S.ext.trans x.ext,Sep.join S x.ext x.sep ?_ fun _ _=>trivial⟩;have aux:∀ {rs:List Rs} {V:Fp},Sep h0.next h rs V→Sep h0.next h' rs (fun b=>V b∧b<h.next):=by
  intro rs;induction rs with
  | nil=>intro V _;trivial
  | cons s rs ih =>
   intro V ⟨fq,q1,q2,q3⟩;exact ⟨fq,q1.local fun b hb=>x.ext.old b (q2 b hb).2.1,fun b hb=>⟨(q2 b hb).1,zE3 (q2 b hb).2.1 x.ext.next,(q2 b hb).2.2,(q2 b hb).2.1⟩,(ih q3).mono fun b hb=>⟨⟨hb.1.1,hb.2⟩,hb.1.2⟩⟩
 exact (aux S.sep).mono fun b hb=>hb.2
theorem Hs.jm {h0 h h':AH} {rs:List Rs} {r:Rs} (S:Hs h0 h rs) (x:Hs h h' [r]):Hs h0 h' (r :: rs):=S.join x
theorem Hs.qgH {h0 h h':AH} {rs:List Rs} {r r':Rs} (S:Hs h0 h rs) (x:Hs h h' [r,r']):Hs h0 h' (r :: r' :: rs):=S.join x
theorem Hs.del {h0 h:AH} {rs rs':List Rs} {r:Rs} (S:Hs h0 h rs) (d:Dt rs r rs'):Hs h0 h rs':=by
 obtain ⟨fp,_,_,k⟩:=d.sep S.sep;exact ⟨S.ext,k.mono fun _ _=>trivial⟩
theorem Hs.front {h0 h:AH} {rs rs':List Rs} {r:Rs} (S:Hs h0 h rs) (d:Dt rs r rs'):Hs h0 h (r :: rs'):=by
 obtain ⟨fp,k1,k2,k3⟩:=d.sep S.sep;exact ⟨S.ext,fp,k1,k2,k3⟩
theorem Hs.drop {h0 h:AH} {rs:List Rs} (S:Hs h0 h rs):Hs h0 h []:=⟨S.ext,trivial⟩
theorem Hs.only {h0 h:AH} {rs rs':List Rs} {r:Rs} (S:Hs h0 h rs) (d:Dt rs r rs'):Hs h0 h [r]:=by
 obtain ⟨fp,k1,k2,k3⟩:=d.sep S.sep;exact ⟨S.ext,fp,k1,k2,trivial⟩
theorem Hs.tail {h0 h:AH} {rs:List Rs} {r:Rs} (S:Hs h0 h (r :: rs)):Hs h0 h rs:=S.del .here
theorem Hs.grow {h0 h h':AH} {rs:List Rs} {r:Rs} (S:Hs h0 h rs) (x:Ext h h') {fp:Fp} (k:r.ok h' fp) (kf:∀ b,fp b→h.next≤b∧b<h'.next):Hs h0 h' (r :: rs) :=
 S.jm ⟨x,fp,k,fun b hb=>⟨(kf b hb).1,(kf b hb).2,trivial⟩,trivial⟩
theorem Hs.turn {h0 h h':AH} {rs rs':List Rs} {r r':Rs} (S:Hs h0 h rs) (u:Ut rs r r' rs') (hn:h.next≤h'.next) (w':WfH h')
 (hk:∀ fp:Fp,r.ok h fp→(∀ b,fp b→h0.next≤b∧b<h.next)→(∀ b,b<h.next→¬ fp b→h'.get b=h.get b)∧∃ fp':Fp,r'.ok h' fp'∧∀ b,fp' b→b<h'.next∧(fp b∨h.next≤b)):Hs h0 h' rs':=by
 obtain ⟨fp,k1,k2,k3⟩:=u.ok (h':=h') S.ext.next hn S.sep
 obtain ⟨q1,q2⟩:=hk fp k1 fun b hb=>⟨(k2 b hb).1,(k2 b hb).2.1⟩
 refine ⟨⟨zD0 S.ext.next hn,fun b hb=>?_,w'⟩,(k3 q1 q2).mono fun _ _=>trivial⟩;rw [q1 b (zE3 hb S.ext.next) fun q=>by have:=(k2 b q).1;omega];exact S.ext.old b hb
theorem Rd.QU {h0 h:AH} {rs:List Rs} {α:Type} {v:Value} {e:TypeId} {z:Nat} {enc:α→List Value} {l:List α} (S:Hs h0 h rs) (a:At rs (.sl v e z enc l)):zC h v z enc l:=by
 obtain ⟨fp,k,_⟩:=a.ok S.sep;rcases k with ⟨rfl,rfl⟩|⟨b,o,cc,slk,cap,h1,h2,h3,h4,h5⟩
 ·exact Rd.none_ h z
 ·exact .inr ⟨b,o,_,cc,e,slk,false,h1,h2,h4⟩
theorem Rd.qiJ {h0 h:AH} {rs:List Rs} {α:Type} {v:Value} {z:Nat} {enc:α→List Value} {l:List α} (S:Hs h0 h rs) (a:At rs (.rd v z enc l)):zC h v z enc l:=by
 obtain ⟨fp,k,_⟩:=a.ok S.sep;rcases k with ⟨rfl,rfl⟩|⟨b,o,cap,cc,e,s,r,h1,h2,h3,h4⟩
 ·exact Rd.none_ h z
 ·exact .inr ⟨b,o,cap,cc,e,s,r,h1,h2,h4⟩
theorem Rd.Kz {h0 h:AH} {rs:List Rs} {v:Value} {z n:Nat} {c:List Value} (S:Hs h0 h rs) (r:Rd h0 v z n c) (w:WfH h0):Rd h v z n c:=r.ext w S.ext
theorem Vr {h0 h:AH} {rs:List Rs} {b:Nat} {c:List Value} {e:TypeId} (S:Hs h0 h rs) (a:At rs (.blk b c e)):h.get b=some (.cells c e none false):=by
 obtain ⟨fp,k,_⟩:=a.ok S.sep;exact k.1
theorem Hs.add {h0 h:AH} {rs:List Rs} (S:Hs h0 h rs) (c:List Value) (e:TypeId):Hs h0 (h.add (.cells c e none false)) (.blk h.next c e :: rs) :=
 S.grow (fp:=fun b=>b=h.next) ((Ext.refl S.wf).add _) ⟨by rw [AH.zf,if_pos rfl],rfl⟩ fun b hb=>by subst hb;exact ⟨zA3 _,zG0 _⟩
theorem Hs.put {h0 h:AH} {rs rs':List Rs} {b:Nat} {c c':List Value} {e:TypeId} (S:Hs h0 h rs) (u:Ut rs (.blk b c e) (.blk b c' e) rs'):Hs h0 (h.put b (.cells c' e none false)) rs':=by
 obtain ⟨fp,k,k2,-⟩:=u.ok (h':=h) S.ext.next (zA3 _) S.sep
 refine S.turn u (zA3 _) (S.wf.put (k2 b k.2).2.1 _) fun fq q1 q2=>⟨fun j _ hj=>?_,fun j=>j=b,⟨by rw [AH.get_put,if_pos rfl],rfl⟩,fun j hj=>?_⟩
 ·rw [AH.get_put,if_neg];intro q;subst q;exact hj q1.2
 ·subst hj;exact ⟨(q2 _ q1.2).2,.inl q1.2⟩
def WP (v:Value) (z k off:Nat):Value :=
 match v with
 | .slice (some ⟨b,o,_⟩) _ _=>.pointer (some ⟨b,o+k*z+off,none⟩)
 | _=>.nilFunc
theorem zy {α:Type} {enc:α→List Value} {z:Nat} (hz:∀ x,(enc x).length=z):∀ l:List α,(l.flatMap enc).length=l.length*z
 | []=>by simp
 | x :: l=>by rw [zG2,zB2,hz,zy hz l,zC4,zE0,Nat.one_mul,Nat.add_comm]
theorem xy {a m:List Value} {z:Nat} (h:a.length=z) (k:Nat):(a ++ m).take ((k+1)*z)=a ++ m.take (k*z):=by
 have e:(k+1)*z=z+k*z:=by rw [zE0,Nat.one_mul,Nat.add_comm]
 rw [e,List.take_append,zF8 (by omega),h,Nat.add_sub_cancel_left]
theorem yP {a m:List Value} {z:Nat} (h:a.length=z) (k:Nat):(a ++ m).drop ((k+1)*z)=m.drop (k*z):=by
 have e:(k+1)*z=z+k*z:=by rw [zE0,Nat.one_mul,Nat.add_comm]
 rw [e,List.drop_append,List.drop_of_length_le (by omega),h,Nat.add_sub_cancel_left,zC0]
theorem QX {α:Type} {enc:α→List Value} {z:Nat} (hz:∀ x,(enc x).length=z):∀ (l:List α) (k:Nat),(l.take k).flatMap enc=(l.flatMap enc).take (k*z)
 | [],k=>by simp
 | x :: l,0=>by simp
 | x :: l,k+1=>by rw [List.take_succ_cons,zG2,zG2,QX hz l k,xy (hz x)]
theorem QY {α:Type} {enc:α→List Value} {z:Nat} (hz:∀ x,(enc x).length=z):∀ (l:List α) (k:Nat),(l.drop k).flatMap enc=(l.flatMap enc).drop (k*z)
 | [],k=>by simp
 | x :: l,0=>by simp
 | x :: l,k+1=>by rw [List.drop_succ_cons,zG2,QY hz l k,yP (hz x)]
theorem Yr {α:Type} [Inhabited α] {enc:α→List Value} {z:Nat} (hz:∀ x,(enc x).length=z) (l:List α) {k:Nat} (hk:k<l.length):((l.flatMap enc).drop (k*z)).take z=enc (l.getD k default):=by
 rw [← QY hz,zG7 hk,zG2,List.take_append_of_le_length (by rw [hz];omega),zF8 (by rw [hz];omega)];rw [zA2,zA4 hk];rfl
theorem Wu {α:Type} {enc:α→List Value} {z:Nat} (hz:∀ x,(enc x).length=z):∀ (l:List α) (k:Nat) (x:α),k<l.length→(l.set k x).flatMap enc=splice (l.flatMap enc) (k*z) (enc x)
 | [],k,x,h=>by simp at h
 | y :: l,0,x,h=>by
  simp only [List.set_cons_zero,zG2,splice,Nat.zero_mul,List.take_zero,zC0,zG1];rw [hz,List.drop_append,hz,zG6,List.drop_zero,List.drop_of_length_le (by rw [hz];omega),zC0]
 | y :: l,k+1,x,h=>by
  have ih:=Wu hz l k x (by simpa using h);simp only [List.set_cons_succ,zG2];rw [ih];simp only [splice];have e:(k+1)*z+z=(k+1+1)*z:=by rw [zE0 (k+1) 1 z,Nat.one_mul]
  have e2:k*z+z=(k+1)*z:=by rw [zE0,Nat.one_mul]
  rw [hz,xy (hz y),e,yP (hz y),e2,zF2]
end Go.Proofs.Xx
namespace Go.Proofs.Xx
open Go
def eI (x:Int):List Value:=[.int .i64 x]
def eB (x:Bool):List Value:=[.bool x]
def str (s:List UInt8):Value:=.string ⟨s.toArray⟩
def eS (s:List UInt8):List Value:=[str s]
def eV (v:Value):List Value:=[v]
def eU (x:Nat):List Value:=[.int .u8 x]
def YN (c:List Value):List Value:=c
theorem qdI (s:ByteArray):str s.data.toList = .string s:=by cases s;rfl
def qac (op:BinOp) (a b:Int):Option Prop :=
 match op with
 | .eql=>some (a=b)
 | .neq=>some (a≠b)
 | .lss=>some (a<b)
 | .leq=>some (a≤b)
 | .gtr=>some (a > b)
 | .geq=>some (a≥b)
 | _=>none
theorem qab {P:Program} {op:BinOp} {ty:TypeId} {k:IntKind} {a b:Int} {p:Prop} (h:qac op a b=some p):∀ v:Bool,(p↔v=true)→QO P op ty (.int k a) (.int k b)=some (.bool v):=by
 intro v hv;have key:∀ q:Prop,∀ d:Bool,(q↔d=true)→(q↔v=true)→d=v:=fun q d h1 h2=>by
  cases d<;>cases v<;>simp_all
 cases op<;>simp only [qac,Option.some.injEq] at h<;>try (cases h;done)
 all_goals (subst h)
 all_goals (simp only [QO,decide_true,cmpInt,Option.some.injEq,Value.bool.injEq])
 ·exact key _ _ (by simp) hv
 ·exact key _ _ (by simp) hv
 ·exact key _ _ (by simp) hv
 ·exact key _ _ (by simp) hv
 ·exact key _ _ (by simp) hv
 ·exact key _ _ (by simp) hv
section
variable {P:Program} {X:Extern} {inR:Bool} {sz:Nat} {L:Ks} {h h0:AH} {rs:List Rs} {ops:Array Oper} {os:List Oper} {o:Oper} {R:Ks→AH→Prop} {Q:KQ}
theorem qh {c:Operand} {a b:Code} {v:Bool} (hc:kA L c=some (.bool v)) (w:K P X inR sz (match v with|true=>a|false=>b) L h Q):K P X inR sz (.cond c a b) L h Q:=by
 refine qh3 hc ?_;cases v<;>exact w
def qe1 (id:Nat) (Q:KQ):KQ
 | .exit id',L,h=>match Nat.beq id' id with|true=>Q .norm L h|false=>Q (.exit id') L h
 | x,L,h=>Q x L h
theorem qj {id:Nat} {body:Code} (w:K P X inR sz body L h (qe1 id Q)):K P X inR sz (.block id body) L h Q:=by
 refine qgn (w.mono fun x L' h' q=>?_);cases x with
 | norm=>exact q
 | ret=>exact q
 | exit id' =>
  simp only [qe1] at q;simp only [qbl];by_cases e:id'=id
  ·subst e;rw [if_pos rfl];rw [show Nat.beq id' id'=true by simp] at q;exact q
  ·rw [if_neg e];rw [show Nat.beq id' id=false by rw [Bool.eq_false_iff];intro q;exact e (zA6 q)] at q;exact q
def qi2 {σ:Type} (I:σ→AH→Prop) (m:σ→Nat) (sl:σ→Ks) (s:σ) (Q:KQ):KQ
 | .norm,L,h=>∃ s',m s'<m s∧I s' h∧Ks.le (sl s') L
 | x,L,h=>Q x L h
theorem qH {σ:Type} {body:Code} (I:σ→AH→Prop) (m:σ→Nat) (sl:σ→Ks) (s0:σ) (hl:Ks.le (sl s0) L) (hi:I s0 h) (hb:∀ s h,I s h→K P X inR sz body (sl s) h (qi2 I m sl s Q)):K P X inR sz (.loop body) L h Q:=by
 refine qh2 (fun k L h=>∃ s,m s=k∧L=sl s∧I s h) ?_ (m s0) ⟨s0,rfl,rfl,hi⟩ hl;rintro k L h ⟨s,rfl,rfl,hs⟩;refine (hb s h hs).mono fun x L' h' q=>?_;cases x with
 | norm=>obtain ⟨s',q1,q2,q3⟩:=q;exact ⟨m s',sl s',q1,⟨s',rfl,rfl,q2⟩,q3⟩
 | exit id=>exact q
 | ret=>exact q
theorem qjH {L':Ks} {x y:Operand} {ty ty2:TypeId} {a b:Int} (ho:o.op = .binOp .add ty x y ty2) (hg:qp ops L.tree o.guard=some true) (hx:kA L x=some (.int .i64 a)) (hy:kA L y=some (.int .i64 b))
 (hb : -9223372036854775808≤a+b∧a+b≤9223372036854775807) (hp:qJ sz L o.dst (.int .i64 (a+b))=some L') (w:KO P X sz ops os L' h R):KO P X sz ops (o :: os) L h R :=
 jD ho hg hx hy (qga rfl hb.1 hb.2) hp w
theorem qjx {L':Ks} {x y:Operand} {ty ty2:TypeId} {a b:Int} (ho:o.op = .binOp .sub ty x y ty2) (hg:qp ops L.tree o.guard=some true) (hx:kA L x=some (.int .i64 a)) (hy:kA L y=some (.int .i64 b))
 (hb : -9223372036854775808≤a - b∧a - b≤9223372036854775807) (hp:qJ sz L o.dst (.int .i64 (a - b))=some L') (w:KO P X sz ops os L' h R):KO P X sz ops (o :: os) L h R :=
 jD ho hg hx hy (qft rfl hb.1 hb.2) hp w
theorem qjz {L':Ks} {x y:Operand} {ty ty2:TypeId} {a b:Int} (ho:o.op = .binOp .mul ty x y ty2) (hg:qp ops L.tree o.guard=some true) (hx:kA L x=some (.int .i64 a)) (hy:kA L y=some (.int .i64 b))
 (hb : -9223372036854775808≤a*b∧a*b≤9223372036854775807) (hp:qJ sz L o.dst (.int .i64 (a*b))=some L') (w:KO P X sz ops os L' h R):KO P X sz ops (o :: os) L h R :=
 jD ho hg hx hy (qfD rfl hb.1 hb.2) hp w
theorem qjy {L':Ks} {x y:Operand} {ty ty2:TypeId} {a b:Int} (ho:o.op = .binOp .quo ty x y ty2) (hg:qp ops L.tree o.guard=some true) (hx:kA L x=some (.int .i64 a)) (hy:kA L y=some (.int .i64 b))
 (hb:0≤a∧a≤9223372036854775807∧0<b) (hp:qJ sz L o.dst (.int .i64 (a / b))=some L') (w:KO P X sz ops os L' h R):KO P X sz ops (o :: os) L h R :=
 jD ho hg hx hy (by
  have h1:¬ b=0:=by omega
  have h2:a.tdiv b=a / b:=by rw [Int.tdiv_eq_ediv_of_nonneg hb.1]
  have h3:a / b≤a:=Int.ediv_le_self b hb.1;have h4:0≤a / b:=Int.ediv_nonneg hb.1 (by omega);simp only [QO,decide_true,decide_eq_false h1,h2];rw [wrap_i64 (by omega) (by omega)]) hp w
theorem qjB {L':Ks} {x y:Operand} {tys:Array TypeId} {k k':IntKind} {a b:Int} (ho:o.op = .call { callee:=.builtin .min,args:=#[x,y],argTypes:=tys }) (hg:qp ops L.tree o.guard=some true) (hx:kA L x=some (.int k a)) (hy:kA L y=some (.int k' b))
 (hp:qJ sz L o.dst (.int k (min a b))=some L') (w:KO P X sz ops os L' h R):KO P X sz ops (o :: os) L h R :=
 zJ hg (by
  rw [ho];simp only [ja,jO,qI hx,qI hy,jK,Vj,lesser,qU];have:(if b<a then b else a)=min a b:=by rw [Int.min_def];split<;>split<;>omega
  rw [this]) hp w
theorem qjC {L':Ks} {x y:Operand} {tys:Array TypeId} {k k':IntKind} {a b:Int} (ho:o.op = .call { callee:=.builtin .max,args:=#[x,y],argTypes:=tys }) (hg:qp ops L.tree o.guard=some true) (hx:kA L x=some (.int k a)) (hy:kA L y=some (.int k' b))
 (hp:qJ sz L o.dst (.int k (max a b))=some L') (w:KO P X sz ops os L' h R):KO P X sz ops (o :: os) L h R :=
 zJ hg (by
  rw [ho];simp only [ja,jO,qI hx,qI hy,jK,Vj,greater,qU];have:(if b > a then b else a)=max a b:=by rw [Int.max_def];split<;>split<;>omega
  rw [this]) hp w
theorem qjF {L':Ks} {op:BinOp} {x y:Operand} {ty ty2:TypeId} {k:IntKind} {a b:Int} {p:Prop} (ho:o.op = .binOp op ty x y ty2) (hg:qp ops L.tree o.guard=some true) (hx:kA L x=some (.int k a)) (hy:kA L y=some (.int k b))
 (hc:qac op a b=some p) (hq:p) (hp:qJ sz L o.dst (.bool true)=some L') (w:KO P X sz ops os L' h R):KO P X sz ops (o :: os) L h R :=
 jD ho hg hx hy (qab hc true (by simp [hq])) hp w
theorem qjG {L':Ks} {op:BinOp} {x y:Operand} {ty ty2:TypeId} {k:IntKind} {a b:Int} {p:Prop} (ho:o.op = .binOp op ty x y ty2) (hg:qp ops L.tree o.guard=some true) (hx:kA L x=some (.int k a)) (hy:kA L y=some (.int k b))
 (hc:qac op a b=some p) (hq:¬ p) (hp:qJ sz L o.dst (.bool false)=some L') (w:KO P X sz ops os L' h R):KO P X sz ops (o :: os) L h R :=
 jD ho hg hx hy (qab hc false (by simp [hq])) hp w
theorem qkq {L1 L2:Ks} {op:BinOp} {x y:Operand} {ty ty2:TypeId} {k:IntKind} {a b:Int} {p:Prop} (ho:o.op = .binOp op ty x y ty2) (hg:qp ops L.tree o.guard=some true) (hx:kA L x=some (.int k a)) (hy:kA L y=some (.int k b))
 (hc:qac op a b=some p) (hp1:qJ sz L o.dst (.bool true)=some L1) (hp2:qJ sz L o.dst (.bool false)=some L2) (w1:p→KO P X sz ops os L1 h R) (w2:¬ p→KO P X sz ops os L2 h R):KO P X sz ops (o :: os) L h R:=by
 by_cases hq:p
 ·exact qjF ho hg hx hy hc hq hp1 (w1 hq)
 ·exact qjG ho hg hx hy hc hq hp2 (w2 hq)
theorem qb7 {k:IntKind} {n:Int} (h:k.min≤n∧n≤k.max):k.wrap n=n:=by
 cases k<;>simp only [IntKind.min,IntKind.max,IntKind.wrap,IntKind.signed,IntKind.bits] at *<;>first|(simp at h ⊢;omega)|skip
end
end Go.Proofs.Xx
namespace Go.Proofs.Xx
open Go
def JM (P:Program) (ty:TypeId) (c:List Value) (k:Nat):Option Value :=
 match QF P ty with
 | some true=>match zU P ty with
  | some n=>match zq c k n with
   | some xs=>some (.agg xs.toArray)
   | none=>none
  | none=>none
 | some false=>c[k]?
 | none=>none
def Jq (P:Program) (ty:TypeId) (c:List Value) (k:Nat) (v:Value):Option (List Value) :=
 match zU P ty with
 | some n=>match Nat.beq v.cells.toList.length n && (v.cells.toList.all one? && Nat.ble (k+v.cells.toList.length) c.length) with
  | true=>some (splice c k v.cells.toList)
  | false=>none
 | none=>none
def Jk (P:Program) (ty:TypeId):Option Nat:=match P.underlying ty with|some (.slice e)=>zU P e | _=>none
theorem qeo {P:Program} {ty:TypeId} {cc c:List Value} {a n k:Nat} {v:Value} (ht:zq cc a n=some c) (h:JM P ty c k=some v):JM P ty cc (a+k)=some v:=by
 unfold JM at h ⊢;have hl:=J7 ht;split at h
 ·rename_i h1
  (try rw [h1])
  (try simp only)
  split at h
  ·rename_i m h2
   (try rw [h2])
   (try simp only)
   split at h
   ·rename_i xs h3
    have h4:=ZO h3;have h5:zq cc (a+k) m=some xs:=by
     rcases h4 with ⟨h4,h6⟩|⟨rfl,rfl⟩
     ·rw [QE ht (by omega),h4]
     ·simp [zq]
    rw [h5];exact h
   ·cases h
  ·cases h
 ·rename_i h1
  (try rw [h1])
  (try simp only)
  have hk:k<n:=by have:=(zD5.1 h).1;omega
  rw [qay ht hk];exact h
 ·cases h
theorem Jo {P:Program} {ty:TypeId} {h:AH} {b k:Nat} {c:List Value} {e:TypeId} {s:Option Nat} {r:Bool} (hg:h.get b=some (.cells c e s r)):Jp P ty (.pointer (some ⟨b,k,none⟩)) h=JM P ty c k:=by
 simp only [Jp,Zh,hg,JM];rfl
theorem Y0 {c xs:List Value} {o:Nat} (h:o+xs.length≤c.length) (j:Nat):(splice c o xs)[j]? = if j<o then c[j]? else if j<o+xs.length then xs[j - o]? else c[j]?:=by
 simp only [splice];rw [zF0,zA9,zE4 (by omega)];by_cases h1:j<o
 ·rw [if_pos h1,if_pos h1,zC7,if_pos h1]
 ·rw [if_neg h1,if_neg h1,zF0];by_cases h2:j<o+xs.length
  ·rw [if_pos h2,if_pos (by omega)]
  ·rw [if_neg h2,if_neg (by omega),zC3];congr 1;omega
theorem Xc {c xs:List Value} {o:Nat} (h:o+xs.length≤c.length):(splice c o xs).length=c.length:=by
 simp only [splice,zB2,zA9,zB4];omega
theorem wH {cc uc:List Value} {o n a z off:Nat} (h1:o+n≤cc.length) (h2:a+z≤n) (h3:off+uc.length≤z) :
 zq (splice cc (o+a+off) uc) o n=some (splice ((cc.drop o).take n) a (splice ((((cc.drop o).take n).drop a).take z) off uc)):=by
 have e1:o+a+off+uc.length≤cc.length:=by omega
 have l1:((cc.drop o).take n).length=n:=by rw [zA9,zB4];omega
 have l2:((((cc.drop o).take n).drop a).take z).length=z:=by rw [zA9,zB4,l1];omega
 have e2:off+uc.length≤((((cc.drop o).take n).drop a).take z).length:=by omega
 have e3:a+(splice ((((cc.drop o).take n).drop a).take z) off uc).length≤((cc.drop o).take n).length:=by rw [Xc e2];omega
 rw [X4 (by rw [Xc e1];exact h1)];congr 1
 refine List.ext_getElem? fun j=>?_;rw [Y0 e3,Xc e2,l2,zC7,zC3,Y0 e1];by_cases hj:j<n
 ·rw [if_pos hj];have base:((cc.drop o).take n)[j]? = cc[o+j]?:=by rw [zC7,if_pos hj,zC3]
  by_cases q1:j<a
  ·rw [if_pos q1,if_pos (by omega),base]
  ·rw [if_neg q1];by_cases q2:j<a+z
   ·rw [if_pos q2,Y0 e2];have piece:((((cc.drop o).take n).drop a).take z)[j - a]? = cc[o+j]?:=by
     rw [zC7,if_pos (by omega),zC3,show a+(j - a)=j by omega,base]
    by_cases q3:j - a<off
    ·rw [if_pos q3,if_pos (by omega),piece]
    ·rw [if_neg q3,if_neg (by omega)];by_cases q4:j - a<off+uc.length
     ·rw [if_pos q4,if_pos (by omega)];congr 1;omega
     ·rw [if_neg q4,if_neg (by omega),piece]
   ·rw [if_neg q2,if_neg (by omega),if_neg (by omega),base]
 ·rw [if_neg hj,if_neg (by omega),if_neg (by omega),zG5 (by omega)]
theorem Yv {P:Program} {ty:TypeId} {h:AH} {b k:Nat} {c c':List Value} {e:TypeId} {s:Option Nat} {v:Value} (hg:h.get b=some (.cells c e s false)) (hs:Jq P ty c k v=some c') :
 Xn P ty (.pointer (some ⟨b,k,none⟩)) v h=some (h.put b (.cells c' e s false)):=by
 unfold Jq at hs;split at hs
 ·rename_i n hn
  split at hs
  ·rename_i hc
   cases hs
   rw [zA8] at hc;simp only [Xn,Zh,hg,hn,hc.1,putCells,hc.2]
  ·cases hs
 ·cases hs
section
variable {P:Program} {X:Extern} {inR:Bool} {sz:Nat} {L:Ks} {h h0:AH} {rs:List Rs} {ops:Array Oper} {os:List Oper} {o:Oper} {R:Ks→AH→Prop} {Q:KQ}
theorem qi1 {x:Operand} {e:TypeId} {v:Value} {c:List Value} {d:Tmp} (S:Hs h0 h rs) (ho:o.op = .box e x) (hg:qp ops L.tree o.guard=some true) (hx:kA L x=some v) (hc:v.cells.toList=c) (hd:o.dst=some d) (hs:Nat.blt d sz=true)
 (w:∀ b h',Hs h0 h' (.blk b c e :: rs)→KO P X sz ops os (L.put d (.pointer (some ⟨b,0,none⟩))) h' R):KO P X sz ops (o :: os) L h R:=by
 subst hc;refine zJ (v:=.pointer (some ⟨h.next,0,none⟩)) (h':=h.add (.cells v.cells.toList e none false)) hg ?_ ?_ (w _ _ (S.add _ _))
 ·rw [ho];simp only [ja,qI hx,Gv]
 ·simp only [qJ,hd,hs]
theorem qfF {e:TypeId} {v:Value} {c:List Value} {d:Tmp} (S:Hs h0 h rs) (ho:o.op = .alloc e) (hg:qp ops L.tree o.guard=some true) (hz:Yo P e=some v) (hpl:QT v=true) (hc:v.cells.toList=c) (hd:o.dst=some d) (hs:Nat.blt d sz=true)
 (w:∀ b h',Hs h0 h' (.blk b c e :: rs)→KO P X sz ops os (L.put d (.pointer (some ⟨b,0,none⟩))) h' R):KO P X sz ops (o :: os) L h R:=by
 subst hc;refine zJ (v:=.pointer (some ⟨h.next,0,none⟩)) (h':=h.add (.cells v.cells.toList e none false)) hg ?_ ?_ (w _ _ (S.add _ _))
 ·rw [ho];simp only [ja,hz,hpl,Gv]
 ·simp only [qJ,hd,hs]
theorem qi0 {L':Ks} {x:Operand} {ty e:TypeId} {b k:Nat} {c:List Value} {v:Value} (S:Hs h0 h rs) (ho:o.op = .load ty x) (hg:qp ops L.tree o.guard=some true) (hx:kA L x=some (.pointer (some ⟨b,k,none⟩))) (hi:At rs (.blk b c e))
 (hv:JM P ty c k=some v) (hp:qJ sz L o.dst v=some L') (w:KO P X sz ops os L' h R):KO P X sz ops (o :: os) L h R :=
 GR ho hg hx (by rw [Jo (Vr S hi)];exact hv) hp w
theorem qiY {L':Ks} {rs':List Rs} {x y:Operand} {ty e:TypeId} {b k:Nat} {c c':List Value} {v:Value} (S:Hs h0 h rs) (ho:o.op = .store ty x y) (hg:qp ops L.tree o.guard=some true) (hx:kA L x=some (.pointer (some ⟨b,k,none⟩))) (hy:kA L y=some v)
 (hi:Ut rs (.blk b c e) (.blk b c' e) rs') (hv:Jq P ty c k v=some c') (hp:qJ sz L o.dst (.tuple #[])=some L') (w:∀ h',Hs h0 h' rs'→KO P X sz ops os L' h' R):KO P X sz ops (o :: os) L h R:=by
 have hg2:h.get b=some (.cells c e none false):=by
  obtain ⟨fp,k1,-⟩:=hi.ok (h':=h) S.ext.next (zA3 _) S.sep
  exact k1.1
 exact qam ho hg hx hy (Yv hg2 hv) hp (w _ (S.put hi))
theorem qgC {L':Ks} {x:Operand} {ty:TypeId} {v:Value} {z n:Nat} {c:List Value} (ho:o.op = .call { callee:=.builtin .len,args:=#[x],argTypes:=#[ty] }) (hg:qp ops L.tree o.guard=some true) (hx:kA L x=some v) (hu:(qV P ty).isSome=true)
 (hr:Rd h v z n c) (hp:qJ sz L o.dst (.int .i64 n)=some L') (w:KO P X sz ops os L' h R):KO P X sz ops (o :: os) L h R:=by
 obtain ⟨e,he⟩:=Option.isSome_iff_exists.1 hu;have he':P.underlying ty=some (.slice e):=by
  unfold qV at he;split at he
  ·cases he;assumption
  ·cases he
 exact qfk ho hg hx (hr.len he') hp w
theorem qha {h:AH} {ty:TypeId} {v:Value} {z n:Nat} {c:List Value} {ik:IntKind} {a:Int} (hu:Jk P ty=some z) (hr:Rd h v z n c) (ha:0≤a∧a<n):jB P ty v (.int ik a)=some (WP v z a.toNat 0):=by
 unfold Jk at hu;split at hu
 ·rename_i e he
  obtain ⟨k,rfl⟩:=zH3 ha.1;have hk:k<n:=by omega
  rcases hr with ⟨rfl,rfl,rfl⟩|⟨b,o,cap,cc,e',s,q,rfl,h1,h2⟩
  ·omega
  ·have:Nat.blt k n=true:=by rw [Nat.blt_eq];exact hk
   show jB P ty _ (.int ik (Int.ofNat k))=_
   simp only [jB,he,hu,this,WP,zA0,Nat.add_zero]
 ·cases hu
theorem qgE {L':Ks} {x i:Operand} {ty:TypeId} {v:Value} {ik:IntKind} {a:Int} {z n:Nat} {c:List Value} (ho:o.op = .indexAddr ty x i) (hg:qp ops L.tree o.guard=some true) (hx:kA L x=some v) (hi:kA L i=some (.int ik a)) (hu:Jk P ty=some z)
 (hr:Rd h v z n c) (ha:0≤a∧a<n) (hp:qJ sz L o.dst (WP v z a.toNat 0)=some L') (w:KO P X sz ops os L' h R):KO P X sz ops (o :: os) L h R :=
 qfl ho hg hx hi (qha hu hr ha) hp w
theorem qem {L':Ks} {x:Operand} {ty:TypeId} {fs:Array Field} {fd:Field} {v:Value} {z k off f m n:Nat} {c:List Value} (ho:o.op = .fieldAddr ty x f) (hg:qp ops L.tree o.guard=some true) (hx:kA L x=some (WP v z k off)) (hu:P.underlying ty=some (.struct fs)) (hf:fs[f]? = some fd) (hm:zU P fd.type=some (m+1))
 (hr:Rd h v z n c) (hk:k<n) (hp:qJ sz L o.dst (WP v z k (off+fd.offset))=some L') (w:KO P X sz ops os L' h R):KO P X sz ops (o :: os) L h R:=by
 refine zJ hg ?_ hp w;rw [ho];rcases hr with ⟨rfl,rfl,rfl⟩|⟨b,o',cap,cc,e',s,q,rfl,h1,h2⟩
 ·omega
 ·simp only [ja,qI hx,WP,Xp,hu,hf,hm,qU,zF7]
theorem qg9 {α:Type} [Inhabited α] {h:AH} {ty:TypeId} {v u:Value} {z k off:Nat} {enc:α→List Value} {l:List α} (hr:zC h v z enc l) (hz:∀ x,(enc x).length=z) (hk:k<l.length) (hv:JM P ty (enc (l.getD k default)) off=some u):Jp P ty (WP v z k off) h=some u:=by
 rcases hr with ⟨rfl,h1,h2⟩|⟨b,o',cap,cc,e',s,q,rfl,h1,h2⟩
 ·rw [h1] at hk;omega
 ·simp only [WP];rw [Jo h1];have hkz:k*z+z≤l.length*z:=by
   have:(k+1)*z≤l.length*z:=zD3 z hk;rw [zE0,Nat.one_mul] at this;exact this
  have h3:=QE h2 (i:=k*z) (m:=z) hkz;rw [Yr hz l hk] at h3;exact qeo h3 hv
theorem qgD {α:Type} [Inhabited α] {L':Ks} {x:Operand} {ty:TypeId} {v u:Value} {z k off:Nat} {enc:α→List Value} {l:List α} (ho:o.op = .load ty x) (hg:qp ops L.tree o.guard=some true) (hx:kA L x=some (WP v z k off))
 (hr:zC h v z enc l) (hz:∀ x,(enc x).length=z) (hk:k<l.length) (hv:JM P ty (enc (l.getD k default)) off=some u) (hp:qJ sz L o.dst u=some L') (w:KO P X sz ops os L' h R):KO P X sz ops (o :: os) L h R :=
 GR ho hg hx (qg9 hr hz hk hv) hp w
theorem qdO {α:Type} [Inhabited α] {rs':List Rs} {ty e:TypeId} {v u:Value} {z k off:Nat} {enc:α→List Value} {l:List α} {y:α} (S:Hs h0 h rs) (hi:Ut rs (.sl v e z enc l) (.sl v e z enc (l.set k y)) rs') (hz:∀ x,(enc x).length=z) (hk:k<l.length)
 (hv:Jq P ty (enc (l.getD k default)) off u=some (enc y)):∃ h',Xn P ty (WP v z k off) u h=some h'∧Hs h0 h' rs':=by
 obtain ⟨fp,k1,k2,-⟩:=hi.ok (h':=h) S.ext.next (zA3 _) S.sep
 rcases k1 with ⟨rfl,rfl⟩|⟨b,o',cc,slk,cap,h1,h2,h3,h4,h5,h6⟩
 ·simp at hk
 subst h1;have hkz:k*z+z≤l.length*z:=by
  have:(k+1)*z≤l.length*z:=zD3 z hk;rw [zE0,Nat.one_mul] at this;exact this
 obtain ⟨he,hlen⟩:l.flatMap enc=(cc.drop o').take (l.length*z)∧o'+l.length*z≤cc.length:=by
  rcases ZO h4 with q|⟨q1,q2⟩
  ·exact q
  ·have hm:=zD3 z h5.1;exact ⟨by rw [q2,q1];simp,by omega⟩
 have hpc:=Yr hz l hk;unfold Jq at hv;split at hv
 rotate_left
 ·cases hv
 rename_i n hn
 split at hv
 rotate_left
 ·cases hv
 rename_i hc
 simp only [Option.some.injEq] at hv;rw [zA8,zA8] at hc;have hfit:=zB6 hc.2.2;rw [hz] at hfit;have hst:Jq P ty cc (o'+k*z+off) u=some (splice cc (o'+k*z+off) u.cells.toList):=by
  unfold Jq;rw [hn];simp only [hc.1,hc.2.1,Bool.true_and];rw [zB3 (by omega)]
 refine ⟨_,Yv h2 hst,?_⟩;refine S.turn hi (zA3 _) (S.wf.put (k2 b h3).2.1 _) fun fq q1 q2=>?_;have hb:fq b:=by
  rcases q1 with ⟨q,-⟩|⟨b',o2,cc2,sl2,cap2,q3,q4,q5,-⟩
  ·cases q
  ·cases q3;exact q5
 refine ⟨fun j _ hj=>by rw [AH.get_put,if_neg];intro q;subst q;exact hj hb,fun j=>j=b,.inr ⟨b,o',_,slk,cap,by rw [zF5],by rw [AH.get_put,if_pos rfl],rfl,?_,?_,h6⟩,fun j hj=>by subst hj;exact ⟨(k2 _ h3).2.1,.inl hb⟩⟩
 ·rw [zF5,Wu hz l k y hk,← hv,← hpc,he];exact wH hlen hkz hfit
 ·rw [zF5,Xc (by omega)];exact h5
theorem qiX {α:Type} [Inhabited α] {L':Ks} {rs':List Rs} {x yo:Operand} {ty e:TypeId} {v u:Value} {z k off:Nat} {enc:α→List Value} {l:List α} {y:α} (S:Hs h0 h rs) (ho:o.op = .store ty x yo) (hg:qp ops L.tree o.guard=some true) (hx:kA L x=some (WP v z k off)) (hy:kA L yo=some u)
 (hi:Ut rs (.sl v e z enc l) (.sl v e z enc (l.set k y)) rs') (hz:∀ x,(enc x).length=z) (hk:k<l.length) (hv:Jq P ty (enc (l.getD k default)) off u=some (enc y)) (hp:qJ sz L o.dst (.tuple #[])=some L')
 (w:∀ h',Hs h0 h' rs'→KO P X sz ops os L' h' R):KO P X sz ops (o :: os) L h R:=by
 obtain ⟨h',q1,q2⟩:=qdO S hi hz hk hv;exact qam ho hg hx hy q1 hp (w h' q2)
end
end Go.Proofs.Xx
namespace Go.Proofs.Xx
open Go
theorem XE {α:Type} {enc:α→List Value} {y:α} {zc:List Value} (h:zc=enc y):∀ n,zn zc n=(List.replicate n y).flatMap enc
 | 0=>rfl
 | n+1=>by rw [zn,XE h n,List.replicate_succ,zG2,h]
section
variable {P:Program} {X:Extern} {inR:Bool} {sz:Nat} {L:Ks} {h h0:AH} {rs:List Rs} {ops:Array Oper} {os:List Oper} {o:Oper} {R:Ks→AH→Prop} {Q:KQ}
theorem Hs.nil {α:Type} (S:Hs h0 h rs) (e:TypeId) (z:Nat) (enc:α→List Value):Hs h0 h (.sl (.slice none 0 0) e z enc [] :: rs) :=
 ⟨S.ext,fun _=>False,.inl ⟨rfl,rfl⟩,fun b hb=>hb.elim,S.sep.mono fun b _=>⟨trivial,id⟩⟩
theorem qa6 {α:Type} {x y:Operand} {ty e:TypeId} {a:Int} {zc:List Value} {by_ z:Nat} {enc:α→List Value} {y0:α} {d:Tmp} (S:Hs h0 h rs) (ho:o.op = .makeSlice ty x y) (hg:qp ops L.tree o.guard=some true) (hx:kA L x=some (.int .i64 a)) (hy:kA L y=some (.int .i64 a))
 (hs:qV P ty=some e) (hz:zg P e=some zc) (hb:QI P e=some by_) (hzl:zc.length=z) (hc:zc=enc y0) (hlen:∀ x,(enc x).length=z) (ha:0≤a∧a.toNat*(by_+1)≤140737488355328) (hd:o.dst=some d) (hsz:Nat.blt d sz=true)
 (w:∀ v h',Hs h0 h' (.sl v e z enc (List.replicate a.toNat y0) :: rs)→KO P X sz ops os (L.put d v) h' R):KO P X sz ops (o :: os) L h R:=by
 subst hzl;obtain ⟨k,rfl⟩:=zH3 ha.1;have hk:k*(by_+1)≤140737488355328:=ha.2;obtain ⟨v,h',h1,h2,h3⟩:=qel S.wf hs hz hb hk;refine qgo ho hg hx hy h1 (by simp only [qJ,hd,hsz]) (w v h' ?_);refine S.grow (fp:=fun b=>b=h.next) h3 (.inr ⟨h.next,0,_,none,k,?_,h2.obj,rfl,?_,⟨?_,?_⟩,.inl rfl⟩) fun b hb=>by subst hb;exact ⟨zA3 _,h3.wf.lt h2.obj⟩
 ·rw [h2.val];simp
 ·rw [← XE hc,zA0];simp only [List.length_replicate];rw [← h2.len];exact jQ _
 ·simp
 ·rw [zG1];exact Nat.le_of_eq h2.len.symm
theorem qco {α:Type} {rs':List Rs} {ts tx e:TypeId} {zc:List Value} {by_:Nat} {enc:α→List Value} {l l2:List α} {v x:Value} (S:Hs h0 h rs) (hs:qV P ts=some e) (hz:zg P e=some zc) (hb:QI P e=some (by_+1)) (hx:(qV P tx).isSome=true)
 (hd:Dt rs (.sl v e zc.length enc l) rs') (hr:zC h x zc.length enc l2) (h1:∀ y∈l2,(enc y).all one? = true) (hlen:∀ y,(enc y).length=zc.length) (hsz:(l.length+l2.length+1)*(by_+1)≤140737488355328) :
 ∃ v' h',Qh P [ts,tx] v x h=some (v',h')∧Hs h0 h' (.sl v' e zc.length enc (l ++ l2) :: rs'):=by
 have hx':∃ e',P.underlying tx=some (.slice e'):=by
  obtain ⟨e',he⟩:=Option.isSome_iff_exists.1 hx;unfold qV at he;split at he
  ·cases he;exact ⟨_,by assumption⟩
  ·cases he
 obtain ⟨e',hx'⟩:=hx';have hall:(l2.flatMap enc).all one? = true:=by
  rw [zC8];intro u hu;rw [zG9] at hu;obtain ⟨y,hy,hu⟩:=hu;exact zC8.1 (h1 y hy) u hu
 have hnl:(l2.flatMap enc).length=l2.length*zc.length:=zy hlen l2;have k1:Nat.ble ((l2.length+1)*(by_+1)) 140737488355328=true:=zB3 (zD0 (zD3 _ (by omega)) hsz);have k2:Nat.beq (l2.flatMap enc).length (l2.length*zc.length)=true:=by rw [hnl];simp
 have k3:Nat.ble ((l.length+l2.length)*(by_+1)) 140737488355328=true:=zB3 (zD0 (zD3 _ (by omega)) hsz);obtain ⟨fp,q1,q2,q3⟩:=hd.sep S.sep;have S':Hs h0 h rs':=S.del hd;have front:Hs h0 h (.sl v e zc.length enc l :: rs'):=S.front hd;have hsrc:=hr.source;have fresh:∀ (c:List Value) (l3:List α),c=l3.flatMap enc→Hs h0 (h.add (.cells c e (some zc.length) false)) (.sl (.slice (some ⟨h.next,0,none⟩) l3.length l3.length) e zc.length enc l3 :: rs'):=by
  intro c l3 hc;have hcl:c.length=l3.length*zc.length:=by rw [hc];exact zy hlen l3
  refine S'.grow (fp:=fun b=>b=h.next) ((Ext.refl S.wf).add _) (.inr ⟨h.next,0,c,some zc.length,l3.length,rfl,by rw [AH.zf,if_pos rfl],rfl,?_,⟨zA3 _,by omega⟩,.inr rfl⟩) fun b hb=>by subst hb;exact ⟨zA3 _,zG0 _⟩
  rw [← hcl,jQ,hc]
 obtain ⟨n2,hn2⟩:∃ n2,l2.length=n2:=⟨_,rfl⟩
 rcases q1 with ⟨rfl,rfl⟩|⟨b,o,cc,slk,cap,g1,g2,g3,g4,g5,g6⟩
 ·rw [hn2] at hsrc k1 k2;cases n2 with
  | zero =>
   have hl2:l2=[]:=zE8.1 hn2;subst hl2;refine ⟨_,_,?_,front⟩;simp only [Qh,hs,hx',hz,hb,hsrc,k1,hall,k2,zF9]
  | succ m =>
   refine ⟨.slice (some ⟨h.next,0,none⟩) (m+1) (m+1),h.add (.cells (l2.flatMap enc) e (some zc.length) false),?_,?_⟩
   ·simp only [Qh,hs,hx',hz,hb,hsrc,k1,hall,k2,zF9]
   ·have:=fresh _ l2 rfl;rw [hn2] at this;exact this
 ·subst g1;rw [hn2] at hsrc k1 k2 k3;have hcz:=zD3 zc.length g5.1;have hoc:o+l.length*zc.length≤cc.length:=by have:=g5.2;omega
  cases n2 with
  | zero =>
   have hl2:l2=[]:=zE8.1 hn2;subst hl2;refine ⟨_,_,?_,by rw [zD6];exact front⟩;have:Nat.ble (l.length+0) cap=true:=zB3 g5.1;simp only [Qh,hs,hx',hz,hb,hsrc,k1,hall,k2,zF9,g2,this]
  | succ m =>
   have hcat:l.flatMap enc ++ l2.flatMap enc=(l ++ l2).flatMap enc:=by rw [List.flatMap_append]
   have hln:(l ++ l2).length=l.length+(m+1):=by rw [zB2,hn2]
   have hbl:b<h.next:=(q2 b g3).2.1
   by_cases hfit:l.length+(m+1)≤cap
   ·
    have k4:Nat.ble (l.length+(m+1)) cap=true:=zB3 hfit;have hm1:(l.length+(m+1))*zc.length≤cap*zc.length:=zD3 _ hfit;rw [zE0] at hm1;have hnl':(l2.flatMap enc).length=(m+1)*zc.length:=by rw [hnl,hn2]
    have hfl:o+l.length*zc.length+(l2.flatMap enc).length≤cc.length:=by have:=g5.2;omega
    have hput:putCells h b (o+l.length*zc.length) cc e slk (l2.flatMap enc)=some (h.put b (.cells (splice cc (o+l.length*zc.length) (l2.flatMap enc)) e slk false)):=by
     unfold putCells;rw [hall,zB3 hfl];rfl
    refine ⟨.slice (some ⟨b,o,none⟩) (l.length+(m+1)) cap,h.put b (.cells (splice cc (o+l.length*zc.length) (l2.flatMap enc)) e slk false),?_,?_⟩
    ·simp only [Qh,hs,hx',hz,hb,hsrc,k1,hall,k2,zF9,g2,k4,hput]
    ·refine front.turn .here (zA3 _) (S.wf.put hbl _) fun fq r1 r2=>?_;have hb':fq b:=by
      rcases r1 with ⟨q,-⟩|⟨b',o2,cc2,sl2,cap2,q3,q4,q5,-⟩
      ·cases q
      ·cases q3;exact q5
     refine ⟨fun j hj hn=>?_,fun j=>j=b,.inr ⟨b,o,_,slk,cap,by rw [hln],by rw [AH.get_put,if_pos rfl],rfl,?_,⟨by omega,by rw [Xc hfl];exact g5.2⟩,g6⟩,fun j hj=>by subst hj;exact ⟨hbl,.inl hb'⟩⟩
     ·rw [AH.get_put,if_neg];intro q;subst q;exact hn hb'
     ·rw [hln,← hcat];have hfe:l.flatMap enc=(cc.drop o).take (l.length*zc.length):=by
       rcases ZO g4 with q|⟨q1,q2⟩
       ·exact q.1
       ·rw [q2,q1];simp
      rw [X4 (by rw [Xc hfl,zE0];omega)];congr 1
      apply List.ext_getElem?
      intro j;have hll:(l.flatMap enc).length=l.length*zc.length:=zy hlen l;rw [zC7,zF0,hll];by_cases hj:j<l.length*zc.length
      ·rw [if_pos (by rw [zE0];omega),if_pos hj,zC3,Y0 hfl,if_pos (by omega),hfe,zC7,if_pos hj,zC3]
      ·rw [if_neg hj];by_cases hj2:j<(l.length+(m+1))*zc.length
       ·rw [if_pos hj2,zC3,Y0 hfl,if_neg (by omega),if_pos (by rw [zE0] at hj2;omega)];congr 1;omega
       ·rw [if_neg hj2,zG5];rw [zE0] at hj2;omega
   have k4:Nat.ble (l.length+(m+1)) cap=false:=by
    cases hq:Nat.ble (l.length+(m+1)) cap with
    | false=>rfl
    | true=>have:=zB6 hq;omega
   rcases g6 with rfl|rfl
   ·have hfr:=fresh _ (l ++ l2) hcat;rw [zB2,hn2] at hfr;refine ⟨_,_,?_,hfr⟩;simp only [Qh,hs,hx',hz,hb,hsrc,k1,hall,k2,zF9,g2,k4,g4,k3]
   ·refine ⟨.slice (some ⟨h.next,0,none⟩) (l.length+(m+1)) (l.length+(m+1)),(h.put b .dead).add (.cells (l.flatMap enc ++ l2.flatMap enc) e (some zc.length) false),?_,?_⟩
    ·have k6:(Nat.beq zc.length zc.length && Nat.beq e e && Nat.ble (o+cap*zc.length) cc.length)=true:=by
      simp [zB3 g5.2]
     simp only [Qh,hs,hx',hz,hb,hsrc,k1,hall,k2,zF9,g2,k4,g4,k3,k6]
    ·have hcl:(l.flatMap enc ++ l2.flatMap enc).length=(l ++ l2).length*zc.length:=by rw [hcat];exact zy hlen _
     refine front.turn .here (Nat.le_succ _) ((S.wf.put hbl _).add _) fun fq r1 r2=>?_;have hb':fq b:=by
      rcases r1 with ⟨q,-⟩|⟨b',o2,cc2,sl2,cap2,q3,q4,q5,-⟩
      ·cases q
      ·cases q3;exact q5
     refine ⟨fun j hj hn=>?_,fun j=>j=h.next,.inr ⟨h.next,0,l.flatMap enc ++ l2.flatMap enc,some zc.length,_,by rw [hln],?_,rfl,?_,⟨by omega,by rw [hcl,hln];omega⟩,.inr rfl⟩,fun j hj=>by subst hj;exact ⟨zG0 _,.inr (zA3 _)⟩⟩
     ·rw [AH.zf,if_neg (by simp only [AH.put];omega),AH.get_put,if_neg];intro q;subst q;exact hn hb'
     ·rw [AH.zf];exact if_pos rfl
     ·rw [← hcl,jQ,hcat]
theorem PH {α:Type} {rs':List Rs} {x y:Operand} {ts tx e:TypeId} {zc:List Value} {by_ z:Nat} {enc:α→List Value} {l l2:List α} {v u:Value} {d:Tmp} (S:Hs h0 h rs) (ho:o.op = .call { callee:=.builtin .append,args:=#[x,y],argTypes:=#[ts,tx] }) (hg:qp ops L.tree o.guard=some true) (hx:kA L x=some v) (hy:kA L y=some u)
 (hd:Dt rs (.sl v e z enc l) rs') (hr:zC h u z enc l2) (hs:qV P ts=some e) (hz:zg P e=some zc) (hzl:zc.length=z) (hb:QI P e=some (by_+1)) (hxs:(qV P tx).isSome=true) (h1:∀ y∈l2,(enc y).all one? = true) (hlen:∀ y,(enc y).length=z)
 (hsz:(l.length+l2.length+1)*(by_+1)≤140737488355328) (hdst:o.dst=some d) (hds:Nat.blt d sz=true) (w:∀ v' h',Hs h0 h' (.sl v' e z enc (l ++ l2) :: rs')→KO P X sz ops os (L.put d v') h' R):KO P X sz ops (o :: os) L h R:=by
 subst hzl;obtain ⟨v',h',q1,q2⟩:=qco S hs hz hb hxs hd hr h1 hlen hsz;exact qdo ho hg hx hy q1 (by simp only [qJ,hdst,hds]) (w v' h' q2)
theorem qiZ {x:Operand} {ty e:TypeId} {zc:List Value} {z:Nat} {v:Value} {c:List Value} {d:Tmp} (S:Hs h0 h rs) (ho:o.op = .buildSlice ty 1 #[(0,x)]) (hg:qp ops L.tree o.guard=some true) (hx:kA L x=some v) (hs:qV P ty=some e) (hz:zg P e=some zc) (hzl:zc.length=z) (hv:v.cells.toList=c) (hc:c.length=z)
 (hsm:z≤1000) (hdst:o.dst=some d) (hds:Nat.blt d sz=true) (w:∀ u h',Hs h0 h' (.sl u e z YN [c] :: rs)→KO P X sz ops os (L.put d u) h' R):KO P X sz ops (o :: os) L h R:=by
 subst hv;subst hzl;refine V7 ho hg (show XK L (#[(0,x)]:Array (Nat×Operand)).toList=some [(0,v)] by simp [XK,hx]) (qhK hs hz hc hsm h) (by simp only [qJ,hdst,hds]) (w (.slice (some ⟨h.next,0,none⟩) 1 1) (h.add (.cells v.cells.toList e none false)) ?_);refine S.grow (fp:=fun b=>b=h.next) ((Ext.refl S.wf).add _) (.inr ⟨h.next,0,v.cells.toList,none,1,rfl,by rw [AH.zf,if_pos rfl],rfl,?_,⟨zA3 _,by simp [hc]⟩,.inl rfl⟩) fun b hb=>by subst hb;exact ⟨zA3 _,zG0 _⟩
 simp only [zC4,List.length_nil,zG1,Nat.one_mul,zG2,List.flatMap_nil,zD6,YN];rw [← hc];exact jQ _
theorem qhn {α:Type} {rs':List Rs} {x y:Operand} {ts tx e e2:TypeId} {zc c:List Value} {by_ z:Nat} {enc:α→List Value} {l:List α} {y0:α} {v u:Value} {d:Tmp} (S:Hs h0 h (.sl u e2 z YN [c] :: rs)) (ho:o.op = .call { callee:=.builtin .append,args:=#[x,y],argTypes:=#[ts,tx] }) (hg:qp ops L.tree o.guard=some true) (hx:kA L x=some v) (hy:kA L y=some u)
 (hd:Dt rs (.sl v e z enc l) rs') (hs:qV P ts=some e) (hz:zg P e=some zc) (hzl:zc.length=z) (hb:QI P e=some (by_+1)) (hxs:(qV P tx).isSome=true) (hc:c=enc y0) (h1:c.all one? = true) (hlen:∀ y,(enc y).length=z)
 (hsz:(l.length+2)*(by_+1)≤140737488355328) (hdst:o.dst=some d) (hds:Nat.blt d sz=true) (w:∀ v' h',Hs h0 h' (.sl v' e z enc (l ++ [y0]) :: rs')→KO P X sz ops os (L.put d v') h' R):KO P X sz ops (o :: os) L h R:=by
 subst hc;have hr:zC h u z enc [y0]:=by
  have:=Rd.QU S .here;unfold zC at this ⊢;simp only [zG2,List.flatMap_nil,YN] at this ⊢;exact this
 exact PH S.tail ho hg hx hy hd hr hs hz hzl hb hxs (by simpa using h1) hlen (by simpa using hsz) hdst hds w
theorem qis {L':Ks} {x:Operand} {ty:TypeId} {l:List UInt8} (ho:o.op = .call { callee:=.builtin .len,args:=#[x],argTypes:=#[ty] }) (hg:qp ops L.tree o.guard=some true) (hx:kA L x=some (str l)) (hu:P.underlying ty=some .string)
 (hp:qJ sz L o.dst (.int .i64 l.length)=some L') (w:KO P X sz ops os L' h R):KO P X sz ops (o :: os) L h R :=
 qfk ho hg hx (by unfold str;simp only [qbt,hu,zF6]) hp w
theorem qit {L':Ks} {x i:Operand} {ty:TypeId} {l:List UInt8} {ik:IntKind} {a:Int} (ho:o.op = .index ty x i) (hg:qp ops L.tree o.guard=some true) (hx:kA L x=some (str l)) (hi:kA L i=some (.int ik a)) (hu:P.underlying ty=some .string)
 (ha:0≤a∧a<l.length) (hp:qJ sz L o.dst (.int .u8 ((l.getD a.toNat 0).toNat:Int))=some L') (w:KO P X sz ops os L' h R):KO P X sz ops (o :: os) L h R:=by
 obtain ⟨k,rfl⟩:=zH3 ha.1;have hk:k<l.length:=by omega
 refine zJ hg ?_ hp w;rw [ho];have:yY P ty (str l) (.int ik (Int.ofNat k))=some (.int .u8 ((l.getD k 0).toNat:Int)):=by
  unfold str;simp only [yY,hu,zF6];rw [zA4 hk,zA2,zA4 hk];rfl
 have hi':zY L.tree i=some (.int ik (Int.ofNat k)):=qI hi;simp only [ja,qI hx,hi',this,qU,zA0]
theorem qix {L':Ks} {x y:Operand} {ty ty2:TypeId} {l m:List UInt8} (ho:o.op = .binOp .add ty x y ty2) (hg:qp ops L.tree o.guard=some true) (hx:kA L x=some (str l)) (hy:kA L y=some (str m))
 (hb:l.length+m.length≤4611686018427387904) (hp:qJ sz L o.dst (str (l ++ m))=some L') (w:KO P X sz ops os L' h R):KO P X sz ops (o :: os) L h R :=
 jD ho hg hx hy (by
  unfold str;simp only [QO,zF6];rw [zB3 hb]) hp w
theorem jP (l m:List UInt8):zA ⟨l.toArray⟩ ⟨m.toArray⟩=decide (l=m):=by
 unfold zA;simp only [zF6];rw [Bool.eq_iff_iff];simp
theorem qiu {L':Ks} {op:BinOp} {x y:Operand} {ty ty2:TypeId} {l m:List UInt8} {v:Bool} (ho:o.op = .binOp op ty x y ty2) (hg:qp ops L.tree o.guard=some true) (hx:kA L x=some (str l)) (hy:kA L y=some (str m))
 (hop:(match op with|.eql=>some true|.neq=>some false | _=>none)=some v) (hq:l=m) (hp:qJ sz L o.dst (.bool v)=some L') (w:KO P X sz ops os L' h R):KO P X sz ops (o :: os) L h R :=
 jD ho hg hx hy (by
  unfold str;cases op<;>simp only [Option.some.injEq] at hop<;>try (cases hop;done)
  all_goals (subst hop;simp only [QO,jP,decide_eq_true hq,Bool.not_true])) hp w
theorem qiw {L':Ks} {op:BinOp} {x y:Operand} {ty ty2:TypeId} {l m:List UInt8} {v:Bool} (ho:o.op = .binOp op ty x y ty2) (hg:qp ops L.tree o.guard=some true) (hx:kA L x=some (str l)) (hy:kA L y=some (str m))
 (hop:(match op with|.eql=>some false|.neq=>some true | _=>none)=some v) (hq:¬ l=m) (hp:qJ sz L o.dst (.bool v)=some L') (w:KO P X sz ops os L' h R):KO P X sz ops (o :: os) L h R :=
 jD ho hg hx hy (by
  unfold str;cases op<;>simp only [Option.some.injEq] at hop<;>try (cases hop;done)
  all_goals (subst hop;simp only [QO,jP,decide_eq_false hq,Bool.not_false])) hp w
theorem qiv {L1 L2:Ks} {op:BinOp} {x y:Operand} {ty ty2:TypeId} {l m:List UInt8} {v:Bool} (ho:o.op = .binOp op ty x y ty2) (hg:qp ops L.tree o.guard=some true) (hx:kA L x=some (str l)) (hy:kA L y=some (str m))
 (hop:(match op with|.eql=>some true|.neq=>some false | _=>none)=some v) (hp1:qJ sz L o.dst (.bool v)=some L1) (hp2:qJ sz L o.dst (.bool !v)=some L2) (w1:l=m→KO P X sz ops os L1 h R) (w2:¬ l=m→KO P X sz ops os L2 h R):KO P X sz ops (o :: os) L h R:=by
 by_cases hq:l=m
 ·exact qiu ho hg hx hy hop hq hp1 (w1 hq)
 ·refine qiw (v:=!v) ho hg hx hy ?_ hq hp2 (w2 hq);cases op<;>simp only [Option.some.injEq] at hop ⊢<;>try (cases hop;done)
  all_goals (subst hop;rfl)
end
end Go.Proofs.Xx
namespace Go.Proofs.Xx
open Go
def Z9:Op→Option Operand|.move x|.assign x=>some x | _=>none
section
variable {P:Program} {X:Extern} {inR:Bool} {sz:Nat} {L:Ks} {h h0:AH} {rs:List Rs} {ops:Array Oper} {os:List Oper} {o:Oper} {R:Ks→AH→Prop} {Q:KQ}
theorem qjA {L':Ks} {x:Operand} {v:Value} (ho:Z9 o.op=some x) (hg:qp ops L.tree o.guard=some true) (hx:kA L x=some v) (hp:qJ sz L o.dst v=some L') (w:KO P X sz ops os L' h R):KO P X sz ops (o :: os) L h R:=by
 refine zJ hg ?_ hp w;cases he:o.op with
 | move y=>rw [he] at ho;cases ho;simp only [ja,qI hx,qU]
 | assign y=>rw [he] at ho;cases ho;simp only [ja,qI hx,qU]
 | _=>rw [he] at ho;cases ho
theorem wrap_u8 {n:Int} (h:0≤n∧n≤255):IntKind.u8.wrap n=n:=qb7 (by simpa [IntKind.min,IntKind.max,IntKind.signed,IntKind.bits] using h)
theorem qjE {L':Ks} {x:Operand} {s d:TypeId} {k k2:IntKind} {a:Int} (ho:o.op = .convert s d x) (hg:qp ops L.tree o.guard=some true) (hx:kA L x=some (.int k a)) (hs:P.underlying s=some (.int k2)) (hd:P.underlying d=some (.int .i64))
 (hb : -9223372036854775808≤a∧a≤9223372036854775807) (hp:qJ sz L o.dst (.int .i64 a)=some L') (w:KO P X sz ops os L' h R):KO P X sz ops (o :: os) L h R :=
 zJ hg (by rw [ho];simp only [ja,qI hx,jV,hs,hd,wrap_i64 hb.1 hb.2]) hp w
theorem qjD {L':Ks} {x:Operand} {s d:TypeId} {k k2:IntKind} {a:Int} (ho:o.op = .convert s d x) (hg:qp ops L.tree o.guard=some true) (hx:kA L x=some (.int k a)) (hs:P.underlying s=some (.int k2)) (hd:P.underlying d=some (.int .u8))
 (hb:0≤a∧a≤255) (hp:qJ sz L o.dst (.int .u8 a)=some L') (w:KO P X sz ops os L' h R):KO P X sz ops (o :: os) L h R :=
 zJ hg (by rw [ho];simp only [ja,qI hx,jV,hs,hd,wrap_u8 hb]) hp w
end
end Go.Proofs.Xx
namespace Go.Proofs.Xx
open Go
theorem JI {P:Program} {L:Ks} {h h0:AH} {rs:List Rs} {a b k:Nat} {ty e:TypeId} {c:List Value} {v:Value} {res:List ResultVar} {vs:List Value} (S:Hs h0 h rs) (hx:L.get a=some (.pointer (some ⟨b,k,none⟩))) (hi:At rs (.blk b c e)) (hv:JM P ty c k=some v) (hr:jr P L.tree h res=some vs) :
 jr P L.tree h (.cell a ty :: res)=some (v :: vs):=by
 simp only [jr,Jf,Ks.jH,hx];rw [Jo (Vr S hi),hv];simp only [hr]
end Go.Proofs.Xx
namespace Go.Proofs.Xx
open Go
class HasB (rs:List Rs) (b:Nat) (c:outParam (List Value)) (e:outParam TypeId) (f:outParam (Rs→List Rs)):Prop where
 at_:At rs (.blk b c e)
 ut:∀ r,Ut rs (.blk b c e) r (f r)
instance HasB.there {rs:List Rs} {b:Nat} {c:List Value} {e:TypeId} {f:Rs→List Rs} {s:Rs} [k:HasB rs b c e f]:HasB (s :: rs) b c e (fun r=>s :: f r):=⟨.there k.at_,fun r=>.there (k.ut r)⟩
instance HasB.here {rs:List Rs} {b:Nat} {c:List Value} {e:TypeId}:HasB (.blk b c e :: rs) b c e (fun r=>r :: rs):=⟨.here,fun r=>.here⟩
class HasS (rs:List Rs) (v:Value) (α:outParam Type) (e:outParam TypeId) (z:outParam Nat) (enc:outParam (α→List Value)) (l:outParam (List α)) (f:outParam (Rs→List Rs)) (d:outParam (List Rs)):Prop where
 at_:At rs (.sl v e z enc l)
 ut:∀ r,Ut rs (.sl v e z enc l) r (f r)
 dt:Dt rs (.sl v e z enc l) d
instance HasS.there {rs:List Rs} {v:Value} {α:Type} {e:TypeId} {z:Nat} {enc:α→List Value} {l:List α} {f:Rs→List Rs} {d:List Rs} {s:Rs} [k:HasS rs v α e z enc l f d]:HasS (s :: rs) v α e z enc l (fun r=>s :: f r) (s :: d) :=
 ⟨.there k.at_,fun r=>.there (k.ut r),.there k.dt⟩
instance HasS.here {rs:List Rs} {v:Value} {α:Type} {e:TypeId} {z:Nat} {enc:α→List Value} {l:List α}:HasS (.sl v e z enc l :: rs) v α e z enc l (fun r=>r :: rs) rs:=⟨.here,fun r=>.here,.here⟩
class HasR (rs:List Rs) (v:Value) (α:outParam Type) (z:outParam Nat) (enc:outParam (α→List Value)) (l:outParam (List α)):Prop where
 rd:∀ {h0 h:AH},Hs h0 h rs→zC h v z enc l
instance HasR.there {rs:List Rs} {v:Value} {α:Type} {z:Nat} {enc:α→List Value} {l:List α} {s:Rs} [k:HasR rs v α z enc l]:HasR (s :: rs) v α z enc l:=⟨fun S=>k.rd S.tail⟩
instance HasR.sl {rs:List Rs} {v:Value} {α:Type} {e:TypeId} {z:Nat} {enc:α→List Value} {l:List α}:HasR (.sl v e z enc l :: rs) v α z enc l:=⟨fun S=>Rd.QU S .here⟩
instance HasR.rdd {rs:List Rs} {v:Value} {α:Type} {z:Nat} {enc:α→List Value} {l:List α}:HasR (.rd v z enc l :: rs) v α z enc l:=⟨fun S=>Rd.qiJ S .here⟩
section
variable {P:Program} {X:Extern} {inR:Bool} {sz:Nat} {L:Ks} {h h0:AH} {rs:List Rs} {ops:Array Oper} {os:List Oper} {o:Oper} {R:Ks→AH→Prop} {Q:KQ}
theorem mv {L':Ks} {x:Operand} {v:Value} (w:KO P X sz ops os L' h R) (ho:Z9 o.op=some x:=by exact rfl) (hg:qp ops L.tree o.guard=some true:=by exact rfl) (hx:kA L x=some v:=by exact rfl) (hp:qJ sz L o.dst v=some L':=by exact rfl):KO P X sz ops (o :: os) L h R:=qjA ho hg hx hp w
theorem vl {L':Ks} {h':AH} {v:Value} (w:KO P X sz ops os L' h' R) (hg:qp ops L.tree o.guard=some true:=by exact rfl) (ha:ja P L.tree h o.op=some (.val v h'):=by exact rfl) (hp:qJ sz L o.dst v=some L':=by exact rfl):KO P X sz ops (o :: os) L h R:=zJ hg ha hp w
theorem off {L':Ks} (w:KO P X sz ops os L' h R) (hg:qp ops L.tree o.guard=some false:=by exact rfl) (hp:qJ sz L o.dst (.tuple #[])=some L':=by exact rfl):KO P X sz ops (o :: os) L h R:=qh5 hg hp w
theorem ad {L':Ks} {x y:Operand} {ty ty2:TypeId} {a b:Int} (w:KO P X sz ops os L' h R) (ho:o.op = .binOp .add ty x y ty2:=by exact rfl) (hg:qp ops L.tree o.guard=some true:=by exact rfl) (hx:kA L x=some (.int .i64 a):=by exact rfl) (hy:kA L y=some (.int .i64 b):=by exact rfl)
 (hb : -9223372036854775808≤a+b∧a+b≤9223372036854775807:=by first|omega|grind) (hp:qJ sz L o.dst (.int .i64 (a+b))=some L':=by exact rfl):KO P X sz ops (o :: os) L h R:=qjH ho hg hx hy hb hp w
theorem sb {L':Ks} {x y:Operand} {ty ty2:TypeId} {a b:Int} (w:KO P X sz ops os L' h R) (ho:o.op = .binOp .sub ty x y ty2:=by exact rfl) (hg:qp ops L.tree o.guard=some true:=by exact rfl) (hx:kA L x=some (.int .i64 a):=by exact rfl) (hy:kA L y=some (.int .i64 b):=by exact rfl)
 (hb : -9223372036854775808≤a - b∧a - b≤9223372036854775807:=by first|omega|grind) (hp:qJ sz L o.dst (.int .i64 (a - b))=some L':=by exact rfl):KO P X sz ops (o :: os) L h R:=qjx ho hg hx hy hb hp w
theorem ml {L':Ks} {x y:Operand} {ty ty2:TypeId} {a b:Int} (w:KO P X sz ops os L' h R) (ho:o.op = .binOp .mul ty x y ty2:=by exact rfl) (hg:qp ops L.tree o.guard=some true:=by exact rfl) (hx:kA L x=some (.int .i64 a):=by exact rfl) (hy:kA L y=some (.int .i64 b):=by exact rfl)
 (hb : -9223372036854775808≤a*b∧a*b≤9223372036854775807:=by first|omega|grind) (hp:qJ sz L o.dst (.int .i64 (a*b))=some L':=by exact rfl):KO P X sz ops (o :: os) L h R:=qjz ho hg hx hy hb hp w
theorem qu {L':Ks} {x y:Operand} {ty ty2:TypeId} {a b:Int} (w:KO P X sz ops os L' h R) (ho:o.op = .binOp .quo ty x y ty2:=by exact rfl) (hg:qp ops L.tree o.guard=some true:=by exact rfl) (hx:kA L x=some (.int .i64 a):=by exact rfl) (hy:kA L y=some (.int .i64 b):=by exact rfl)
 (hb:0≤a∧a≤9223372036854775807∧0<b:=by first|omega|grind) (hp:qJ sz L o.dst (.int .i64 (a / b))=some L':=by exact rfl):KO P X sz ops (o :: os) L h R:=qjy ho hg hx hy hb hp w
theorem mn {L':Ks} {x y:Operand} {tys:Array TypeId} {k k':IntKind} {a b:Int} (w:KO P X sz ops os L' h R) (ho:o.op = .call { callee:=.builtin .min,args:=#[x,y],argTypes:=tys }:=by exact rfl) (hg:qp ops L.tree o.guard=some true:=by exact rfl) (hx:kA L x=some (.int k a):=by exact rfl) (hy:kA L y=some (.int k' b):=by exact rfl)
 (hp:qJ sz L o.dst (.int k (min a b))=some L':=by exact rfl):KO P X sz ops (o :: os) L h R:=qjB ho hg hx hy hp w
theorem mx {L':Ks} {x y:Operand} {tys:Array TypeId} {k k':IntKind} {a b:Int} (w:KO P X sz ops os L' h R) (ho:o.op = .call { callee:=.builtin .max,args:=#[x,y],argTypes:=tys }:=by exact rfl) (hg:qp ops L.tree o.guard=some true:=by exact rfl) (hx:kA L x=some (.int k a):=by exact rfl) (hy:kA L y=some (.int k' b):=by exact rfl)
 (hp:qJ sz L o.dst (.int k (max a b))=some L':=by exact rfl):KO P X sz ops (o :: os) L h R:=qjC ho hg hx hy hp w
theorem cI {L':Ks} {x:Operand} {s d:TypeId} {k k2:IntKind} {a:Int} (w:KO P X sz ops os L' h R) (ho:o.op = .convert s d x:=by exact rfl) (hg:qp ops L.tree o.guard=some true:=by exact rfl) (hx:kA L x=some (.int k a):=by exact rfl) (hs:P.underlying s=some (.int k2):=by exact rfl) (hd:P.underlying d=some (.int .i64):=by exact rfl)
 (hb : -9223372036854775808≤a∧a≤9223372036854775807:=by first|omega|grind) (hp:qJ sz L o.dst (.int .i64 a)=some L':=by exact rfl):KO P X sz ops (o :: os) L h R:=qjE ho hg hx hs hd hb hp w
theorem cU {L':Ks} {x:Operand} {s d:TypeId} {k k2:IntKind} {a:Int} (w:KO P X sz ops os L' h R) (ho:o.op = .convert s d x:=by exact rfl) (hg:qp ops L.tree o.guard=some true:=by exact rfl) (hx:kA L x=some (.int k a):=by exact rfl) (hs:P.underlying s=some (.int k2):=by exact rfl) (hd:P.underlying d=some (.int .u8):=by exact rfl)
 (hb:0≤a∧a≤255:=by omega) (hp:qJ sz L o.dst (.int .u8 a)=some L':=by exact rfl):KO P X sz ops (o :: os) L h R:=qjD ho hg hx hs hd hb hp w
theorem cT {L':Ks} {op:BinOp} {x y:Operand} {ty ty2:TypeId} {k:IntKind} {a b:Int} {p:Prop} (w:KO P X sz ops os L' h R) (ho:o.op = .binOp op ty x y ty2:=by exact rfl) (hg:qp ops L.tree o.guard=some true:=by exact rfl) (hx:kA L x=some (.int k a):=by exact rfl) (hy:kA L y=some (.int k b):=by exact rfl)
 (hc:qac op a b=some p:=by exact rfl) (hq:p:=by omega) (hp:qJ sz L o.dst (.bool true)=some L':=by exact rfl):KO P X sz ops (o :: os) L h R:=qjF ho hg hx hy hc hq hp w
theorem cF {L':Ks} {op:BinOp} {x y:Operand} {ty ty2:TypeId} {k:IntKind} {a b:Int} {p:Prop} (w:KO P X sz ops os L' h R) (ho:o.op = .binOp op ty x y ty2:=by exact rfl) (hg:qp ops L.tree o.guard=some true:=by exact rfl) (hx:kA L x=some (.int k a):=by exact rfl) (hy:kA L y=some (.int k b):=by exact rfl)
 (hc:qac op a b=some p:=by exact rfl) (hq:¬ p:=by omega) (hp:qJ sz L o.dst (.bool false)=some L':=by exact rfl):KO P X sz ops (o :: os) L h R:=qjG ho hg hx hy hc hq hp w
theorem cS {L1 L2:Ks} {op:BinOp} {x y:Operand} {ty ty2:TypeId} {k:IntKind} {a b:Int} {p:Prop} (w1:p→KO P X sz ops os L1 h R) (w2:¬ p→KO P X sz ops os L2 h R) (ho:o.op = .binOp op ty x y ty2:=by exact rfl) (hg:qp ops L.tree o.guard=some true:=by exact rfl) (hx:kA L x=some (.int k a):=by exact rfl) (hy:kA L y=some (.int k b):=by exact rfl)
 (hc:qac op a b=some p:=by exact rfl) (hp1:qJ sz L o.dst (.bool true)=some L1:=by exact rfl) (hp2:qJ sz L o.dst (.bool false)=some L2:=by exact rfl):KO P X sz ops (o :: os) L h R:=qkq ho hg hx hy hc hp1 hp2 w1 w2
theorem tS {L1 L2:Ks} {op:BinOp} {x y:Operand} {ty ty2:TypeId} {l m:List UInt8} {v:Bool} (w1:l=m→KO P X sz ops os L1 h R) (w2:¬ l=m→KO P X sz ops os L2 h R) (ho:o.op = .binOp op ty x y ty2:=by exact rfl) (hg:qp ops L.tree o.guard=some true:=by exact rfl) (hx:kA L x=some (str l):=by exact rfl) (hy:kA L y=some (str m):=by exact rfl)
 (hop:(match op with|.eql=>some true|.neq=>some false | _=>none)=some v:=by exact rfl) (hp1:qJ sz L o.dst (.bool v)=some L1:=by exact rfl) (hp2:qJ sz L o.dst (.bool !v)=some L2:=by exact rfl):KO P X sz ops (o :: os) L h R:=qiv ho hg hx hy hop hp1 hp2 w1 w2
theorem tl {L':Ks} {x:Operand} {ty:TypeId} {l:List UInt8} (w:KO P X sz ops os L' h R) (ho:o.op = .call { callee:=.builtin .len,args:=#[x],argTypes:=#[ty] }:=by exact rfl) (hg:qp ops L.tree o.guard=some true:=by exact rfl) (hx:kA L x=some (str l):=by exact rfl) (hu:P.underlying ty=some .string:=by exact rfl)
 (hp:qJ sz L o.dst (.int .i64 l.length)=some L':=by exact rfl):KO P X sz ops (o :: os) L h R:=qis ho hg hx hu hp w
theorem ti {L':Ks} {x i:Operand} {ty:TypeId} {l:List UInt8} {ik:IntKind} {a:Int} (w:KO P X sz ops os L' h R) (ho:o.op = .index ty x i:=by exact rfl) (hg:qp ops L.tree o.guard=some true:=by exact rfl) (hx:kA L x=some (str l):=by exact rfl) (hi:kA L i=some (.int ik a):=by exact rfl) (hu:P.underlying ty=some .string:=by exact rfl)
 (ha:0≤a∧a<l.length:=by first|omega|grind) (hp:qJ sz L o.dst (.int .u8 ((l.getD a.toNat 0).toNat:Int))=some L':=by exact rfl):KO P X sz ops (o :: os) L h R:=qit ho hg hx hi hu ha hp w
theorem tc {L':Ks} {x y:Operand} {ty ty2:TypeId} {l m:List UInt8} (w:KO P X sz ops os L' h R) (ho:o.op = .binOp .add ty x y ty2:=by exact rfl) (hg:qp ops L.tree o.guard=some true:=by exact rfl) (hx:kA L x=some (str l):=by exact rfl) (hy:kA L y=some (str m):=by exact rfl)
 (hb:l.length+m.length≤4611686018427387904:=by first|omega|grind) (hp:qJ sz L o.dst (str (l ++ m))=some L':=by exact rfl):KO P X sz ops (o :: os) L h R:=qix ho hg hx hy hb hp w
theorem bx {x:Operand} {e:TypeId} {v:Value} {c:List Value} {d:Tmp} (S:Hs h0 h rs) (w:∀ b h',Hs h0 h' (.blk b c e :: rs)→KO P X sz ops os (L.put d (.pointer (some ⟨b,0,none⟩))) h' R) (ho:o.op = .box e x:=by exact rfl) (hg:qp ops L.tree o.guard=some true:=by exact rfl) (hx:kA L x=some v:=by exact rfl) (hc:v.cells.toList=c:=by exact rfl) (hd:o.dst=some d:=by exact rfl) (hs:Nat.blt d sz=true:=by exact rfl):KO P X sz ops (o :: os) L h R :=
 qi1 S ho hg hx hc hd hs w
theorem al {e:TypeId} {v:Value} {c:List Value} {d:Tmp} (S:Hs h0 h rs) (w:∀ b h',Hs h0 h' (.blk b c e :: rs)→KO P X sz ops os (L.put d (.pointer (some ⟨b,0,none⟩))) h' R) (ho:o.op = .alloc e:=by exact rfl) (hg:qp ops L.tree o.guard=some true:=by exact rfl) (hz:Yo P e=some v:=by exact rfl) (hpl:QT v=true:=by exact rfl) (hc:v.cells.toList=c:=by exact rfl) (hd:o.dst=some d:=by exact rfl) (hs:Nat.blt d sz=true:=by exact rfl):KO P X sz ops (o :: os) L h R :=
 qfF S ho hg hz hpl hc hd hs w
theorem lB {L':Ks} {x:Operand} {ty e:TypeId} {b k:Nat} {c:List Value} {v:Value} {f:Rs→List Rs} (S:Hs h0 h rs) (ho:o.op = .load ty x) (hx:kA L x=some (.pointer (some ⟨b,k,none⟩))) [i:HasB rs b c e f] (w:KO P X sz ops os L' h R) (hg:qp ops L.tree o.guard=some true:=by exact rfl) (hv:JM P ty c k=some v:=by exact rfl) (hp:qJ sz L o.dst v=some L':=by exact rfl):KO P X sz ops (o :: os) L h R :=
 qi0 S ho hg hx i.at_ hv hp w
theorem sB {L':Ks} {x y:Operand} {ty e:TypeId} {b k:Nat} {c c':List Value} {v:Value} {f:Rs→List Rs} (S:Hs h0 h rs) (ho:o.op = .store ty x y) (hx:kA L x=some (.pointer (some ⟨b,k,none⟩))) [i:HasB rs b c e f] (w:∀ h',Hs h0 h' (f (.blk b c' e))→KO P X sz ops os L' h' R)
 (hg:qp ops L.tree o.guard=some true:=by exact rfl) (hy:kA L y=some v:=by exact rfl) (hv:Jq P ty c k v=some c':=by exact rfl) (hp:qJ sz L o.dst (.tuple #[])=some L':=by exact rfl):KO P X sz ops (o :: os) L h R :=
 qiY S ho hg hx hy (i.ut _) hv hp w
theorem jf {L':Ks} {x:Operand} {ty:TypeId} {v:Value} {z n:Nat} {c:List Value} (S:Hs h0 h rs) (w:KO P X sz ops os L' h R) (ho:o.op = .call { callee:=.builtin .len,args:=#[x],argTypes:=#[ty] }:=by exact rfl) (hg:qp ops L.tree o.guard=some true:=by exact rfl) (hx:kA L x=some v:=by exact rfl) (hu:(qV P ty).isSome=true:=by exact rfl)
 (hr:Rd h0 v z n c:=by assumption) (wf:WfH h0:=by assumption) (hp:qJ sz L o.dst (.int .i64 n)=some L':=by exact rfl):KO P X sz ops (o :: os) L h R:=qgC ho hg hx hu (Rd.Kz S hr wf) hp w
theorem xe {L':Ks} {x:Operand} {ty:TypeId} {v:Value} {α:Type} {z:Nat} {enc:α→List Value} {l:List α} (S:Hs h0 h rs) (ho:o.op = .call { callee:=.builtin .len,args:=#[x],argTypes:=#[ty] }) (hx:kA L x=some v) [i:HasR rs v α z enc l] (w:KO P X sz ops os L' h R) (hg:qp ops L.tree o.guard=some true:=by exact rfl) (hu:(qV P ty).isSome=true:=by exact rfl)
 (hp:qJ sz L o.dst (.int .i64 l.length)=some L':=by exact rfl):KO P X sz ops (o :: os) L h R:=qgC ho hg hx hu (i.rd S) hp w
theorem jF {L':Ks} {x i:Operand} {ty:TypeId} {v:Value} {ik:IntKind} {a:Int} {z n:Nat} {c:List Value} (S:Hs h0 h rs) (w:KO P X sz ops os L' h R) (ho:o.op = .indexAddr ty x i:=by exact rfl) (hg:qp ops L.tree o.guard=some true:=by exact rfl) (hx:kA L x=some v:=by exact rfl) (hi:kA L i=some (.int ik a):=by exact rfl) (hu:Jk P ty=some z:=by exact rfl)
 (hr:Rd h0 v z n c:=by assumption) (wf:WfH h0:=by assumption) (ha:0≤a∧a<n:=by first|omega|grind) (hp:qJ sz L o.dst (WP v z a.toNat 0)=some L':=by exact rfl):KO P X sz ops (o :: os) L h R:=qgE ho hg hx hi hu (Rd.Kz S hr wf) ha hp w
theorem jk {α:Type} [Inhabited α] {L':Ks} {x:Operand} {ty:TypeId} {v u:Value} {z k off:Nat} {enc:α→List Value} {l:List α} (S:Hs h0 h rs) (w:KO P X sz ops os L' h R) (ho:o.op = .load ty x:=by exact rfl) (hg:qp ops L.tree o.guard=some true:=by exact rfl) (hx:kA L x=some (WP v z k off):=by exact rfl)
 (hr:zC h0 v z enc l:=by assumption) (wf:WfH h0:=by assumption) (hz:∀ x,(enc x).length=z:=by intro _;rfl) (hk:k<l.length:=by first|omega|grind) (hv:JM P ty (enc (l.getD k default)) off=some u:=by exact rfl) (hp:qJ sz L o.dst u=some L':=by exact rfl):KO P X sz ops (o :: os) L h R :=
 qgD ho hg hx (Rd.Kz S hr wf) hz hk hv hp w
theorem fA {L':Ks} {x:Operand} {ty:TypeId} {fs:Array Field} {fd:Field} {v:Value} {z k off f m n:Nat} {c:List Value} (w:KO P X sz ops os L' h R) (ho:o.op = .fieldAddr ty x f:=by exact rfl) (hg:qp ops L.tree o.guard=some true:=by exact rfl) (hx:kA L x=some (WP v z k off):=by exact rfl) (hu:P.underlying ty=some (.struct fs):=by exact rfl) (hf:fs[f]? = some fd:=by exact rfl) (hm:zU P fd.type=some (m+1):=by exact rfl)
 (hr:Rd h v z n c:=by assumption) (hk:k<n:=by first|omega|grind) (hp:qJ sz L o.dst (WP v z k (off+fd.offset))=some L':=by exact rfl):KO P X sz ops (o :: os) L h R:=qem ho hg hx hu hf hm hr hk hp w
theorem one {x:Operand} {ty e:TypeId} {zc:List Value} {v:Value} {c:List Value} {d:Tmp} (z:Nat) (S:Hs h0 h rs) (w:∀ u h',Hs h0 h' (.sl u e z YN [c] :: rs)→KO P X sz ops os (L.put d u) h' R) (ho:o.op = .buildSlice ty 1 #[(0,x)]:=by exact rfl) (hg:qp ops L.tree o.guard=some true:=by exact rfl) (hx:kA L x=some v:=by exact rfl)
 (hs:qV P ty=some e:=by exact rfl) (hz:zg P e=some zc:=by exact rfl) (hzl:zc.length=z:=by exact rfl) (hv:v.cells.toList=c:=by exact rfl) (hc:c.length=z:=by exact rfl) (hsm:z≤1000:=by decide) (hdst:o.dst=some d:=by exact rfl) (hds:Nat.blt d sz=true:=by exact rfl):KO P X sz ops (o :: os) L h R:=qiZ S ho hg hx hs hz hzl hv hc hsm hdst hds w
theorem app {α:Type} {x y:Operand} {ts tx e e2:TypeId} {zc c:List Value} {by_ z z2:Nat} {enc:α→List Value} {l:List α} {f:Rs→List Rs} {dd:List Rs} {v u:Value} {d:Tmp} {y0:α} (S:Hs h0 h (.sl u e2 z2 YN [c] :: rs)) (ho:o.op = .call { callee:=.builtin .append,args:=#[x,y],argTypes:=#[ts,tx] }) (hx:kA L x=some v) [i:HasS rs v α e z enc l f dd]
 (w:∀ v' h',Hs h0 h' (.sl v' e z enc (l ++ [y0]) :: dd)→KO P X sz ops os (L.put d v') h' R) (hzz:z2=z:=by exact rfl) (hc:c=enc y0:=by exact rfl) (hg:qp ops L.tree o.guard=some true:=by exact rfl) (hy:kA L y=some u:=by exact rfl) (hs:qV P ts=some e:=by exact rfl) (hz:zg P e=some zc:=by exact rfl) (hzl:zc.length=z:=by exact rfl) (hb:QI P e=some (by_+1):=by exact rfl) (hxs:(qV P tx).isSome=true:=by exact rfl)
 (h1:c.all one? = true:=by exact rfl) (hlen:∀ y,(enc y).length=z:=by intro _;rfl) (hsz:(l.length+2)*(by_+1)≤140737488355328:=by first|omega|grind) (hdst:o.dst=some d:=by exact rfl) (hds:Nat.blt d sz=true:=by exact rfl):KO P X sz ops (o :: os) L h R:=by
 subst hzz;exact qhn S ho hg hx hy i.dt hs hz hzl hb hxs hc h1 hlen hsz hdst hds w
end
end Go.Proofs.Xx
namespace Go.Proofs.Xx
open Go
theorem Ks.qho {L L':Ks} {k:Nat} {ik:IntKind} {n m:Int} (hl:Ks.le L' L) (h:L.get k=some (.int ik m):=by exact rfl) (e:m=n:=by first|omega|grind):Ks.le ((k,.int ik n) :: L') L:=Ks.qbQ (by rw [h,e]) hl
theorem qx {L' L:Ks} (h:Ks.le L' L:=by repeat (first|exact Ks.le_nil _|refine Ks.qbQ rfl ?_|refine Ks.qho ?_)):Ks.le L' L:=h
section
variable {P:Program} {X:Extern} {inR:Bool} {sz:Nat} {L:Ks} {h h0:AH} {rs:List Rs} {ops:Array Oper} {os:List Oper} {o:Oper} {R:Ks→AH→Prop} {Q:KQ}
theorem Hs.same {r r':Rs} {rs':List Rs} (S:Hs h0 h rs) (u:Ut rs r r' rs') (hk:∀ fp,r.ok h fp→r'.ok h fp):Hs h0 h rs' :=
 S.turn u (zA3 _) S.wf fun fp k1 k2=>⟨fun _ _ _=>rfl,fp,hk fp k1,fun b hb=>⟨(k2 b hb).2,.inl hb⟩⟩
theorem Hs.qg8 {α β:Type} {v:Value} {e:TypeId} {z:Nat} {enc:α→List Value} {l:List α} {enc2:β→List Value} {l2:List β} (S:Hs h0 h (.sl v e z enc l :: rs)) (hl:l.length=l2.length) (hc:l.flatMap enc=l2.flatMap enc2):Hs h0 h (.sl v e z enc2 l2 :: rs) :=
 S.same .here fun fp k=>by
  rcases k with ⟨rfl,rfl⟩|⟨b,o,cc,slk,cap,h1,h2,h3,h4,h5,h6⟩
  ·have:l2=[]:=zE8.1 hl.symm;exact .inl ⟨rfl,this⟩
  ·exact .inr ⟨b,o,cc,slk,cap,by rw [← hl];exact h1,h2,h3,by rw [← hl,← hc];exact h4,⟨by rw [← hl];exact h5.1,h5.2⟩,h6⟩
theorem Hs.one {α:Type} {v:Value} {e:TypeId} {z:Nat} {c:List Value} (enc:α→List Value) (y:α) (S:Hs h0 h (.sl v e z YN [c] :: rs)) (hc:c=enc y):Hs h0 h (.sl v e z enc [y] :: rs):=S.qg8 rfl (by simp [YN,hc])
theorem dr {α:Type} {x lo:Operand} {ty e:TypeId} {v:Value} {z:Nat} {enc:α→List Value} {l:List α} {f:Rs→List Rs} {dd:List Rs} {ik:IntKind} {a:Int} {d:Tmp} (S:Hs h0 h rs) (ho:o.op = .slice ty x (some lo) none none) (hx:kA L x=some v) [i:HasS rs v α e z enc l f dd]
 (w:∀ v',Hs h0 h (f (.sl v' e z enc (l.drop a.toNat)))→KO P X sz ops os (L.put d v') h R) (hg:qp ops L.tree o.guard=some true:=by exact rfl) (hlo:kA L lo=some (.int ik a):=by exact rfl) (hz:∀ x,(enc x).length=z:=by intro _;rfl) (hu:Jk P ty=some z:=by exact rfl) (ha:0≤a∧a≤l.length:=by first|omega|grind)
 (hdst:o.dst=some d:=by exact rfl) (hds:Nat.blt d sz=true:=by exact rfl):KO P X sz ops (o :: os) L h R:=by
 obtain ⟨k,rfl⟩:=zH3 ha.1;have hk:k≤l.length:=by omega
 obtain ⟨fp,k1,k2,-⟩:=(i.ut (.sl v e z enc l)).ok (h':=h) S.ext.next (zA3 _) S.sep
 have hue:∃ e',P.underlying ty=some (.slice e')∧zU P e'=some z:=by
  unfold Jk at hu;split at hu
  ·exact ⟨_,by assumption,hu⟩
  ·cases hu
 obtain ⟨e',hu1,hu2⟩:=hue;have hlo':zY L.tree lo=some (.int ik (Int.ofNat k)):=qI hlo;have go:∀ v',jd P ty v (some (.int ik (Int.ofNat k))) none none h=some v'→Hs h0 h (f (.sl v' e z enc (l.drop k)))→KO P X sz ops (o :: os) L h R:=fun v' q1 q2=>by
  refine zJ (v:=v') (h':=h) hg ?_ (by simp only [qJ,hdst,hds]) (w v' (by simpa using q2));rw [ho];simp only [ja,qI hx,jM,hlo',q1,qU,jU]
 rcases k1 with ⟨rfl,rfl⟩|⟨b,o',cc,slk,cap,g1,g2,g3,g4,g5,g6⟩
 ·obtain rfl:k=0:=by simpa using hk
  refine go (.slice none 0 0) ?_ (S.same (i.ut _) fun fq q=>by simpa using q);simp only [jd,hu1,zF,hu2]
 ·subst g1;have hle:Nat.ble k l.length=true:=zB3 hk;have hnn:Nat.ble l.length cap=true:=zB3 g5.1;have hcz:l.length*z≤cap*z:=zD3 z g5.1;have hoc:o'+l.length*z≤cc.length:=by have:=g5.2;omega
  have hkz:k*z≤l.length*z:=zD3 z hk;cases hq:slk.isNone && Nat.beq k cap with
  | true =>
   rw [zA8] at hq;have hkl0:=zA6 hq.2;have hkl:k=l.length:=by have:=g5.1;omega
   refine go (.slice (some ⟨b,o',none⟩) (l.length - k) (cap - k)) ?_ (S.same (i.ut _) fun fq q=>?_)
   ·simp only [jd,hu1,g2,hu2,zF,hle,hnn,zF9,hq.1,hq.2]
   ·rcases q with ⟨q1,-⟩|⟨b',o2,cc2,sl2,cap2,q1,q2,q3,-⟩
    ·cases q1
    ·cases q1
     have:l.drop k=[]:=by rw [hkl,List.drop_length]
     exact .inr ⟨b,o',cc,slk,cap - k,by rw [zB4],g2,q3,by rw [this];simp [zq],⟨by rw [this];exact zB0 _,by rw [show cap - k=0 by omega];omega⟩,g6⟩
  | false =>
   refine go (.slice (some ⟨b,o'+k*z,none⟩) (l.length - k) (cap - k)) ?_ (S.same (i.ut _) fun fq q=>?_)
   ·simp only [jd,hu1,g2,hu2,zF,hle,hnn,zF9,hq]
   ·rcases q with ⟨q1,-⟩|⟨b',o2,cc2,sl2,cap2,q1,q2,q3,-⟩
    ·cases q1
    ·cases q1
     have hsub:k*z+(l.length - k)*z=l.length*z:=by rw [← zE0];congr 1;omega
     have hsub2:k*z+(cap - k)*z=cap*z:=by rw [← zE0];congr 1;have:=g5.1;omega
     refine .inr ⟨b,o'+k*z,cc,slk,cap - k,by rw [zB4],g2,q3,?_,⟨by rw [zB4];have:=g5.1;omega,by have:=g5.2;omega⟩,g6⟩;rw [zB4,QY hz,QE g4 (by omega),zF8];rw [zB4,zy hz];omega
end
end Go.Proofs.Xx
