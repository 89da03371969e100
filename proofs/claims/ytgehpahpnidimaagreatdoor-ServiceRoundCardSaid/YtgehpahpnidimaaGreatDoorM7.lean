/-
  slices.Insert of one tie,known: a new row,or the old one,which is no more looked at.
-/
import Derived.Test.YtgehpahpnidimaaGreatDoorM6
import Derived.Shelf.Strings.BuilderX
import Derived.Lib.MakeNoZero
import Derived.Test.YtgehpahpnidimaaGreatDoorM3
import Derived.KernelRfl
import Derived.Test.YtgehpahpnidimaaGreatDoorM5
set_option linter.unusedSectionVars false
set_option linter.unusedVariables false
set_option linter.unusedSimpArgs false
set_option maxRecDepth 1000000
namespace Go.Proofs.Xx
open Go Go.RowKit Go.Lib Go.Proofs
theorem jF {P:Program} {w:World} {b o:Nat} {cc:Array Value} {e:TypeId} {fr:Nat×Nat} {vs:List Value} (hb:w.heap[b]? = some (.cells cc e fr)) (h1:vs.all one? = true) (hl:o+vs.length≤cc.size) (hfr:∀ j,¬ (fr.1≤j∧j<fr.2)) :
 Wrote w (w.setCells b o vs) b (.cells (Xx.splice cc.toList o vs).toArray e fr):=by
 obtain ⟨w',q1,q2⟩:=jh (P:=P) (o:=o) vs 0 cc w hb h1 (by omega) hfr;rw [Nat.add_zero] at q2;have hs:=run_storeCells_cells (P:=P) b o vs 0 w (fun j hj=>by
  simp only [World.cell?,hb];simp
  omega) (fun j hj=>by
  unfold World.frozen?;simp only [hb];have:=hfr (o+0+j);simp only [zH2,decide_eq_false_iff_not];omega) (fun v hv=>by rw [← one?_eq];exact zC8.1 h1 v hv)
 rw [hs] at q1;cases q1
 simpa using q2
theorem Wrote.drew {w w':World} {k:Nat} {o:Obj} (h:Wrote w.drew w' k o):Wrote w w' k o:=⟨h.here,h.other,h.size,h.os,h.tape,h.output⟩
theorem Pushed.wrote {w w1 w2:World} {o o2:Obj} (p:Pushed w w1 o) (q:Wrote w1 w2 w.heap.size o2):Pushed w w2 o2:=by
 refine ⟨?_,q.os.trans p.os,q.tape.trans p.tape,q.output.trans p.output⟩;apply Array.ext_getElem?
 intro j;by_cases hj:j=w.heap.size
 ·subst hj;rw [q.here];simp
 ·rw [q.other j hj,p.heap,Array.getElem?_push,Array.getElem?_push,if_neg hj,if_neg hj]
theorem qdG {cc old vs:List Value} {s a z:Nat} (ho:∀ j,j<old.length→cc[s+j]? = old[j]?) (ha:a≤old.length) (hv:vs.length=z) (hs:s+old.length+z≤cc.length) :
 ∀ j,j<old.length+z→(splice (splice cc (s+(a+z)) (old.drop a)) (s+a) vs)[s+j]? = (old.take a ++ (vs ++ old.drop a))[j]?:=by
 intro j hj;have l1:s+(a+z)+(old.drop a).length≤cc.length:=by rw [zB4];omega
 have l2:(splice cc (s+(a+z)) (old.drop a)).length=cc.length:=qV _ _ _ l1;have hd:(old.drop a).length=old.length - a:=zB4;have ht:(old.take a).length=a:=by rw [zA9];omega
 rw [zK _ _ _ (by rw [l2];omega),zK _ _ _ l1];rw [zF0,ht,zF0,hv,hd];by_cases h1:j<a
 ·rw [if_pos (by omega),if_pos (by omega),if_pos h1,zC7,if_pos h1,ho j (by omega)]
 ·rw [if_neg (by omega:¬ s+j<s+a),if_neg h1];by_cases h2:j - a<z
  ·rw [if_pos (by omega),if_pos h2];congr 1;omega
  ·rw [if_neg (by omega),if_neg (by omega),if_pos (by omega),if_neg h2];congr 1;omega
def Zr (X:Extern) (f:FuncId):Extern:=fun g args h=>match Nat.beq g f,args with
 | true,[.slice (some ⟨b,o,none⟩) n c,.int .i64 (.ofNat i),.slice (some ⟨vb,vo,none⟩) 1 vc] =>
  match Nat.blt i n with
  | false=>X g args h
  | true=>match h.get b,h.get vb with
   | some (.cells cc eb slk false),some (.cells vcc _ _ false) =>
    match qX cc o (n*3),qX vcc vo 3 with
    | some old,some v=>match (match slk with|none=>true|some k=>Nat.beq k 3) && (Nat.ble (o+c*3) cc.length && (!Nat.beq b vb && (old.all one? && (v.all one? && (Nat.ble ((n+1)*40) 140737488355328 && Nat.beq eb 174))))) with
     | true=>some (.slice (some ⟨h.next,0,none⟩) (n+1) (n+1),(h.put b .dead).add (.cells (old.take (i*3) ++ (v ++ old.drop (i*3))) 174 (some 3) false))
     | false=>none
    | _,_=>none
   | _,_=>none
 | _,_=>X g args h
set_option maxHeartbeats 1000000 in
theorem GN [Flag] {X:Extern} (hX:XE Tryz.prog X):XE Tryz.prog (Zr X 300):=by
 intro g args h u h1 hx B e w args' r hargs;unfold Zr at hx;split at hx
 rotate_left
 ·exact hX _ _ _ _ _ hx B e w args' r hargs
 rename_i b o n c i vb vo vc hg
 split at hx
 ·exact hX _ _ _ _ _ hx B e w args' r hargs
 rename_i hin
 have hin:i<n:=by rw [Nat.blt_eq] at hin;exact hin
 split at hx
 rotate_left
 ·cases hx
 rename_i cc0 eb slk vcc t2 s2 hb hvb
 split at hx
 rotate_left
 ·cases hx
 rename_i old v hold hv
 split at hx
 rotate_left
 ·cases hx
 rename_i hck
 cases hx
 have:=zA6 hg;subst this;simp only [zA8,zG3] at hck;obtain ⟨k1,k2,k3,k4,k5,k6,k7⟩:=hck;have k7:=zA6 k7;subst k7;have k2:=zB6 k2;have k6:=zB6 k6;have hne:b≠vb:=fun q=>by subst q;simp at k3
 obtain ⟨s',r1,rfl,hs,hr1⟩:=hargs.cons_inv;obtain ⟨i',r2,rfl,hi,hr2⟩:=hr1.cons_inv;obtain ⟨v',r3,rfl,hv',hr3⟩:=hr2.cons_inv;have:=hr3.nil_inv;subst this;obtain ⟨L,a,hL,rfl,hlc,ho⟩:=hs.slice_inv;obtain ⟨L2,a2,hL2,rfl,hlc2,ho2⟩:=hv'.slice_inv;cases hi
 obtain rfl:a=⟨L.blk,L.sh+o,none⟩:=by rcases ho with ho|ho;exact ho;omega
 obtain rfl:a2=⟨L2.blk,L2.sh+vo,none⟩:=by rcases ho2 with ho|ho;exact ho;omega
 have hO:=r.obj b L _ hL hb;have hO2:=r.obj vb L2 _ hL2 hvb;obtain ⟨old',o1,o2,o3⟩:=hO.seg hold;obtain ⟨vs',v1,v2,v3⟩:=hO2.seg hv;have hblk:L2.blk≠L.blk:=fun q=>hne (r.inj _ _ _ _ _ _ hL hb hL2 hvb q.symm rfl rfl);have hone1:old'.all one? = true:=by rw [o1.one?];exact k4
 have hone2:vs'.all one? = true:=by rw [v1.one?];exact k5
 have h1c:∀ v∈old',v.oneCell'=true:=fun v hv=>by rw [← one?_eq];exact zC8.1 hone1 v hv
 have h1v:∀ v∈vs',v.oneCell'=true:=fun v hv=>by rw [← one?_eq];exact zC8.1 hone2 v hv
 have hdone:(old'.drop (i*3)).all one? = true:=zC8.2 fun x hx=>zC8.1 hone1 x (List.mem_of_mem_drop hx);obtain ⟨cc,fr,g1,g2,g3,g4,g5,g6⟩:=hO;obtain ⟨cc2,fr2,f1,f2,f3,f4,f5,f6⟩:=hO2;have hslk:L.sh+cc0.length+L.slack*3≤cc.size:=by
  cases slk with
  | none=>have:=(g4 rfl).1;rw [this];omega
  | some k =>
   have hk:=g5 k rfl;have:=zA6 k1;subst this;exact hk
 have hsmall:c+L.slack≤9223372036854775807→True:=fun _=>trivial;have hent:∀ args,(callFunc 300 args).run Tryz.prog w = .ok (.enter 300 args) w:=fun args=>Go.Proofs.enters_of Tryz.func300 (by kernel_rfl) rfl args w;obtain ⟨rk,tk⟩:=r.kill hL;have hnew:∀ f:Emb,e.le f→VRs f (old.take (i*3) ++ (v ++ old.drop (i*3))) (old'.take (i*3) ++ (vs' ++ old'.drop (i*3))):=fun f hf=>((o1.mono hf).take _).append ((v1.mono hf).append ((o1.mono hf).drop _));have hnl:(old.take (i*3) ++ (v ++ old.drop (i*3))).length=3*(n+1):=by
  have:=(hnew e e.le_refl).length;rw [← this];simp only [zB2,zA9,zB4,o2,v2];omega
 by_cases hroom:n+1≤c+L.slack
 ·
  have hsz:L.sh+o+3*(n+1)≤cc.size:=by omega
  have hfr:∀ j,World.frozen? w ⟨L.blk,j,none⟩=false:=fun j=>by
   unfold World.frozen?;simp only [g1];have:=g6 rfl j;simp only [zH2,decide_eq_false_iff_not];omega
  have hfr2:∀ j,World.frozen? w ⟨L2.blk,j,none⟩=false:=fun j=>by
   unfold World.frozen?;simp only [f1];have:=f6 rfl j;simp only [zH2,decide_eq_false_iff_not];omega
  have hcs:=wO L.blk (L.sh+o) n (c+L.slack) i L2.blk (L2.sh+vo) (vc+L2.slack) old' vs' w hin hroom (by omega) hblk (by omega) v2 o3
   (fun j hj=>by
    simp only [World.cell?,g1];simp
    omega) (fun j _=>hfr _) v3 h1c h1v t2 174 cc2.size cc.size (by simp only [World.shape?,f1]) (by simp only [World.shape?,g1]) (by omega) (hfr2 _) (hfr2 _)
  have hdl:(old'.drop (i*3)).length=(n - i)*3:=by rw [zB4,o2];omega
  have hcl:cc.toList.length=cc.size:=zC2;have hsl1:(splice cc.toList (L.sh+o+(i+1)*3) (old'.drop (i*3))).length=cc.toList.length:=qV _ _ _ (by rw [hdl];omega);have q1:Wrote w (w.drew.setCells L.blk (L.sh+o+(i+1)*3) (old'.drop (i*3))) L.blk _:=(jF (P:=Tryz.prog) (w:=w.drew) (o:=L.sh+o+(i+1)*3) g1 hdone (by rw [hdl];omega) (g6 rfl)).drew;have q2:=q1.trans (jF (P:=Tryz.prog) (o:=L.sh+o+i*3) q1.here hone2 (by rw [zE6,hsl1,v2];omega) (g6 rfl));have hsl2:(splice (splice cc.toList (L.sh+o+(i+1)*3) (old'.drop (i*3))) (L.sh+o+i*3) vs').length=cc.toList.length:=by
   rw [qV _ _ _ (by rw [hsl1,v2];omega),hsl1]
  have hB:=r.own b L _ hL hb rfl;have hle:=rk.le_put ⟨L.blk,L.sh+o,c+L.slack - (n+1)⟩;have hold':∀ j,j<old'.length→cc.toList[L.sh+o+j]? = old'[j]?:=fun j hj=>by
   have h0:=o3 j _ (zA4 hj);simp only [World.cell?,g1] at h0;rw [zA4 hj,zC1];simpa using h0
  have hget:=qdG (cc:=cc.toList) (old:=old') (vs:=vs') (s:=L.sh+o) (a:=i*3) (z:=3) hold' (by omega) v2 (by rw [hcl];omega);rw [show L.sh+o+(i*3+3)=L.sh+o+(i+1)*3 by omega] at hget;obtain ⟨r2,r3⟩:=rk.view (sh:=L.sh+o) (s:=c+L.slack - (n+1)) (o:=.cells (old.take (i*3) ++ (v ++ old.drop (i*3))) 174 (some 3) false) hL (zW _ _) (fun b' L' p e1 e2 e3=>by
   rw [AH.get_put] at e2;by_cases hbb:b'=b
   ·rw [if_pos hbb] at e2;cases e2;cases e3
   ·rw [if_neg hbb] at e2;exact fun q=>hbb (r.inj b' L' p b L _ e1 e2 hL hb q e3 rfl)) hB q2 (by
   refine ⟨_,fr,q2.here,?_,fun j u hj=>?_,(fun q=>by cases q),fun k hk=>?_,g6⟩
   ·simp only [zE6,hsl2,hnl];omega
   ·have hjl:j<3*(n+1):=by rw [← hnl];exact (zD6.1 hj).1
    obtain ⟨u',p1,p2⟩:=(hnew _ hle).get j u hj;refine ⟨u',?_,p2⟩;rw [← p1,← hget j (by omega)];simp
   ·cases hk
    simp only [zE6,hsl2,hnl];omega)
  refine ⟨_,.slice (some ⟨L.blk,L.sh+o,none⟩) (n+1) (c+L.slack),_,r2,tk.trans r3 r.dom,?_,.inr ⟨hent _,fun cf cs=>?_⟩⟩
  ·have:=VR.slice (f:=e.put (h.put b .dead).next ⟨L.blk,L.sh+o,c+L.slack - (n+1)⟩) (h.put b .dead).next 0 ⟨L.blk,L.sh+o,none⟩ (n+1) (n+1) ⟨L.blk,L.sh+o,c+L.slack - (n+1)⟩ (Emb.put_same _ _ _) (zA3 _) (.inl rfl)
   rw [show n+1+(c+L.slack - (n+1))=c+L.slack by omega] at this;exact this
  ·obtain ⟨en,w',fr,⟨rfl,rfl⟩,hco,-,hl⟩:=hcs (cf :: cs);exact Steps.trans hco (.one (step_leave_returned hl))
 ·
  have hcs:=KP L.blk (L.sh+o) n (c+L.slack) i L2.blk (L2.sh+vo) (vc+L2.slack) old' vs' w hin (by omega) (by omega) (by omega) (by omega) v2 o3 v3 h1c h1v;obtain ⟨G,hG⟩:∃ G,G=grownCap w (n+1) (c+L.slack) 174:=⟨_,rfl⟩
  rw [← hG] at hcs;obtain ⟨ROW,hROW⟩:∃ ROW:Array Value,ROW=(old'.take (i*3)).toArray ++ Builtin.zeroCells #[.string ⟨#[]⟩,.string ⟨#[]⟩,.int .u8 0] (n+1 - i) ++ Builtin.zeroCells #[.string ⟨#[]⟩,.string ⟨#[]⟩,.int .u8 0] (G - (n+1)):=⟨_,rfl⟩
  rw [← hROW] at hcs;have hGn:n+1≤G:=by rw [hG];exact grownCap_ge w _ _ _
  have hRl:ROW.size=3*G:=by
   rw [hROW];simp [Builtin.zeroCells,o2]
   omega
  have hRc:ROW.toList.length=ROW.size:=zC2;have hRt:∀ j,j<i*3→ROW.toList[j]? = old'[j]?:=fun j hj=>by
   rw [hROW,zC1,Array.getElem?_append_left (by simp;omega),Array.getElem?_append_left (by simp;omega)];simp [zC7,hj]
  have hdl:(old'.drop (i*3)).length=(n - i)*3:=by rw [zB4,o2];omega
  obtain ⟨w1,hw1⟩:∃ w1,w1=(w.alloc (.cells ROW 174)).drew:=⟨_,rfl⟩
  rw [← hw1] at hcs;have p1:Pushed w w1 (.cells ROW 174 (0,0)):=by subst hw1;exact ⟨rfl,rfl,rfl,rfl⟩
  have hz:∀ j:Nat,¬ ((0,0):Nat×Nat).1≤j∨¬ j<((0,0):Nat×Nat).2:=fun j=>.inr (zB7 j);have hz:∀ j:Nat,¬ (((0,0):Nat×Nat).1≤j∧j<((0,0):Nat×Nat).2):=fun j q=>zB7 j q.2;have q1:=jF (P:=Tryz.prog) (o:=i*3) p1.new hone2 (by omega) hz;have hsl1:(splice ROW.toList (i*3) vs').length=ROW.toList.length:=qV _ _ _ (by omega);have q2:=q1.trans (jF (P:=Tryz.prog) (w:=(w1.setCells w.heap.size (i*3) vs').drew) (o:=(i+1)*3) q1.here hdone (by rw [zE6,hsl1,hdl];omega) hz).drew;have p2:=p1.wrote q2;have hsl2:(splice (splice ROW.toList (i*3) vs') ((i+1)*3) (old'.drop (i*3))).length=ROW.toList.length:=by
   rw [qV _ _ _ (by rw [hsl1,hdl];omega),hsl1]
  have hle:=rk.le_put ⟨w.heap.size,0,G - (n+1)⟩;have hget:∀ j,j<3*(n+1)→(splice (splice ROW.toList (i*3) vs') ((i+1)*3) (old'.drop (i*3)))[j]? = (old'.take (i*3) ++ (vs' ++ old'.drop (i*3)))[j]?:=fun j hj=>by
   have ht:(old'.take (i*3)).length=i*3:=by rw [zA9];omega
   rw [zK _ _ _ (by rw [hsl1,hdl];omega),zK _ _ _ (by omega)];rw [zF0,ht,zF0,v2,hdl];by_cases g1:j<i*3
   ·rw [if_pos (by omega),if_pos g1,if_pos g1,zC7,if_pos g1,hRt j g1]
   ·rw [if_neg g1,if_neg g1];by_cases g2:j - i*3<3
    ·rw [if_pos (by omega),if_pos (by omega),if_pos g2]
    ·rw [if_neg (by omega),if_pos (by omega),if_neg g2];congr 1;omega
  obtain ⟨r2,r3⟩:=rk.add (s:=G - (n+1)) (o:=.cells (old.take (i*3) ++ (v ++ old.drop (i*3))) 174 (some 3) false) p2 (by
   refine ⟨_,(0,0),p2.new,?_,fun j u hj=>?_,(fun q=>by cases q),fun k hk=>?_,(fun _ j q=>by simp at q)⟩
   ·simp only [zE6,hsl2,hnl];omega
   ·have hjl:j<3*(n+1):=by rw [← hnl];exact (zD6.1 hj).1
    obtain ⟨u',p1,p2⟩:=(hnew _ hle).get j u hj;refine ⟨u',?_,p2⟩;rw [← p1,← hget j hjl];simp
   ·cases hk
    simp only [zE6,hsl2,hnl];omega)
  refine ⟨_,.slice (some ⟨w.heap.size,0,none⟩) (n+1) G,_,r2,tk.trans r3 r.dom,?_,.inr ⟨hent _,fun cf cs=>?_⟩⟩
  ·have:=VR.slice (f:=e.put (h.put b .dead).next ⟨w.heap.size,0,G - (n+1)⟩) (h.put b .dead).next 0 ⟨w.heap.size,0,none⟩ (n+1) (n+1) ⟨w.heap.size,0,G - (n+1)⟩ (Emb.put_same _ _ _) (zA3 _) (.inl rfl)
   rw [show n+1+(G - (n+1))=G by omega] at this;exact this
  ·obtain ⟨en,w',fr,⟨rfl,rfl⟩,hco,-,hl⟩:=hcs (cf :: cs);exact Steps.trans hco (.one (step_leave_returned hl))
def Xd:Extern:=Zr X0 300
theorem qgo [Flag]:XE Tryz.prog Xd:=GN qgp
end Go.Proofs.Xx
namespace Go.Proofs.Xx
open Go Go.RowKit Go.Shelf Go.Proofs
def renJ:Ren where
 f x:=match x with | 241=>243 | 277=>287|x=>x
 t x:=match x with | 0=>0 | 3=>3 | 5=>5 | 37=>35 | 70=>96 | 72=>98|x=>x
 g x:=match x with|x=>x
theorem laysJ:Lays.n241 Tryz.prog renJ where
 mixed:=by kernel_rfl
 f241:=by kernel_rfl
 f277:=by kernel_rfl
 t0:=by kernel_rfl
 a0:=fun w=>by rfl
 z0:=fun w=>by rfl
 v0:=fun w=>by rfl
 t3:=by kernel_rfl
 a3:=fun w=>by rfl
 z3:=fun w=>by rfl
 v3:=fun w=>by rfl
 t37:=by kernel_rfl
 a37:=fun w=>by rfl
 z37:=fun w=>by rfl
 v37:=fun w=>by rfl
 t70:=by kernel_rfl
 a70:=fun w=>by rfl
 z70:=fun w=>by rfl
 v70:=fun w=>by rfl
 t72:=by kernel_rfl
 a72:=fun w=>by rfl
 z72:=fun w=>by rfl
 v72:=fun w=>by rfl
theorem qep:Tryz.prog.underlying (renJ.t 5)=some (.int .u8):=by kernel_rfl
theorem qga:∀ w,(isAgg (renJ.t 5)).run Tryz.prog w = .ok false w:=fun w=>by rfl
theorem qf8:∀ w,(Go.sizeOf (renJ.t 5)).run Tryz.prog w = .ok 1 w:=fun w=>by rfl
theorem qf9:∀ w,(zeroValue (renJ.t 5)).run Tryz.prog w = .ok (.int .u8 0) w:=fun w=>by rfl
theorem qcJ:(Tryz.prog.info? 5).map (·.size)=some 1:=by kernel_rfl
def wQ (w:World) (b:Nat) (cs:Array Value):World:=((w.alloc (.cells cs 5)).setCell ⟨b,1,none⟩ (.slice (some ⟨w.heap.size,0,none⟩) 0 cs.size)).drew.drew.drew
set_option maxHeartbeats 4000000 in
theorem Po {b n:Nat} {q:Value} {fr:Nat×Nat} {w:World} (hb:w.heap[b]? = some (.cells #[q,.slice none 0 0] 98 fr)) (hfr:∀ i,¬ (fr.1≤i∧i<fr.2)) (hn:n≤281474976710656) :
 ∃ cs:Array Value,n≤cs.size∧Calls Tryz.prog 243 #[.pointer (some ⟨b,0,none⟩),.int .i64 n] w fun e w'=>e = .returned (.tuple #[])∧w'=wQ w b cs:=by
 have L:=laysJ;obtain ⟨cs,mk,hle,-⟩:=Lib.run_makeNoZero (P:=Tryz.prog) w.drew #[renJ.t 3] (renJ.t 37) 5 L.t37 n hn;refine ⟨cs,hle,?_⟩;have hlt:b<w.heap.size:=by
  rcases zA7 b w.heap.size with k|k
  ·exact k
  ·rw [Array.getElem?_eq_none k] at hb;cases hb
 have hb2:(w.alloc (.cells cs 5)).heap[b]? = some (.cells #[q,.slice none 0 0] 98 fr):=(show (w.heap.push _)[b]? = _ by rw [Array.getElem?_push,if_neg (by omega)];exact hb)
 have hz:IntKind.i64.wrap (IntKind.i64.wrap 0+(n:Int))=n:=by
  rw [IntKind.wrap_i64,IntKind.wrap_i64];omega
 have call:(callFunc (renJ.f 277) #[.int .i64 (IntKind.i64.wrap (IntKind.i64.wrap 0+(n:Int)))]).run Tryz.prog w.drew = .ok (.value (.slice (some ⟨w.drew.heap.size,0,none⟩) n cs.size)) (w.drew.drew.drew.alloc (.cells cs 5)):=by
  rw [hz];rw [run_callFunc_extern L.f277 (by kernel_rfl) (by kernel_rfl) (by kernel_rfl) (e:=Extern.BytealgMakeNoZero.makeNoZero #[renJ.t 3] #[renJ.t 37]) (by kernel_rfl),mk];rfl
 have k1:w.drew.cell? ⟨b,1,none⟩=some (.slice none 0 0):=by
  show w.cell? ⟨b,1,none⟩=_
  unfold World.cell?;rw [hb];rfl
 have k2:(w.alloc (.cells cs 5)).cell? ⟨b,1,none⟩=some (.slice none 0 0):=by
  unfold World.cell?;rw [hb2];rfl
 have k3:(w.alloc (.cells cs 5)).frozen? ⟨b,1,none⟩=false:=by
  unfold World.frozen?;simp only [hb2];have:=hfr 1;simp only [zH2,decide_eq_false_iff_not];omega
 have cp:∀ W:World,(Builtin.copy_ #[renJ.t 37,renJ.t 37] (renJ.t 3) #[.slice (some ⟨w.heap.size,0,none⟩) 0 cs.size,.slice none 0 0]).run Tryz.prog W = .ok (goInt 0) W :=
  fun W=>run_copy_none W (renJ.t 37) (renJ.t 37) (renJ.t 3) 5 _ _ 0 cs.size 0 0 L.t37 qcJ rfl
 clear hz hfr hb hb2;have mixed:=L.mixed;have t72:=L.t72;have a72:=L.a72;have z72:=L.z72;have v72:=L.v72;have u72:=run_underlying L.t72;have t70:=L.t70;have a70:=L.a70;have z70:=L.z70;have v70:=L.v70;have u70:=run_underlying L.t70;have t37:=L.t37;have a37:=L.a37;have z37:=L.z37;have v37:=L.v37;have u37:=run_underlying L.t37;have t3:=L.t3;have a3:=L.a3;have z3:=L.z3;have v3:=L.v3;have u3:=run_underlying L.t3;have t5:=qep;have a5:=qga;have z5:=qf8;have v5:=qf9;have u5:=run_underlying qep;go_enter L.f241,Body.n241_ntmps renJ
 go_wp2
 go_region_o
 all_goals (go_wp2;go_end0;exact ⟨rfl,by unfold wQ;rw [World.setCell_alloc_past _ _ _ _ hlt]⟩)
def X4 (X:Extern) (f:FuncId):Extern:=fun g args h=>match Nat.beq g f,args with
 | true,[.pointer (some ⟨b,0,none⟩),.int .i64 (.ofNat n)]=>match h.get b with
  | some (.cells [q,.slice none 0 0] 98 none false)=>match Nat.ble n 281474976710656 with
   | true=>some (.tuple #[],(h.add (.cells [] 5 (some 1) false)).put b (.cells [q,.slice (some ⟨h.next,0,none⟩) 0 0] 98 none false))
   | false=>none
  | _=>none
 | _,_=>X g args h
theorem kY [Flag] {X:Extern} (hX:XE Tryz.prog X):XE Tryz.prog (X4 X 243):=by
 intro g args h u h1 hx B e w args' r hargs;unfold X4 at hx;split at hx
 rotate_left
 ·exact hX _ _ _ _ _ hx B e w args' r hargs
 rename_i b n hg
 split at hx
 rotate_left
 ·cases hx
 rename_i q hb
 split at hx
 rotate_left
 ·cases hx
 rename_i hn
 have hn:=zB6 hn;cases hx
 have:=zA6 hg;subst this;obtain ⟨p',r1,rfl,hp,hr1⟩:=hargs.cons_inv;obtain ⟨n',r2,rfl,hn',hr2⟩:=hr1.cons_inv;have:=hr2.nil_inv;subst this;obtain ⟨L,hL,rfl⟩:=hp.pointer_inv;cases hn'
 obtain ⟨cc,fr,g1,g2,g3,g4,g5,g6⟩:=r.obj b L _ hL hb;obtain ⟨e1,e2⟩:=(g4 rfl).2 rfl;have e0:=(g4 rfl).1;obtain ⟨q',c0,vq⟩:=g3 0 q rfl;obtain ⟨s',c1,vs⟩:=g3 1 (.slice none 0 0) rfl;cases vs
 rw [e1] at c0 c1;have hcc:cc=#[q',.slice none 0 0]:=by
  apply Array.ext_getElem?
  intro i;match i with
  | 0=>exact c0
  | 1=>exact c1
  | i+2=>rw [Array.getElem?_eq_none (by rw [e2];simp),Array.getElem?_eq_none (by simp)]
 subst hcc;obtain ⟨cs,hcs,hcall⟩:=Po g1 (g6 rfl) hn;have hbn:b<h.next:=r.dom b L hL
 have p1:Pushed w (w.alloc (.cells cs 5)) (.cells cs 5 (0,0)):=⟨rfl,rfl,rfl,rfl⟩
 obtain ⟨ra,ta⟩:=r.add (s:=cs.size) (o:=.cells [] 5 (some 1) false) p1 ⟨cs,(0,0),p1.new,by simp,fun i v hi=>by simp at hi,(fun k=>by cases k),(fun k hk=>by cases hk;simp),(fun _ i k=>by simp at k)⟩;have hL2:=r.le_put ⟨w.heap.size,0,cs.size⟩ b L hL;have gb:(w.alloc (.cells cs 5)).heap[L.blk]? = some (.cells #[q',.slice none 0 0] 98 fr):=(p1.old _ (r.rng b L hL)).trans g1;have wr:=jF (P:=Tryz.prog) (o:=1) (vs:=[.slice (some ⟨w.heap.size,0,none⟩) 0 cs.size]) gb rfl (by simp) (g6 rfl);have wr2:Wrote (w.alloc (.cells cs 5)) (wQ w L.blk cs) L.blk (.cells #[q',.slice (some ⟨w.heap.size,0,none⟩) 0 cs.size] 98 fr):=⟨wr.here,wr.other,wr.size,wr.os,wr.tape,wr.output⟩
 have hsl:VR (e.put h.next ⟨w.heap.size,0,cs.size⟩) (.slice (some ⟨h.next,0,none⟩) 0 0) (.slice (some ⟨w.heap.size,0,none⟩) 0 cs.size):=by
  have:=VR.slice (f:=e.put h.next ⟨w.heap.size,0,cs.size⟩) h.next 0 ⟨w.heap.size,0,none⟩ 0 0 ⟨w.heap.size,0,cs.size⟩ (Emb.put_same _ _ _) (zA3 _) (.inl rfl)
  rw [zG1] at this;exact this
 obtain ⟨rp,tp⟩:=ra.put (o':=.cells [q,.slice (some ⟨h.next,0,none⟩) 0 0] 98 none false) hL2 (show (h.add _).get b=some _ by rw [AH.get_add,if_neg (by omega)];exact hb) rfl wr2 (by
  refine ⟨_,fr,wr2.here,by rw [e1];simp,fun i v hi=>?_,fun _=>⟨e0,fun _=>⟨e1,by simp⟩⟩,(fun k hk=>by cases hk),g6⟩;rw [e1,zG1];match i,hi with
  | 0,hi=>cases hi;exact ⟨q',rfl,vq.mono (r.le_put _)⟩
  | 1,hi=>cases hi;exact ⟨_,rfl,hsl⟩) (fun _=>rfl)
 refine ⟨_,.tuple #[],wQ w L.blk cs,rp,ta.trans tp r.dom,VR.tuple [] [] .nil,.inr ⟨Go.Proofs.enters_of laysJ.f241 (by kernel_rfl) rfl _ _,fun c k=>?_⟩⟩;obtain ⟨en,w',fr',⟨rfl,rfl⟩,hco,-,hl⟩:=hcall (c :: k);rw [e1];exact Steps.trans hco (.one (step_leave_returned hl))
end Go.Proofs.Xx
namespace Go.Proofs.Xx
open Go
mutual
theorem VR.back {f g:Emb} (hle:f.le g):∀ {v y v':Value},VR f v y→VR g v v'→VR f v v'
 | _,_,_,.bool b,h=>by cases h;exact .bool b
 | _,_,_,.int k n,h=>by cases h;exact .int k n
 | _,_,_,.float k n,h=>by cases h;exact .float k n
 | _,_,_,.string s,h=>by cases h;exact .string s
 | _,_,_,.nilPointer,h=>by cases h;exact .nilPointer
 | _,_,_,.pointer b o L hb,h=>by
  cases h with
  | pointer _ _ L' h' =>
   have e:=(hle b L hb).symm.trans h';cases e
   exact .pointer b o L hb
 | _,_,_,.nilSlice,h=>by cases h;exact .nilSlice
 | _,_,_,.slice b o a len cap L hb hl ho,h=>by
  cases h with
  | slice _ _ a' _ _ L' h' hl' ho' =>
   have e:=(hle b L hb).symm.trans h';cases e
   exact .slice b o a' len cap L hb hl ho'
 | _,_,_,.nilMap,h=>by cases h;exact .nilMap
 | _,_,_,.map b L hb,h=>by
  cases h with
  | map _ L' h' =>
   have e:=(hle b L hb).symm.trans h';cases e
   exact .map b L hb
 | _,_,_,.func gg a a' c c' h1 h2,h=>by
  cases h with
  | func _ _ a2 _ c2 k1 k2=>exact .func gg a a2 c c2 (VRs.back hle h1 k1) (VRs.back hle h2 k2)
 | _,_,_,.yield l L hb,h=>by
  cases h with
  | yield _ L' h' =>
   have e:=(hle l L hb).symm.trans h';cases e
   exact .yield l L hb
 | _,_,_,.nilFunc,h=>by cases h;exact .nilFunc
 | _,_,_,.nilIface,h=>by cases h;exact .nilIface
 | _,_,_,.agg c c' hc,h=>by
  cases h with
  | agg _ c2 k=>exact .agg c c2 (VRs.back hle hc k)
 | _,_,_,.tuple c c' hc,h=>by
  cases h with
  | tuple _ c2 k=>exact .tuple c c2 (VRs.back hle hc k)
theorem VRs.back {f g:Emb} (hle:f.le g):∀ {v y v':List Value},VRs f v y→VRs g v v'→VRs f v v'
 | _,_,_,.nil,h=>by cases h;exact .nil
 | _,_,_,.cons v y r s hv hr,h=>by
  cases h with
  | cons _ v' _ r' k kr=>exact .cons v v' r r' (VR.back hle hv k) (VRs.back hle hr kr)
end
section
variable {P:Program}
theorem EsR.back {f g:Emb} (hle:f.le g) {e:List (Value×Value×Nat)} {e1:List MapEntry} (h:EsR f e e1):∀ {e2:List MapEntry},EsR g e e2→EsR f e e2:=by
 induction h with
 | nil=>intro e2 k;cases k;exact .nil
 | cons h hr ih =>
  intro e2 k;cases k with
  | cons k kr=>exact .cons ⟨h.1.back hle k.1,h.2.1.back hle k.2.1,k.2.2⟩ (ih kr)
theorem TR.back {f g:Emb} (hle:f.le g) {sz:Nat} {t:Tr Value} {t1 t2:Array Value} (h:TR f sz t t1) (k:TR g sz t t2):TR f sz t t2:=by
 refine ⟨k.1,fun i v hv=>?_⟩;obtain ⟨u,-,p⟩:=h.2 i v hv;obtain ⟨u',q1,q2⟩:=k.2 i v hv;exact ⟨u',q1,p.back hle q2⟩
theorem ObjR.back {f g:Emb} (hle:f.le g) {L:Loc} {w w':World} {o:jV} (h1:ObjR f L w o) (h2:ObjR g L w' o):ObjR f L w' o:=by
 cases o with
 | cells c e slk ro =>
  obtain ⟨cc,fr,a1,a2,a3,a4,a5,a6⟩:=h1;obtain ⟨cc',fr',b1,b2,b3,b4,b5,b6⟩:=h2;refine ⟨cc',fr',b1,b2,fun i v hi=>?_,b4,b5,b6⟩;obtain ⟨u,p1,p2⟩:=a3 i v hi;obtain ⟨u',q1,q2⟩:=b3 i v hi;exact ⟨u',q1,p2.back hle q2⟩
 | loop st pend sz t ps asg bo =>
  obtain ⟨fn,tm,D,a1,a2⟩:=h1;obtain ⟨fn',tm',D',b1,b2⟩:=h2;exact ⟨fn',tm',D',b1,a2.back hle b2⟩
 | map es c =>
  obtain ⟨es1,a1,a2⟩:=h1;obtain ⟨es2,b1,b2⟩:=h2;exact ⟨es2,b1,a2.back hle b2⟩
 | dead=>trivial
def AH.lo0 (h:AH):AH:={ tr:=h.tr,next:=h.next,low:=0 }
theorem CallOk.keep [Glob] {callf:FuncId→List Value→AH→Option (Value×AH)} (hC:CallOk P callf) {f:FuncId} {args:List Value} {h h':AH} {v:Value} (hc:callf f args h=some (v,h')) (hx:∀ b,b<h.next→h'.get b=h.get b)
 (hv:∀ e v',VR e v v'→∀ e2,VR e2 v v'):∀ B e w args',Rel B e h w→VRs e args args' →
 ∃ e' v' w',Rel B e' h.lo0 w'∧Turn e h w e' h.lo0 w'∧VR e' v v' ∧
  ((
   callFunc f args'.toArray).run P w = .ok (.value v') w' ∨
   ((callFunc f args'.toArray).run P w = .ok (.enter f args'.toArray) w∧∀ c cs,Steps P (lone (Frame.enter P f args'.toArray .normal) (c :: cs) w) (lone (c.finish v') cs w'))):=by
 intro B e w args' r ha;obtain ⟨e1,v1,w1,r1,u1,k1,s1⟩:=hC _ _ _ _ _ hc B e w args' r ha;have hg:∀ b,h.lo0.get b=h.get b:=fun b=>rfl;refine ⟨e,v1,w1,?_,?_,hv _ _ k1 _,s1⟩
 ·refine ⟨r.dom,r.wf,fun b L q=>zE4 (r.rng b L q) u1.size,fun b L o q1 q2=>?_,r.inj,r.own,zD0 r.base u1.size,r1.keep,r.glob⟩;exact (r.obj b L o q1 q2).back u1.le (r1.obj b L o (u1.le b L q1) ((hx b (r.dom b L q1)).trans q2))
 ·exact ⟨e.le_refl,zA3 _,zB0 _,fun _ _ q _=>q,fun b L q n=>(by rw [n] at q;cases q),u1.size,fun k hk q=>u1.keep k hk fun b L p1 p2=>absurd (q b L p1 p2) (zB7 _),fun _ _ _=>rfl,u1.os,u1.tape,u1.output⟩
end
end Go.Proofs.Xx
namespace Go.Proofs.Xx
open Go Go.RowKit
def Xa [Flag]:Extern:=X4 (Jb Xd 235) 243
theorem xW [Flag]:XE Tryz.prog Xa:=kY (yf qgo)
class KX (X:Extern):Prop where
 no:∀ f args h,f≠8→Xa f args h=none→X f args h=none
instance kxA:KX Xa:=⟨fun f args h _ q=>by
 exact q⟩
def zy (v:Value) (p:Prop):Prop:=(v = .bool true∧p)∨(v = .bool false∧¬ p)
def QO (x:UInt8):Prop:=97≤x.toNat∧x.toNat≤122
def jC (s:List UInt8):Prop:=1≤s.length∧s.length≤12∧∀ i,i<s.length→QO (s.getD i default)
def WE (s:List UInt8):Prop:=s=[]∨jC s
theorem JO:(default:UInt8)=0:=rfl
theorem Zf {p:Nat→Prop} {i:Nat} (h:∀ j,j<i→p j) (hi:p i):∀ j,j<i+1→p j:=fun j hj=>by
 rcases zA7 j i with q|q
 ·exact h j q
 ·obtain rfl:j=i:=by omega
  exact hi
variable {Xh:Extern} [KX Xh]
def QB (a b:Int):Int:=if 1≤a∧a≤24∧b=0 then a else 0
def Zh (a b:Int):Int:=if 1≤a∧a≤11∧0≤b∧b≤2 then 2*a+b else 0
def Zc (a b:Int):Int:=if 1≤a∧a≤8∧1≤b∧b≤8 then a+2*b else 0
def Q3 (a b:Int):Int:=if 1≤a∧a≤24∧0≤b∧b≤a then a else 0
theorem yt {h:AH} (a b:Int):Fn Tryz.prog Xh 267 [.int .i64 a,.int .i64 b] h (fun v h'=>v = .int .i64 (QB a b)∧h'=h):=by
 refine qM (by first|rfl|exact KX.no _ _ _ (by decide) rfl) Tryz.func267 rfl rfl ?_;all_goals (repeat' (first|refine qg ?_|refine qi rfl ?_|refine qj ?_|refine qA ?_|refine qp ?_|refine qP ?_|refine qQ ?_|(refine qc 0 ?_;refine mv ?_;refine qf ?_)|(refine qc 1 ?_;refine mv ?_;(first|refine cT ?_|refine cF ?_|(refine cS ?_ ?_<;>intro hc))<;>(refine mv ?_;(first|refine off ?_|refine mv ?_);(first|refine off ?_|(first|refine cT ?_|refine cF ?_|(refine cS ?_ ?_<;>intro hc)))<;>(refine vl ?_;refine mv ?_;(first|refine off ?_|refine mv ?_);(first|refine off ?_|(first|refine cT ?_|refine cF ?_|(refine cS ?_ ?_<;>intro hc)))<;>(refine vl ?_;refine qf ?_))))|(refine qc 2 ?_;refine mv ?_;refine qf ?_)|(refine qc 3 ?_;refine mv ?_;refine mv ?_;refine qf ?_)))
 all_goals (refine qw ⟨_,rfl,?_⟩)
 all_goals (refine ⟨?_,rfl⟩;unfold QB;first|(rw [if_pos (by omega)];rfl)|(rw [if_neg (by omega)];rfl))
theorem wK {h:AH} (a b:Int):Fn Tryz.prog Xh 272 [.int .i64 a,.int .i64 b] h (fun v h'=>v = .int .i64 (Zh a b)∧h'=h):=by
 refine qM (by first|rfl|exact KX.no _ _ _ (by decide) rfl) Tryz.func272 rfl rfl ?_;all_goals (repeat' (first|refine qg ?_|refine qi rfl ?_|refine qj ?_|refine qA ?_|refine qp ?_|refine qP ?_|refine qQ ?_|(refine qc 0 ?_;refine mv ?_;refine qf ?_)|(refine qc 1 ?_;refine mv ?_;(first|refine cT ?_|refine cF ?_|(refine cS ?_ ?_<;>intro hc))<;>(refine mv ?_;(first|refine off ?_|refine mv ?_);(first|refine off ?_|(first|refine cT ?_|refine cF ?_|(refine cS ?_ ?_<;>intro hc)))<;>(refine vl ?_;refine mv ?_;(first|refine off ?_|refine mv ?_);(first|refine off ?_|(first|refine cT ?_|refine cF ?_|(refine cS ?_ ?_<;>intro hc)))<;>(refine vl ?_;refine mv ?_;(first|refine off ?_|refine mv ?_);(first|refine off ?_|(first|refine cT ?_|refine cF ?_|(refine cS ?_ ?_<;>intro hc)))<;>(refine vl ?_;refine qf ?_)))))|(refine qc 2 ?_;refine mv ?_;refine qf ?_)|(refine qc 3 ?_;refine mv ?_;(first|refine ml ?_|refine vl ?_);refine mv ?_;(first|refine ad ?_|refine vl ?_);refine mv ?_;refine qf ?_)))
 all_goals (refine qw ⟨_,rfl,?_⟩)
 all_goals (refine ⟨?_,rfl⟩;unfold Zh;first|(rw [if_pos (by omega)];rfl)|(rw [if_neg (by omega)];rfl))
theorem wu {h:AH} (a b:Int):Fn Tryz.prog Xh 277 [.int .i64 a,.int .i64 b] h (fun v h'=>v = .int .i64 (Zc a b)∧h'=h):=by
 refine qM (by first|rfl|exact KX.no _ _ _ (by decide) rfl) Tryz.func277 rfl rfl ?_;all_goals (repeat' (first|refine qg ?_|refine qi rfl ?_|refine qj ?_|refine qA ?_|refine qp ?_|refine qP ?_|refine qQ ?_|(refine qc 0 ?_;refine mv ?_;refine qf ?_)|(refine qc 1 ?_;refine mv ?_;(first|refine cT ?_|refine cF ?_|(refine cS ?_ ?_<;>intro hc))<;>(refine mv ?_;(first|refine off ?_|refine mv ?_);(first|refine off ?_|(first|refine cT ?_|refine cF ?_|(refine cS ?_ ?_<;>intro hc)))<;>(refine vl ?_;refine mv ?_;(first|refine off ?_|refine mv ?_);(first|refine off ?_|(first|refine cT ?_|refine cF ?_|(refine cS ?_ ?_<;>intro hc)))<;>(refine vl ?_;refine mv ?_;(first|refine off ?_|refine mv ?_);(first|refine off ?_|(first|refine cT ?_|refine cF ?_|(refine cS ?_ ?_<;>intro hc)))<;>(refine vl ?_;refine qf ?_)))))|(refine qc 2 ?_;refine mv ?_;refine qf ?_)|(refine qc 3 ?_;refine mv ?_;refine mv ?_;(first|refine ml ?_|refine vl ?_);(first|refine ad ?_|refine vl ?_);refine mv ?_;refine qf ?_)))
 all_goals (refine qw ⟨_,rfl,?_⟩)
 all_goals (refine ⟨?_,rfl⟩;unfold Zc;first|(rw [if_pos (by omega)];rfl)|(rw [if_neg (by omega)];rfl))
theorem Kt {h:AH} (a b:Int):Fn Tryz.prog Xh 282 [.int .i64 a,.int .i64 b] h (fun v h'=>v = .int .i64 (Q3 a b)∧h'=h):=by
 refine qM (by first|rfl|exact KX.no _ _ _ (by decide) rfl) Tryz.func282 rfl rfl ?_;all_goals (repeat' (first|refine qg ?_|refine qi rfl ?_|refine qj ?_|refine qA ?_|refine qp ?_|refine qP ?_|refine qQ ?_|(refine qc 0 ?_;refine mv ?_;refine qf ?_)|(refine qc 1 ?_;refine mv ?_;(first|refine cT ?_|refine cF ?_|(refine cS ?_ ?_<;>intro hc))<;>(refine mv ?_;(first|refine off ?_|refine mv ?_);(first|refine off ?_|(first|refine cT ?_|refine cF ?_|(refine cS ?_ ?_<;>intro hc)))<;>(refine vl ?_;refine mv ?_;(first|refine off ?_|refine mv ?_);(first|refine off ?_|(first|refine cT ?_|refine cF ?_|(refine cS ?_ ?_<;>intro hc)))<;>(refine vl ?_;refine mv ?_;(first|refine off ?_|refine mv ?_);(first|refine off ?_|refine mv ?_);(first|refine off ?_|(first|refine cT ?_|refine cF ?_|(refine cS ?_ ?_<;>intro hc)))<;>(refine vl ?_;refine qf ?_)))))|(refine qc 2 ?_;refine mv ?_;refine qf ?_)|(refine qc 3 ?_;refine mv ?_;refine mv ?_;refine qf ?_)))
 all_goals (refine qw ⟨_,rfl,?_⟩)
 all_goals (refine ⟨?_,rfl⟩;unfold Q3;first|(rw [if_pos (by omega)];rfl)|(rw [if_neg (by omega)];rfl))
def qez (a b x y:Int):Prop:=y - x=1∨y - x=a - 1
def qeA (a b x y:Int):Prop:=a % 2=0∧y - x=a / 2
def qfU (a b x y:Int):Prop :=
 if b=2∧y=2*a+1 then x=0∨x=y - 1
 else if 0<b∧(x=a∨y=a) then y - x=1
 else y - x=1∧(y<a∨x≥a+min b 1)
def qfV (a b x y:Int):Prop:=if b=2∧y=2*a+1 then x=a else x<a∧x+y=a+min b 1+a - 1
def qfA (a b x y:Int):Prop:=y - x=1
def qfB (a b x y:Int):Prop:=x<b∧x+y=a+2*b - 1
def rowB (a b x y:Int):Prop:=y - x=1∧(b=0∨y % b≠0)
def Bds (a b x y:Int):Prop:=0≤a∧a≤100∧0≤b∧b≤100∧0≤x∧x≤1000∧0≤y∧y≤1000
variable {Xh:Extern} [KX Xh]
structure Tab where
 name:List UInt8
 shape:Int
 A:Int
 B:Int
 os:SlV
 opn:List Int
 X:Int
 Y:Int
abbrev Tab.ov (t:Tab):Value:=t.os.val
instance:Inhabited Tab:=⟨⟨[],0,0,0,⟨none,0,0⟩,[],0,0⟩⟩
def eT (t:Tab):List Value:=[str t.name,.int .u8 t.shape,.int .i64 t.A,.int .i64 t.B,t.ov,.int .i64 t.X,.int .i64 t.Y]
abbrev X9 (t:Tab):Value:=.agg (eT t).toArray
def JB (n:Nat):Value:=.func (.func n) #[] #[]
def qeu:List UInt8:=[114,111,117,110,100]
def qft:List UInt8:=[108,111,110,103]
def qfs:List UInt8:=[104,111,114,115,101,115,104,111,101]
def wRow:List UInt8:=[114,111,119]
def lay1:List Value:=[str qeu,JB 267,JB 268,JB 269,JB 270,JB 271]
def lay2:List Value:=[str qft,JB 272,JB 273,JB 274,JB 275,JB 276]
def lay3:List Value:=[str qfs,JB 277,JB 278,JB 279,JB 280,JB 281]
def lay4:List Value:=[str wRow,JB 282,JB 283,JB 284,JB 285,JB 286]
def lay0:List Value:=[str [],.nilFunc,.nilFunc,.nilFunc,.nilFunc,.nilFunc]
def qeq (s:Int) (v:Value):Prop :=
 (v = .tuple #[.agg lay1.toArray,.bool true]∧s=1)∨(v = .tuple #[.agg lay2.toArray,.bool true]∧s=2)∨(v = .tuple #[.agg lay3.toArray,.bool true]∧s=3) ∨
 (v = .tuple #[.agg lay4.toArray,.bool true]∧s=4)∨(v = .tuple #[.agg lay0.toArray,.bool false]∧¬ (1≤s∧s≤4))
theorem KI {h0:AH} (w:WfH h0) (s:Int):Fn Tryz.prog Xh 241 [.int .u8 s] h0 (fun v h'=>qeq s v∧Hs h0 h' []):=by
 have S:=Hs.start w;refine qM (by first|exact KX.no _ _ _ (by decide) rfl) Tryz.func241 rfl rfl ?_;all_goals (repeat' (first|refine qg ?_|refine qi rfl ?_|refine qj ?_|refine qp ?_|(refine qc 0 ?_;(refine al S ?_;clear S;intro b h S);refine mv ?_;refine qf ?_)|(refine qc 1 ?_;refine mv ?_;refine qf ?_)|(refine qc 2 ?_;(first|(refine cS ?_ ?_<;>intro hc))<;>(refine mv ?_;refine qf ?_))|(refine qc 3 ?_;refine vl ?_;(first|(refine sB S rfl rfl ?_;clear S;intro h S));refine mv ?_;refine qf ?_)|(refine qc 4 ?_;(first|(refine cS ?_ ?_<;>intro hc))<;>(refine mv ?_;refine qf ?_))|(refine qc 5 ?_;refine vl ?_;(first|(refine sB S rfl rfl ?_;clear S;intro h S));refine mv ?_;refine qf ?_)|(refine qc 6 ?_;(first|(refine cS ?_ ?_<;>intro hc))<;>(refine mv ?_;refine qf ?_))|(refine qc 7 ?_;refine vl ?_;(first|(refine sB S rfl rfl ?_;clear S;intro h S));refine mv ?_;refine qf ?_)|(refine qc 8 ?_;(first|(refine cS ?_ ?_<;>intro hc))<;>(refine mv ?_;refine qf ?_))|(refine qc 9 ?_;refine vl ?_;(first|(refine sB S rfl rfl ?_;clear S;intro h S));refine mv ?_;refine qf ?_)|(refine qc 10 ?_;refine vl ?_;(first|(refine sB S rfl rfl ?_;clear S;intro h S));refine mv ?_;refine qf ?_)))
 all_goals (refine qw ⟨_,zk S rfl (by first|exact .here) (by exact rfl) (by exact rfl),?_⟩)
 all_goals (refine ⟨?_,S.drop⟩;unfold qeq)
 ·exact .inl ⟨rfl,by omega⟩
 ·exact .inr (.inl ⟨rfl,by omega⟩)
 ·exact .inr (.inr (.inl ⟨rfl,by omega⟩))
 ·exact .inr (.inr (.inr (.inl ⟨rfl,by omega⟩)))
 ·exact .inr (.inr (.inr (.inr ⟨rfl,by omega⟩)))
def jA (s a b:Int):Int:=if s=1 then QB a b else if s=2 then Zh a b else if s=3 then Zc a b else if s=4 then Q3 a b else 0
def zn (t:Tab):Int:=jA t.shape t.A t.B
theorem Yf {h0:AH} (w:WfH h0) (t:Tab):Fn Tryz.prog Xh 192 [X9 t] h0 (fun v h'=>v = .int .i64 (zn t)∧Hs h0 h' []):=by
 have S:=Hs.start w;refine qM (by first|exact KX.no _ _ _ (by decide) rfl) Tryz.func192 rfl rfl ?_;all_goals (repeat' (first|refine qg ?_|(refine qc 0 ?_;(refine bx S ?_;clear S;intro b h S);refine mv ?_;refine qf ?_)|(refine qc 1 ?_;refine vl ?_;refine lB S rfl rfl ?_)))
 (refine qx rfl rfl rfl rfl rfl ((KI S.wf _).mono ?_);rintro _ h ⟨⟨rfl,hs⟩|⟨rfl,hs⟩|⟨rfl,hs⟩|⟨rfl,hs⟩|⟨rfl,hs⟩,x⟩)<;>(have S:=S.join0 x;refine mv ?_;refine vl ?_;refine vl ?_;(refine al S ?_;clear S;intro b h S);(first|(refine sB S rfl rfl ?_;clear S;intro h S));refine mv ?_;refine qf ?_)
 all_goals (repeat' (first|refine qg ?_|refine qi rfl ?_|refine qj ?_|(refine qc 2 ?_;refine mv ?_;refine vl ?_;refine qf ?_)|(refine qc 3 ?_;refine mv ?_;refine qf ?_)|(refine qc 4 ?_;refine vl ?_;refine lB S rfl rfl ?_;refine vl ?_;refine lB S rfl rfl ?_;refine vl ?_;refine lB S rfl rfl ?_)))
 ·(refine QM rfl rfl rfl rfl ((yt _ _).mono ?_);rintro _ _ ⟨rfl,rfl⟩)<;>(refine mv ?_;refine qf ?_)
  all_goals (repeat' (fail))
  refine qw ⟨_,rfl,?_⟩;exact ⟨by simp [zL,zn,jA,hs],S.drop⟩
 ·(refine QM rfl rfl rfl rfl ((wK _ _).mono ?_);rintro _ _ ⟨rfl,rfl⟩)<;>(refine mv ?_;refine qf ?_)
  all_goals (repeat' (fail))
  refine qw ⟨_,rfl,?_⟩;exact ⟨by simp [zL,zn,jA,hs],S.drop⟩
 ·(refine QM rfl rfl rfl rfl ((wu _ _).mono ?_);rintro _ _ ⟨rfl,rfl⟩)<;>(refine mv ?_;refine qf ?_)
  all_goals (repeat' (fail))
  refine qw ⟨_,rfl,?_⟩;exact ⟨by simp [zL,zn,jA,hs],S.drop⟩
 ·(refine QM rfl rfl rfl rfl ((Kt _ _).mono ?_);rintro _ _ ⟨rfl,rfl⟩)<;>(refine mv ?_;refine qf ?_)
  all_goals (repeat' (fail))
  refine qw ⟨_,rfl,?_⟩;exact ⟨by simp [zL,zn,jA,hs],S.drop⟩
 ·refine qw ⟨_,rfl,?_⟩;refine ⟨?_,S.drop⟩;simp only [zL,zn,jA];rw [if_neg (by omega),if_neg (by omega),if_neg (by omega),if_neg (by omega)]
def qdZ (t:Tab) (x y:Int):Prop:=x≠y∧((t.shape=1∧qez t.A t.B (min x y) (max x y))∨(t.shape=2∧qfU t.A t.B (min x y) (max x y))∨(t.shape=3∧qfA t.A t.B (min x y) (max x y))∨(t.shape=4∧rowB t.A t.B (min x y) (max x y)))
def qd2 (t:Tab) (x y:Int):Prop:=x≠y∧((t.shape=1∧qeA t.A t.B (min x y) (max x y))∨(t.shape=2∧qfV t.A t.B (min x y) (max x y))∨(t.shape=3∧qfB t.A t.B (min x y) (max x y)))
def qg6 (t:Tab) (x y:Int):Prop:=qdZ t x y∨qd2 t x y
def qht (t:Tab):Prop:=1≤t.shape∧t.shape≤4∧0≤t.A∧t.A≤100∧0≤t.B∧t.B≤100
theorem Qo (t:Tab):0≤zn t∧zn t≤24:=by
 unfold zn jA QB Zh Zc Q3;repeat' split
 all_goals omega
variable {Xh:Extern} [KX Xh]
theorem qcp {h0:AH} (w:WfH h0) (s:List UInt8) (hs:s.length≤9223372036854775807):Fn Tryz.prog Xh 253 [str s] h0 (fun v h'=>zy v (jC s)∧Hs h0 h' []):=by
 have S:=Hs.start w;refine qM (by first|rfl|exact KX.no _ _ _ (by decide) rfl) Tryz.func253 rfl rfl ?_;all_goals (repeat' (first|refine qg ?_|refine qi rfl ?_|refine qj ?_|refine qA ?_|refine qp ?_|refine qP ?_|refine qQ ?_|(refine qc 0 ?_;refine mv ?_;refine qf ?_)|(refine qc 1 ?_;refine mv ?_;refine qf ?_)))
 refine qL (σ:=Nat) (fun i h'=>Hs h0 h' []∧i≤s.length∧∀ j,j<i→QO (s.getD j default)) (fun i=>s.length - i) (fun i=>[(0,str s),(3,.int .i64 i)]) 0 qy ?_ ?_
 ·exact ⟨S,zB0 _,fun j hj=>absurd hj (zB7 _)⟩
 clear S;rintro i h ⟨S,h1,h2⟩;all_goals (repeat' (first|refine qg ?_|refine qi rfl ?_|refine qj ?_|refine qA ?_|refine qp ?_|refine qP ?_|refine qQ ?_|(refine qc 2 ?_;refine mv ?_;refine mv ?_;refine tl ?_;(first|refine cT ?_|refine cF ?_|(refine cS ?_ ?_<;>intro hc))<;>(refine qf ?_))|(refine qc 3 ?_;refine mv ?_;(first|refine ad ?_|refine vl ?_);refine mv ?_;refine qf ?_)|(refine qc 4 ?_;refine mv ?_;refine mv ?_;(first|refine ti ?_|refine vl ?_);(first|refine cT ?_|refine cF ?_|(refine cS ?_ ?_<;>intro hc))<;>(refine mv ?_;(first|refine off ?_|refine mv ?_);(first|refine off ?_|refine mv ?_);(first|refine off ?_|(first|refine ti ?_|refine vl ?_));(first|refine off ?_|(first|refine cT ?_|refine cF ?_|(refine cS ?_ ?_<;>intro hc)))<;>(refine vl ?_;refine qf ?_)))|(refine qc 5 ?_;refine mv ?_;refine qf ?_)|(refine qc 6 ?_;refine mv ?_;refine tl ?_;(first|refine cT ?_|refine cF ?_|(refine cS ?_ ?_<;>intro hc))<;>(refine mv ?_;(first|refine off ?_|refine mv ?_);(first|refine off ?_|refine tl ?_);(first|refine off ?_|(first|refine cT ?_|refine cF ?_|(refine cS ?_ ?_<;>intro hc)))<;>(refine vl ?_;refine mv ?_;refine qf ?_)))))
 all_goals (try simp only [zA0] at *)
 ·refine qw ⟨_,rfl,?_⟩;exact ⟨.inr ⟨rfl,fun q=>by have:=q.2.2 i (by omega);unfold QO at this;simp only [show (default:UInt8)=0 from rfl] at this;omega⟩,S.drop⟩
 ·refine qw ⟨_,rfl,?_⟩;exact ⟨.inr ⟨rfl,fun q=>by have:=q.2.2 i (by omega);unfold QO at this;simp only [show (default:UInt8)=0 from rfl] at this;omega⟩,S.drop⟩
 ·refine ⟨i+1,?_,?_,qy⟩
  ·show s.length - (i+1)<s.length - i;omega
  ·refine ⟨S,by omega,fun j hj=>?_⟩;rcases zA7 j i with q|q
   ·exact h2 j q
   ·have e:j=i:=by omega
    subst e;unfold QO;simp only [show (default:UInt8)=0 from rfl];omega
 all_goals (refine qw ⟨_,rfl,?_⟩)
 all_goals refine ⟨?_,S.drop⟩
 ·exact .inl ⟨rfl,by omega,by omega,fun j hj=>h2 j (by omega)⟩
 ·exact .inr ⟨rfl,fun q=>by have:=q.2.1;omega⟩
 ·exact .inr ⟨rfl,fun q=>by have:=q.1;omega⟩
variable {Xh:Extern} [KX Xh]
def Gy (n:Int) (l:List Int):Prop:=∀ i,i<l.length→(0≤l.getD i default∧l.getD i default<n)∧(0<i→l.getD (i - 1) default<l.getD i default)
def qbe (t:Tab):Prop:=0≤t.X∧t.X≤1000∧0≤t.Y∧t.Y≤1000
open Classical in
noncomputable def chk (t:Tab):Int:=if ¬ jC t.name then 4 else if zn t=0 then 10 else if ¬ Gy (zn t) t.opn then 11 else if ¬ qbe t then 2 else 0
abbrev TabR (h:AH) (t:Tab):Prop:=zo h t.ov 1 eI t.opn∧t.name.length≤9223372036854775807∧t.opn.length≤9223372036854775807
abbrev qgt (h:AH) (t:Tab):Prop:=zo h t.ov 1 eI t.opn∧t.name.length≤9223372036854775807∧t.opn.length≤9223372036854775807
theorem TabR.toL {h:AH} {t:Tab} (r:TabR h t):qgt h t:=⟨r.1,zD0 r.2.1 (by decide),zD0 r.2.2 (by decide)⟩
theorem qa9 {h0:AH} (w:WfH h0) (t:Tab) (r:qgt h0 t):Fn Tryz.prog Xh 200 [X9 t] h0 (fun v h'=>v = .int .i64 (chk t)∧Hs h0 h' []):=by
 have S:=Hs.start w;obtain ⟨hr,hnm,hol⟩:=r;refine qM (by first|exact KX.no _ _ _ (by decide) rfl) Tryz.func200 rfl rfl ?_;all_goals (repeat' (first|refine qg ?_|(refine qc 0 ?_;(refine bx S ?_;clear S;intro b h S);refine mv ?_;refine qf ?_)|(refine qc 1 ?_;refine lB S rfl rfl ?_)))
 (refine qx rfl rfl rfl rfl rfl ((Yf S.wf t).mono ?_);rintro _ h ⟨rfl,x⟩)<;>(replace S:=S.join0 x;clear x;refine mv ?_;refine qf ?_)
 all_goals (repeat' (first|refine qg ?_|refine qp ?_|(refine qc 2 ?_;refine mv ?_;refine qf ?_)|(refine qc 3 ?_;refine vl ?_;refine lB S rfl rfl ?_)))
 (refine qx rfl rfl rfl rfl rfl ((qcp S.wf t.name hnm).mono ?_);rintro _ h ⟨⟨rfl,hq⟩|⟨rfl,hq⟩,x⟩)<;>(replace S:=S.join0 x;clear x;refine vl ?_;refine mv ?_;refine qf ?_)
 all_goals (repeat' (first|refine qg ?_|refine qi rfl ?_|refine qj ?_|refine qp ?_|(refine qc 4 ?_;refine mv ?_;refine qf ?_)|(refine qc 5 ?_;refine mv ?_;(first|(refine cS ?_ ?_<;>intro hc))<;>(refine mv ?_;refine qf ?_))|(refine qc 6 ?_;refine mv ?_;refine qf ?_)|(refine qc 7 ?_;refine vl ?_;refine lB S rfl rfl ?_;refine jZ S ?_;refine mv ?_;refine qf ?_)))
 ·refine qw ⟨_,rfl,?_⟩;exact ⟨by unfold chk;rw [if_neg (by simpa using hq),if_pos hc];rfl,S.drop⟩
 ·refine qL (σ:=Nat×Int) (fun (i,la) h'=>Hs h0 h' [.blk b (X9 t).cells.toList 84]∧i≤t.opn.length∧(∀ j,j<i→(0≤t.opn.getD j default∧t.opn.getD j default<zn t)∧(0<j→t.opn.getD (j - 1) default<t.opn.getD j default))∧(la=if i=0 then -1 else t.opn.getD (i - 1) default)) (fun (i,la)=>t.opn.length - i) (fun (i,la)=>[(1,.pointer (some ⟨b,0,none⟩)),(3,.int .i64 (zn t)),(4,.int .i64 la),(18,t.ov),(19,.int .i64 t.opn.length),(20,.int .i64 i)]) (0,-1) qy ?_ ?_
  ·exact ⟨S,zB0 _,fun j hj=>absurd hj (zB7 _),rfl⟩
  clear S;rintro ⟨i,la⟩ h ⟨S,h1,h2,h3⟩;all_goals (repeat' (first|refine qg ?_|refine qi rfl ?_|refine qj ?_|refine qA ?_|refine qp ?_|(refine qc 8 ?_;(first|(refine cS ?_ ?_<;>intro hc))<;>(refine qf ?_))|(refine qc 9 ?_;refine QE S ?_;refine Qk S ?_;refine mv ?_;refine qf ?_)|(refine qc 10 ?_;refine mv ?_;refine mv ?_;(first|(refine cS ?_ ?_<;>intro hc))<;>(refine mv ?_;(first|refine off ?_|refine mv ?_);(first|refine off ?_|refine mv ?_);(first|refine off ?_|(first|(refine cS ?_ ?_<;>intro hc)))<;>(refine vl ?_;refine qf ?_)))|(refine qc 11 ?_;refine mv ?_;refine qf ?_)|(refine qc 12 ?_;refine mv ?_;refine mv ?_;refine qf ?_)|(refine qc 13 ?_;refine ad ?_;refine mv ?_;refine qf ?_)|(refine qc 14 ?_;refine vl ?_;refine lB S rfl rfl ?_;(first|(refine cS ?_ ?_<;>intro hc))<;>(refine mv ?_;(first|refine off ?_|(refine vl ?_));(first|refine off ?_|(refine lB S rfl rfl ?_));(first|refine off ?_|(first|(refine cS ?_ ?_<;>intro hc)))<;>(refine vl ?_;refine mv ?_;(first|refine off ?_|(refine vl ?_));(first|refine off ?_|(refine lB S rfl rfl ?_));(first|refine off ?_|(first|(refine cS ?_ ?_<;>intro hc)))<;>(refine vl ?_;refine mv ?_;(first|refine off ?_|(refine vl ?_));(first|refine off ?_|(refine lB S rfl rfl ?_));(first|refine off ?_|(first|(refine cS ?_ ?_<;>intro hc)))<;>(refine vl ?_;refine qf ?_)))))|(refine qc 15 ?_;refine mv ?_;refine qf ?_)|(refine qc 16 ?_;refine mv ?_;refine qf ?_)))
  all_goals (try simp only [zA0] at *)
  ·refine qw ⟨_,rfl,?_⟩;refine ⟨?_,S.drop⟩;have:¬ Gy (zn t) t.opn:=fun q=>by
    have q1:=q i (by omega);split at h3<;>rename_i hi
    ·subst hi;omega
    ·have:=q1.2 (by omega);omega
   unfold chk;rw [if_neg (by simpa using hq),if_neg (by assumption),if_pos this];rfl
  ·refine qw ⟨_,rfl,?_⟩;refine ⟨?_,S.drop⟩;have:¬ Gy (zn t) t.opn:=fun q=>by have q1:=q i (by omega);omega
   unfold chk;rw [if_neg (by simpa using hq),if_neg (by assumption),if_pos this];rfl
  ·refine ⟨(i+1,t.opn.getD i default),?_,?_,qy⟩
   ·show t.opn.length - (i+1)<t.opn.length - i;omega
   ·refine ⟨S,by omega,fun j hj=>?_,by simp⟩;rcases zA7 j i with q|q
    ·exact h2 j q
    ·have e:j=i:=by omega
     subst e;split at h3<;>rename_i hi
     ·exact ⟨by omega,fun q=>by omega⟩
     ·have:=(h2 (j - 1) (by omega)).1;exact ⟨by omega,fun q=>by omega⟩
  all_goals
   have hok:Gy (zn t) t.opn:=fun j hj=>h2 j (by omega);refine qw ⟨_,rfl,?_⟩;refine ⟨?_,S.drop⟩;unfold chk;rw [if_neg (by simpa using hq),if_neg (by assumption),if_neg (by simpa using hok)];first
    | (rw [if_pos (by unfold qbe;omega)];rfl)
    | (rw [if_neg (by unfold qbe;omega)];rfl)
 ·refine qw ⟨_,rfl,?_⟩;exact ⟨by unfold chk;rw [if_pos (by simpa using hq)];rfl,S.drop⟩
theorem qaW {h0:AH} (w:WfH h0) (t:Tab) (r:TabR h0 t):Fn Tryz.prog Xh 200 [X9 t] h0 (fun v h'=>v = .int .i64 (chk t)∧Hs h0 h' []):=qa9 w t (TabR.toL r)
variable {Xh:Extern} [KX Xh]
def qap (v:Value) (p:Nat→Prop) (n:Nat):Prop:=(∃ i:Nat,i<n∧v = .int .i64 i∧p i∧∀ j,j<i→¬ p j)∨(v = .int .i64 (-1)∧∀ j,j<n→¬ p j)
theorem VK {h0:AH} (w:WfH h0) (v:Value) (l:List Tab) (g:Nat) (cap:List Value) (p:Nat→Prop) (hr:zo h0 v 7 eT l) (hl:l.length≤1000)
 (hf:∀ i h,i<l.length→Hs h0 h []→Fn Tryz.prog Xh g (X9 (l.getD i default) :: cap) h (fun v h'=>zy v (p i)∧Hs h h' [])) :
 Fn Tryz.prog Xh 180 [v,.func (.func g) #[] cap.toArray] h0 (fun r h'=>qap r p l.length∧Hs h0 h' []):=by
 have S:=Hs.start w;refine qM (by first|rfl|exact KX.no _ _ _ (by decide) rfl) Tryz.func180 rfl rfl ?_;all_goals (repeat' (first|refine qg ?_|refine qi rfl ?_|refine qj ?_|refine qA ?_|refine qp ?_|refine qP ?_|refine qQ ?_|(refine qc 0 ?_;refine mv ?_;refine qf ?_)|(refine qc 1 ?_;refine mv ?_;(first|refine jZ S ?_|refine yc S rfl rfl ?_);refine mv ?_;refine qf ?_)))
 refine qL (σ:=Nat) (fun i h'=>Hs h0 h' []∧i≤l.length∧∀ j,j<i→¬ p j) (fun i=>l.length - i) (fun i=>[(0,v),(1,.func (.func g) #[] cap.toArray),(7,.int .i64 l.length),(8,.int .i64 i)]) 0 qy ?_ ?_
 ·exact ⟨S,zB0 _,fun j hj=>absurd hj (zB7 _)⟩
 clear S;rintro i h ⟨S,h1,h2⟩;all_goals (repeat' (first|refine qg ?_|refine qi rfl ?_|refine qj ?_|refine qA ?_|refine qp ?_|refine qP ?_|refine qQ ?_|(refine qc 2 ?_;(first|refine cT ?_|refine cF ?_|(refine cS ?_ ?_<;>intro hc))<;>(refine qf ?_))|(refine qc 3 ?_;refine mv ?_;refine mv ?_;refine qf ?_)|(refine qc 4 ?_;(iterate 3 refine mv ?_);(first|refine QE S ?_|refine jI S rfl rfl ?_);(first|refine lB S rfl rfl ?_|refine jT S rfl rfl ?_|refine Qk S ?_|refine lH S ?_))|(refine qc 7 ?_;refine mv ?_;refine qf ?_)))
 ·(refine QM rfl rfl rfl rfl ((hf i _ (by omega) S).mono ?_);rintro _ h ⟨⟨rfl,hq⟩|⟨rfl,hq⟩,x⟩)<;>(replace S:=S.join0 x;clear x;refine qf ?_)
  all_goals (repeat' (first|refine qg ?_|refine qi rfl ?_|refine qj ?_|refine qA ?_|refine qp ?_|refine qP ?_|refine qQ ?_|(refine qc 5 ?_;refine mv ?_;refine mv ?_;refine qf ?_)|(refine qc 6 ?_;(first|refine ad ?_|refine vl ?_);refine mv ?_;refine qf ?_)))
  ·refine qw ⟨_,rfl,?_⟩;exact ⟨.inl ⟨i,by omega,rfl,hq,h2⟩,S⟩
  ·refine ⟨i+1,?_,?_,qy⟩
   ·show l.length - (i+1)<l.length - i;omega
   ·refine ⟨S,by omega,fun j hj=>?_⟩;rcases zA7 j i with q|q
    ·exact h2 j q
    ·have e:j=i:=by omega
     subst e;exact hq
 ·refine qw ⟨_,rfl,?_⟩;exact ⟨.inr ⟨rfl,fun j hj=>h2 j (by omega)⟩,S⟩
theorem xH {h0:AH} (w:WfH h0) (v:Value) (l:List Tab) (g:Nat) (cap:List Value) (p:Nat→Prop) (hr:zo h0 v 7 eT l) (hl:l.length≤1000)
 (hf:∀ i h,i<l.length→Hs h0 h []→Fn Tryz.prog Xh g (X9 (l.getD i default) :: cap) h (fun v h'=>zy v (p i)∧Hs h h' [])) :
 Fn Tryz.prog Xh 214 [v,.func (.func g) #[] cap.toArray] h0 (fun r h'=>zy r (∃ i,i<l.length∧p i)∧Hs h0 h' []):=by
 have S:=Hs.start w;refine qM (by first|rfl|exact KX.no _ _ _ (by decide) rfl) Tryz.func214 rfl rfl ?_;all_goals (repeat' (first|refine qg ?_|refine qi rfl ?_|refine qj ?_|refine qA ?_|refine qp ?_|refine qP ?_|refine qQ ?_|(refine qc 0 ?_;refine mv ?_;refine qf ?_)|(refine qc 1 ?_;refine mv ?_;refine mv ?_)))
 (refine qx rfl rfl rfl rfl rfl ((VK S.wf v l g cap p hr hl hf).mono ?_);rintro _ h ⟨⟨i,hi,rfl,hq,hn⟩|⟨rfl,hn⟩,x⟩)<;>(replace S:=S.join0 x;clear x;(first|refine cT ?_|refine cF ?_|(refine cS ?_ ?_<;>intro hc))<;>(refine mv ?_;refine qf ?_))
 all_goals (repeat' (first|refine qg ?_|refine qi rfl ?_|refine qj ?_|refine qA ?_|refine qp ?_|refine qP ?_|refine qQ ?_))
 all_goals (try omega)
 all_goals (refine qw ⟨_,rfl,?_⟩)
 ·exact ⟨.inl ⟨rfl,i,hi,hq⟩,S⟩
 ·exact ⟨.inr ⟨rfl,fun ⟨j,hj,hp⟩=>hn j hj hp⟩,S⟩
variable {Xh:Extern} [KX Xh]
abbrev tb (l:List Tab) (i:Nat):Tab:=l.getD i default
def qcA (l:List Tab) (k:Nat):Prop:=∃ j,j<k∧(tb l j).name=(tb l k).name
def J7 (l:List Tab) (k:Nat):Prop:=chk (tb l k)=0∧¬ qcA l k
def ChkAll (l:List Tab) (i e:Int):Prop :=
 (16<l.length∧i=0∧e=7)∨(l.length≤16∧((∃ k:Nat,k<l.length∧i=k∧(∀ j,j<k→J7 l j)∧((chk (tb l k)≠0∧e=chk (tb l k))∨(chk (tb l k)=0∧qcA l k∧e=5)))∨((∀ j,j<l.length→J7 l j)∧i=0∧e=0)))
structure HallR (h:AH) (v:Value) (l:List Tab):Prop where
 rd:zo h v 7 eT l
 tab:∀ i,i<l.length→TabR h (tb l i)
 len:l.length≤1000
 cap:zV v
theorem TabR.ext {h h':AH} {t:Tab} (r:TabR h t) (w:WfH h) (x:Ext h h'):TabR h' t:=⟨r.1.ext w x,r.2⟩
theorem HallR.ext {h h':AH} {v:Value} {l:List Tab} (r:HallR h v l) (w:WfH h) (x:Ext h h'):HallR h' v l:=⟨r.rd.ext w x,fun i hi=>(r.tab i hi).ext w x,r.len,r.cap⟩
def ValidL (l:List Tab):Prop:=l.length≤16∧∀ j,j<l.length→J7 l j
theorem ChkAll.valid {l:List Tab} {i e:Int} (a:ChkAll l i e):e=0↔ValidL l:=by
 rcases a with ⟨h1,h2,h3⟩|⟨h1,⟨k,hk,h2,h3,⟨h4,h5⟩|⟨h4,h5,h6⟩⟩|⟨h2,h3,h4⟩⟩
 ·exact ⟨fun q=>by omega,fun q=>by have:=q.1;omega⟩
 ·exact ⟨fun q=>absurd (h5 ▸ q) h4,fun q=>absurd (q.2 k hk).1 h4⟩
 ·exact ⟨fun q=>by omega,fun q=>absurd h5 (q.2 k hk).2⟩
 ·exact ⟨fun _=>⟨h1,h2⟩,fun _=>h4⟩
theorem ChkAll.uniq {l:List Tab} {i e i' e':Int} (a:ChkAll l i e) (b:ChkAll l i' e'):i=i'∧e=e':=by
 have key:∀ {k k':Nat},(∀ j,j<k→J7 l j)→¬ J7 l k'→k≤k':=fun g n=>Nat.le_of_not_lt fun q=>n (g _ q);have bad:∀ {k:Nat} {e:Int},((chk (tb l k)≠0∧e=chk (tb l k))∨(chk (tb l k)=0∧qcA l k∧e=5))→¬ J7 l k:=fun q g=>q.elim (fun q=>q.1 g.1) (fun q=>g.2 q.2.1);rcases a with ⟨h1,h2,h3⟩|⟨h1,⟨k,hk,h2,h3,h4⟩|⟨h2,h3,h4⟩⟩<;>rcases b with ⟨g1,g2,g3⟩|⟨g1,⟨k',hk',g2,g3,g4⟩|⟨g2,g3,g4⟩⟩
 ·exact ⟨by omega,by omega⟩
 ·omega
 ·omega
 ·omega
 ·have e1:=key h3 (bad g4);have e2:=key g3 (bad h4);have:k=k':=by omega
  subst this;refine ⟨by omega,?_⟩;rcases h4 with ⟨h4,h5⟩|⟨h4,h5,h6⟩<;>rcases g4 with ⟨g4,g5⟩|⟨g4,g5,g6⟩
  ·omega
  ·exact absurd g4 h4
  ·exact absurd h4 g4
  ·omega
 ·exact absurd (g2 k hk) (bad h4)
 ·omega
 ·exact absurd (h2 k' hk') (bad g4)
 ·exact ⟨by omega,by omega⟩
def sumT (l:List Tab):Nat→Int
 | 0=>0
 | k+1=>sumT l k+zn (tb l k)
theorem Ko {h0:AH} (w:WfH h0) (t u:Tab) (b:Nat) (hb:h0.get b=some (.cells (eT u) 84 none false)):Fn Tryz.prog Xh 215 [X9 t,.pointer (some ⟨b,0,none⟩)] h0 (fun v h'=>zy v (t.name=u.name)∧Hs h0 h' []):=by
 have S:=Hs.start w;refine qM (by first|exact KX.no _ _ _ (by decide) rfl) Tryz.func215 rfl rfl ?_;all_goals (repeat' (first|refine qg ?_|(refine qc 0 ?_;(refine bx S ?_;clear S;intro b h S);refine mv ?_;refine qf ?_)|(refine qc 1 ?_;refine vl ?_;refine lB S rfl rfl ?_;refine vl ?_;refine lH S ?_;(refine tS ?_ ?_<;>intro hc)<;>(refine mv ?_;refine qf ?_))))
 all_goals (refine qw ⟨_,rfl,?_⟩)
 all_goals (refine ⟨?_,S.drop⟩;unfold zy)
 ·exact .inl ⟨rfl,hc⟩
 ·exact .inr ⟨rfl,hc⟩
theorem Xg {h0:AH} (w:WfH h0) (v:Value) (l:List Tab) (H:HallR h0 v l):Fn Tryz.prog Xh 152 [v] h0 (fun r h'=>∃ i e,r = .tuple #[.int .i64 i,.int .i64 e]∧ChkAll l i e∧Hs h0 h' []):=by
 have S:=Hs.start w;have hl:=H.len;have hr:=H.rd;refine qM (by first|exact KX.no _ _ _ (by decide) rfl) Tryz.func152 rfl rfl ?_;all_goals (repeat' (first|refine qg ?_|refine qi rfl ?_|refine qj ?_|refine qp ?_|(refine qc 0 ?_;refine mv ?_;refine mv ?_;refine qf ?_)|(refine qc 1 ?_;refine mv ?_;refine jZ S ?_;(first|(refine cS ?_ ?_<;>intro hc))<;>(refine qf ?_))|(refine qc 2 ?_;refine mv ?_;refine mv ?_;refine qf ?_)|(refine qc 3 ?_;refine mv ?_;refine jZ S ?_;refine mv ?_;refine qf ?_)))
 ·refine qw ⟨_,rfl,?_⟩;exact ⟨0,7,rfl,.inl ⟨by omega,rfl,rfl⟩,S⟩
 ·refine qL (σ:=Nat) (fun i h'=>Hs h0 h' []∧i≤l.length∧∀ j,j<i→J7 l j) (fun i=>l.length - i) (fun i=>[(0,v),(10,v),(11,.int .i64 l.length),(12,.int .i64 i)]) 0 qy ?_ ?_
  ·exact ⟨S,zB0 _,fun j hj=>absurd hj (zB7 _)⟩
  clear S;rintro i h ⟨S,h1,h2⟩;all_goals (repeat' (first|refine qg ?_|refine qi rfl ?_|refine qj ?_|refine qA ?_|refine qp ?_|(refine qc 4 ?_;(first|(refine cS ?_ ?_<;>intro hc))<;>(refine qf ?_))|(refine qc 5 ?_;refine mv ?_;refine QE S ?_;refine Qk S ?_;(refine al S ?_;clear S;intro b h S);refine mv ?_;(first|(refine sB S rfl rfl ?_;clear S;intro h S));refine qf ?_)|(refine qc 6 ?_;refine lB S rfl rfl ?_)|(refine qc 12 ?_;refine mv ?_;refine mv ?_;refine qf ?_)))
  ·(try simp only [zA0] at *)
   have hi:i<l.length:=by omega
   (refine qx rfl rfl rfl rfl rfl ((qaW S.wf (tb l i) ((H.tab i hi).ext w S.ext)).mono ?_);rintro _ h ⟨rfl,x⟩)<;>(replace S:=S.join0 x;clear x;refine mv ?_;refine qf ?_)
   all_goals (repeat' (first|refine qg ?_|refine qi rfl ?_|refine qj ?_|(refine qc 7 ?_;refine mv ?_;(first|(refine cS ?_ ?_<;>intro hc))<;>(refine qf ?_))|(refine qc 8 ?_;(iterate 4 refine mv ?_);refine qf ?_)|(refine qc 9 ?_;refine mv ?_;refine mv ?_)))
   ·refine qw ⟨_,rfl,?_⟩;exact ⟨i,_,rfl,.inr ⟨by omega,.inl ⟨i,hi,rfl,h2,.inl ⟨by simpa using hc,rfl⟩⟩⟩,S.drop⟩
   ·refine su 0 i (hr.ext w S.ext) H.cap ?_;intro vs hrs hcs;(refine vl ?_);have gb:=S.gB (b:=b);have hlen:((l.drop 0).take (i - 0)).length=i:=by simp;omega
    have hget:∀ k,k<i→((l.drop 0).take (i - 0)).getD k default=tb l k:=fun k hk=>by
     unfold tb;simp only [List.drop_zero,Nat.sub_zero,zA2,zC7,if_pos hk]
    have hf:∀ k h',k<((l.drop 0).take (i - 0)).length→Hs h h' []→Fn Tryz.prog Xh 215 (X9 (((l.drop 0).take (i - 0)).getD k default) :: [.pointer (some ⟨b,0,none⟩)]) h' (fun v h''=>zy v ((tb l k).name=(tb l i).name)∧Hs h' h'' []):=fun k h' hk x=>by
     rw [hget k (by omega)];exact Ko x.wf (tb l k) (tb l i) b (x.ext.get S.wf gb)
    (refine qx rfl rfl rfl rfl rfl ((xH S.wf vs _ 215 [.pointer (some ⟨b,0,none⟩)] (fun k=>(tb l k).name=(tb l i).name) hrs (by omega) hf).mono ?_);rintro _ h ⟨⟨rfl,hq⟩|⟨rfl,hq⟩,x⟩)<;>(replace S:=S.join0 x;clear x;refine qf ?_)
    all_goals (repeat' (first|refine qg ?_|refine qi rfl ?_|refine qj ?_|(refine qc 10 ?_;(iterate 3 refine mv ?_);refine qf ?_)|(refine qc 11 ?_;refine ad ?_;refine mv ?_;refine qf ?_)))
    ·refine qw ⟨_,rfl,?_⟩;obtain ⟨j,hj,hq⟩:=hq;exact ⟨i,5,rfl,.inr ⟨by omega,.inl ⟨i,hi,rfl,h2,.inr ⟨by simpa using hc,⟨j,by omega,hq⟩,rfl⟩⟩⟩,S.drop⟩
    ·refine ⟨i+1,?_,?_,qy⟩
     ·show l.length - (i+1)<l.length - i;omega
     ·refine ⟨S.drop,by omega,fun j hj=>?_⟩;rcases zA7 j i with q|q
      ·exact h2 j q
      ·obtain rfl:j=i:=by omega
       exact ⟨by simpa using hc,fun ⟨k,hk,he⟩=>hq ⟨k,by omega,he⟩⟩
  ·refine qw ⟨_,rfl,?_⟩;exact ⟨0,0,rfl,.inr ⟨by omega,.inr ⟨fun j hj=>h2 j (by omega),rfl,rfl⟩⟩,S⟩
theorem X5 {h0:AH} (w:WfH h0) (v:Value) (l:List Tab) (H:HallR h0 v l):Fn Tryz.prog Xh 182 [v] h0 (fun r h'=>zy r (ValidL l)∧Hs h0 h' []):=by
 have S:=Hs.start w;refine qM (by first|exact KX.no _ _ _ (by decide) rfl) Tryz.func182 rfl rfl ?_;all_goals (repeat' (first|refine qg ?_|(refine qc 0 ?_;refine mv ?_;refine qf ?_)|(refine qc 1 ?_;refine mv ?_)))
 (refine qx rfl rfl rfl rfl rfl ((Xg S.wf v l H).mono ?_);rintro _ h ⟨i,e,rfl,hk,x⟩)<;>(replace S:=S.join0 x;clear x;refine mv ?_;refine vl ?_;refine vl ?_;refine mv ?_;refine mv ?_;refine qf ?_)
 all_goals (repeat' (first|refine qg ?_|(refine qc 2 ?_;refine mv ?_;(first|(refine cS ?_ ?_<;>intro hc))<;>(refine mv ?_;refine qf ?_))))
 all_goals (refine qw ⟨_,rfl,?_⟩)
 ·exact ⟨.inl ⟨rfl,hk.valid.1 hc⟩,S⟩
 ·exact ⟨.inr ⟨rfl,fun q=>hc (hk.valid.2 q)⟩,S⟩
variable {Xh:Extern} [KX Xh]
theorem jg (l:List Tab):∀ n,0≤sumT l n∧sumT l n≤24*n
 | 0=>by simp [sumT]
 | n+1=>by
  have:=jg l n;have:=Qo (tb l n);simp only [sumT];omega
open Classical in
noncomputable def qgC (t:Tab):Int:=if chk t=0 then zn t else 0
open Classical in
noncomputable def XQ (l:List Tab) (t:Int):Int:=if 0≤t∧t<l.length∧ValidL l then sumT l t.toNat else 0
theorem qcy {h0:AH} (w:WfH h0) (v:Value) (l:List Tab) (H:HallR h0 v l) (t:Int):Fn Tryz.prog Xh 140 [v,.int .i64 t] h0 (fun r h'=>r = .int .i64 (XQ l t)∧Hs h0 h' []):=by
 have S:=Hs.start w;have hl:=H.len;have hr:=H.rd;by_cases ht0:t<0
 ·refine qM (by first|exact KX.no _ _ _ (by decide) rfl) Tryz.func140 rfl rfl ?_;all_goals (repeat' (first|refine qg ?_|refine qi rfl ?_|(refine qc 0 ?_;refine mv ?_;refine qf ?_)|(refine qc 1 ?_;refine mv ?_;(refine cT ?_)<;>(refine mv ?_;refine off ?_;refine off ?_;refine off ?_;(refine off ?_)<;>(refine vl ?_;refine mv ?_;refine off ?_;(first|(refine off ?_;refine off ?_;refine vl ?_;refine qf ?_)))))|(refine qc 2 ?_;refine mv ?_;refine qf ?_)))
  all_goals (try omega)
  refine qw ⟨_,rfl,?_⟩;exact ⟨by unfold XQ;rw [if_neg (by omega)];rfl,S⟩
 obtain ⟨n,rfl⟩:=zH4 (show 0≤t by omega);refine qM (by first|exact KX.no _ _ _ (by decide) rfl) Tryz.func140 rfl rfl ?_;all_goals (repeat' (first|refine qg ?_|refine qi rfl ?_|(refine qc 0 ?_;refine mv ?_;refine qf ?_)|(refine qc 1 ?_;refine mv ?_;(refine cF ?_)<;>((iterate 3 refine mv ?_);(first|(refine jZ S ?_));(first|(first|(refine cS ?_ ?_<;>intro hc)))<;>(refine vl ?_;refine mv ?_;(first|refine off ?_|refine mv ?_);(first|(refine off ?_;refine off ?_;refine vl ?_;refine qf ?_)|skip))))|(refine qc 2 ?_;refine mv ?_;refine qf ?_)))
 all_goals (try omega)
 ·refine qw ⟨_,rfl,?_⟩;exact ⟨by unfold XQ;rw [if_neg (by omega)];rfl,S⟩
 ·(refine qx rfl rfl rfl rfl rfl ((X5 S.wf v l H).mono ?_);rintro _ h ⟨⟨rfl,hq⟩|⟨rfl,hq⟩,x⟩)<;>(replace S:=S.join0 x;clear x;refine vl ?_;refine vl ?_;refine qf ?_)
  all_goals (repeat' (first|refine qg ?_|refine qi rfl ?_|refine qj ?_|(refine qc 2 ?_;refine mv ?_;refine qf ?_)|(refine qc 3 ?_;refine mv ?_;refine qf ?_)|(refine qc 4 ?_;refine mv ?_;refine mv ?_)))
  ·refine su 0 n (hr.ext w S.ext) H.cap ?_;intro vs hrs hcs;have T:=S;have w1:=S.wf;replace S:=Hs.start w1;have hlen:((l.drop 0).take (n - 0)).length=n:=by simp;omega
   have hget:∀ k,k<n→((l.drop 0).take (n - 0)).getD k default=tb l k:=fun k hk=>by
    unfold tb;simp only [List.drop_zero,Nat.sub_zero,zA2,zC7,if_pos hk]
   generalize ((l.drop 0).take (n - 0))=ls at hrs hlen hget
   (refine jZ S ?_);refine mv ?_;refine qf ?_;all_goals (repeat' (refine qp ?_))
   refine qL (σ:=Nat) (fun i h'=>Hs h h' []∧i≤n) (fun i=>n - i) (fun i=>[(5,.int .i64 (sumT l i)),(23,vs),(24,.int .i64 n),(25,.int .i64 i)]) 0 qy ?_ ?_
   ·exact ⟨S,zB0 _⟩
   clear S;rintro i h2 ⟨S,h1⟩;all_goals (repeat' (first|refine qg ?_|refine qi rfl ?_|refine qj ?_|refine qA ?_|refine qp ?_|(refine qc 5 ?_;(first|(refine cS ?_ ?_<;>intro hc))<;>(refine qf ?_))|(refine qc 6 ?_;refine QE S ?_;refine Qk S ?_;(refine al S ?_;clear S;intro b h S);(first|(refine sB S rfl rfl ?_;clear S;intro h S));refine qf ?_)|(refine qc 7 ?_;refine mv ?_;refine lB S rfl rfl ?_)|(refine qc 9 ?_;refine mv ?_;refine mv ?_;refine qf ?_)))
   ·(try simp only [zA0] at *)
    have hi:i<n:=by omega
    have b1:=jg l i;have b2:=Qo (ls.getD i default);(refine qx rfl rfl rfl rfl rfl ((Yf S.wf (ls.getD i default)).mono ?_);rintro _ h ⟨rfl,x⟩)<;>(replace S:=S.join0 x;clear x;refine ad ?_;refine mv ?_;refine qf ?_)
    rw [hget i hi];all_goals (repeat' (first|(refine qc 8 ?_;refine ad ?_;refine mv ?_;refine qf ?_)))
    refine ⟨i+1,?_,?_,qy⟩
    ·show n - (i+1)<n - i;omega
    ·exact ⟨S.drop,by omega⟩
   ·refine qw ⟨_,rfl,?_⟩;have:i=n:=by omega
    subst this;exact ⟨by unfold XQ;rw [if_pos ⟨by omega,by omega,hq⟩,zA0];rfl,T.join0 S⟩
  ·refine qw ⟨_,rfl,?_⟩;exact ⟨by unfold XQ;rw [if_neg (fun q=>hq q.2.2)];rfl,S⟩
theorem KJ {h0:AH} (w:WfH h0) (v:Value) (l:List Tab) (H:HallR h0 v l):Fn Tryz.prog Xh 217 [v] h0 (fun r h'=>r = .int .i64 (if l.length=0 then 0 else zn (tb l (l.length - 1)))∧Hs h0 h' []):=by
 have S:=Hs.start w;have hl:=H.len;have hr:=H.rd;refine qM (by first|exact KX.no _ _ _ (by decide) rfl) Tryz.func217 rfl rfl ?_;all_goals (repeat' (first|refine qg ?_|refine qi rfl ?_|refine qj ?_|(refine qc 0 ?_;refine mv ?_;refine qf ?_)|(refine qc 1 ?_;refine mv ?_;refine jZ S ?_;(first|(refine cS ?_ ?_<;>intro hc))<;>(refine qf ?_))|(refine qc 2 ?_;refine mv ?_;refine qf ?_)|(refine qc 3 ?_;refine mv ?_;refine mv ?_;refine jZ S ?_;refine sb ?_;refine QE S ?_;refine Qk S ?_)))
 ·refine qw ⟨_,rfl,?_⟩;exact ⟨by rw [if_pos (by omega)];rfl,S⟩
 ·(refine qx rfl rfl rfl rfl rfl ((Yf S.wf _).mono ?_);rintro _ h ⟨rfl,x⟩)<;>(replace S:=S.join0 x;clear x;refine mv ?_;refine qf ?_)
  all_goals (repeat' (fail))
  refine qw ⟨_,rfl,?_⟩;exact ⟨by rw [if_neg (by omega),show l.length - 1=((l.length:Int) - 1).toNat by omega];rfl,S⟩
open Classical in
noncomputable def Xe (l:List Tab):Int:=if ValidL l then sumT l l.length else 0
theorem xG {h0:AH} (w:WfH h0) (v:Value) (l:List Tab) (H:HallR h0 v l):Fn Tryz.prog Xh 154 [v] h0 (fun r h'=>r = .int .i64 (Xe l)∧Hs h0 h' []):=by
 have S:=Hs.start w;have hl:=H.len;have hr:=H.rd;refine qM (by first|exact KX.no _ _ _ (by decide) rfl) Tryz.func154 rfl rfl ?_;all_goals (repeat' (first|refine qg ?_|(refine qc 0 ?_;refine mv ?_;refine qf ?_)|(refine qc 1 ?_;refine mv ?_)))
 (refine qx rfl rfl rfl rfl rfl ((X5 S.wf v l H).mono ?_);rintro _ h ⟨⟨rfl,hq⟩|⟨rfl,hq⟩,x⟩)<;>(replace S:=S.join0 x;clear x;refine vl ?_;refine qf ?_)
 all_goals (repeat' (first|refine qg ?_|refine qi rfl ?_|refine qj ?_|(refine qc 2 ?_;refine mv ?_;refine qf ?_)|(refine qc 3 ?_;refine mv ?_;refine mv ?_;refine jZ S ?_;refine sb ?_)))
 ·have hs:XQ l ((l.length:Int) - 1)+(if l.length=0 then 0 else zn (tb l (l.length - 1)))=sumT l l.length:=by
   unfold XQ;cases hk:l.length with
   | zero=>rw [if_neg (by omega)];simp [sumT]
   | succ k=>rw [if_pos ⟨by omega,by omega,hq⟩,if_neg (by omega),show ((k+1:Nat):Int) - 1=(k:Int) by omega,zA0,Nat.add_sub_cancel];rfl
  have b1:=jg l l.length;(refine qx rfl rfl rfl rfl rfl ((qcy S.wf v l (H.ext w S.ext) _).mono ?_);rintro _ h ⟨rfl,x⟩)<;>(replace S:=S.join0 x;clear x;refine mv ?_)
  (refine qx rfl rfl rfl rfl rfl ((KJ S.wf v l (H.ext w S.ext)).mono ?_);rintro _ h ⟨rfl,x⟩)<;>(replace S:=S.join0 x;clear x;refine ad ?_;refine mv ?_;refine qf ?_)
  all_goals (repeat' (fail))
  refine qw ⟨_,rfl,?_⟩;exact ⟨by unfold Xe;rw [if_pos hq,← hs];rfl,S⟩
 ·refine qw ⟨_,rfl,?_⟩;exact ⟨by unfold Xe;rw [if_neg hq];rfl,S⟩
theorem KZ {h0:AH} (w:WfH h0) (t:Tab) (nm:List UInt8) (b:Nat) (hb:h0.get b=some (.cells [str nm] 9 none false)):Fn Tryz.prog Xh 181 [X9 t,.pointer (some ⟨b,0,none⟩)] h0 (fun v h'=>zy v (t.name=nm)∧Hs h0 h' []):=by
 have S:=Hs.start w;refine qM (by first|exact KX.no _ _ _ (by decide) rfl) Tryz.func181 rfl rfl ?_;all_goals (repeat' (first|refine qg ?_|(refine qc 0 ?_;(refine bx S ?_;clear S;intro b h S);refine mv ?_;refine qf ?_)|(refine qc 1 ?_;refine vl ?_;refine lB S rfl rfl ?_;refine lH S ?_;(refine tS ?_ ?_<;>intro hc)<;>(refine mv ?_;refine qf ?_))))
 all_goals (refine qw ⟨_,rfl,?_⟩)
 all_goals (refine ⟨?_,S.drop⟩;unfold zy)
 ·exact .inl ⟨rfl,hc⟩
 ·exact .inr ⟨rfl,hc⟩
def qfn (l:List Tab) (nm:List UInt8) (v:Value):Prop :=
 (∃ k:Nat,v = .tuple #[.int .i64 k,.bool true]∧ValidL l∧k<l.length∧(tb l k).name=nm∧∀ j,j<k→¬ (tb l j).name=nm) ∨
 (v = .tuple #[.int .i64 0,.bool false]∧(¬ ValidL l∨∀ j,j<l.length→¬ (tb l j).name=nm))
theorem KR {h0:AH} (w:WfH h0) (v:Value) (l:List Tab) (H:HallR h0 v l) (nm:List UInt8):Fn Tryz.prog Xh 123 [v,str nm] h0 (fun r h'=>qfn l nm r∧Hs h0 h' []):=by
 have S:=Hs.start w;have hl:=H.len;have hr:=H.rd;refine qM (by first|exact KX.no _ _ _ (by decide) rfl) Tryz.func123 rfl rfl ?_;all_goals (repeat' (first|refine qg ?_|(refine qc 0 ?_;(refine bx S ?_;clear S;intro b h S);refine mv ?_;refine mv ?_;refine qf ?_)|(refine qc 1 ?_;refine mv ?_;refine vl ?_)))
 have gb:=S.gB (b:=b);have hf:∀ i h',i<l.length→Hs h h' []→Fn Tryz.prog Xh 181 (X9 (l.getD i default) :: [.pointer (some ⟨b,0,none⟩)]) h' (fun v h''=>zy v ((tb l i).name=nm)∧Hs h' h'' []):=fun i h' hi x=>KZ x.wf (tb l i) nm b (x.ext.get S.wf gb);(refine qx rfl rfl rfl rfl rfl ((VK S.wf v l 181 [.pointer (some ⟨b,0,none⟩)] (fun i=>(tb l i).name=nm) (hr.ext w S.ext) (by omega) hf).mono ?_);rintro _ h ⟨⟨k,hk,rfl,hq,hn⟩|⟨rfl,hn⟩,x⟩)<;>(replace S:=S.join0 x;clear x;refine mv ?_;refine qf ?_)
 all_goals (repeat' (first|refine qg ?_|refine qi rfl ?_|(refine qc 2 ?_;refine mv ?_;(first|refine cT ?_|refine cF ?_)<;>(refine mv ?_;(first|refine off ?_|refine mv ?_);(first|(refine off ?_;refine off ?_;refine vl ?_;refine qf ?_)|skip)))|(refine qc 3 ?_;refine mv ?_;refine mv ?_;refine qf ?_)))
 all_goals (try omega)
 ·(refine qx rfl rfl rfl rfl rfl ((X5 S.wf v l (H.ext w S.ext)).mono ?_);rintro _ h ⟨⟨rfl,hv⟩|⟨rfl,hv⟩,x⟩)<;>(replace S:=S.join0 x;clear x;refine vl ?_;refine vl ?_;refine qf ?_)
  all_goals (repeat' (first|refine qg ?_|refine qi rfl ?_|refine qj ?_|(refine qc 3 ?_;refine mv ?_;refine mv ?_;refine qf ?_)|(refine qc 4 ?_;(iterate 3 refine mv ?_);refine qf ?_)))
  all_goals (refine qw ⟨_,rfl,?_⟩)
  ·exact ⟨.inl ⟨k,rfl,hv,hk,hq,hn⟩,S.drop⟩
  ·exact ⟨.inr ⟨rfl,.inl hv⟩,S.drop⟩
 ·refine qw ⟨_,rfl,?_⟩;exact ⟨.inr ⟨rfl,.inr hn⟩,S.drop⟩
end Go.Proofs.Xx
namespace Go.Proofs.Xx
open Go Go.RowKit
def XZ (X:Extern):Extern:=fun g args h=>match Nat.beq g 192,args with
 | true,[.agg cs]=>match cs.toList with
  | [.string _,.int .u8 s,.int .i64 a,.int .i64 b,.slice p n c,.int .i64 x,.int .i64 y]=>some (.int .i64 (jA s a b),h.lo0)
  | _=>X g args h
 | _,_=>X g args h
theorem W9 (k:IntKind) (n:Int):∀ e v',VR e (.int k n) v'→∀ e2,VR e2 (.int k n) v':=fun e v' q e2=>by cases q;exact .int k n
theorem Vx {X:Extern} (hX:XE Tryz.prog X):XE Tryz.prog (XZ X):=by
 intro g args h u h1 hx B e w args' r hargs;unfold XZ at hx;split at hx
 ·rename_i cs hg
  have hg:=zA6 hg;subst hg;split at hx
  ·rename_i st s a b p n c x y hcs
   cases hx
   have ha:[Value.agg cs]=[X9 ⟨st.data.toList,s,a,b,⟨p,n,c⟩,[],x,y⟩]:=by
    unfold X9 eT;rw [← Array.toArray_toList (xs:=cs),hcs];rfl
   obtain ⟨n1,v1,h2,hc,rfl,x1⟩:=Yf (Xh:=Xa) r.wf ⟨st.data.toList,s,a,b,⟨p,n,c⟩,[],x,y⟩;rw [← ha] at hc;exact CallOk.keep (QR xW XO (Jo follows xW XO n1)) hc (fun b hb=>x1.ext.old b hb) (W9 _ _) B e w args' r hargs
  ·exact hX _ _ _ _ _ hx B e w args' r hargs
 ·exact hX _ _ _ _ _ hx B e w args' r hargs
def int64? : Value→Option Int
 | .int .i64 n=>some n
 | _=>none
def ints? : List Value→Option (List Int)
 | []=>some []
 | v :: r=>match int64? v,ints? r with
  | some n,some l=>some (n :: l)
  | _,_=>none
theorem ints?_eq:∀ {l:List Value} {m:List Int},ints? l=some m→l=m.flatMap eI∧m.length=l.length
 | [],m,h=>by cases h;exact ⟨rfl,rfl⟩
 | v :: r,m,h=>by
  unfold ints? at h;split at h
  ·rename_i n l h1 h2
   cases h
   obtain ⟨e1,e2⟩:=ints?_eq h2;unfold int64? at h1;split at h1
   ·cases h1
    exact ⟨by rw [zG2,← e1];rfl,by simp [e2]⟩
   ·cases h1
  ·cases h
def pW (h:AH):Option Addr→Nat→Nat→Option (List Int)
 | none,0,0=>some []
 | some ⟨b,o,none⟩,n,_=>match h.get b with
  | some (.cells cs _ _ _)=>match qX cs o n with
   | some l=>ints? l
   | none=>none
  | _=>none
 | _,_,_=>none
theorem qaF {h:AH} {p:Option Addr} {n c:Nat} {l:List Int} (q:pW h p n c=some l):zo h (.slice p n c) 1 eI l:=by
 unfold pW at q;split at q
 ·cases q;exact .inl ⟨rfl,rfl,rfl⟩
 ·split at q
  ·rename_i cs e s r hg
   split at q
   ·rename_i l2 ht
    obtain ⟨e1,e2⟩:=ints?_eq q;have hl:l2.length=n:=Je ht;refine .inr ⟨_,_,_,cs,e,s,r,by rw [e2,hl],hg,?_⟩;rw [e2,hl,Nat.mul_one,← e1];exact ht
   ·cases q
  ·cases q
 ·cases q
def WQ (h:AH):Nat→List Value→Option (List Tab)
 | 0,[]=>some []
 | k+1,.string st :: .int .u8 s :: .int .i64 a :: .int .i64 b :: .slice p n c :: .int .i64 x :: .int .i64 y :: r=>match pW h p n c,WQ h k r with
  | some o,some l=>some (⟨st.data.toList,s,a,b,⟨p,n,c⟩,o,x,y⟩ :: l)
  | _,_=>none
 | _,_=>none
theorem yU {h:AH}:∀ {k:Nat} {cs:List Value} {l:List Tab},WQ h k cs=some l→cs=l.flatMap eT∧l.length=k∧∀ t∈l,zo h t.ov 1 eI t.opn
 | 0,cs,l,q=>by
  unfold WQ at q;split at q
  ·cases q;exact ⟨rfl,rfl,fun t ht=>by cases ht⟩
  ·rename_i h0;cases h0
  ·cases q
 | k+1,cs,l,q=>by
  unfold WQ at q;split at q
  ·rename_i h0;cases h0
  ·rename_i k' st s a b p n c x y r h0
   cases h0
   split at q
   ·rename_i o l2 h1 h2
    cases q
    obtain ⟨e1,e2,e3⟩:=yU h2;refine ⟨by rw [zG2,← e1];rfl,by simp [e2],fun t ht=>?_⟩;rcases zE8.1 ht with rfl|ht
    ·exact qaF h1
    ·exact e3 t ht
   ·cases q
  ·cases q
def qbR (h:AH):Value→Option (List Tab)
 | .slice (some ⟨b,o,none⟩) n _=>match h.get b with
  | some (.cells cs _ _ _)=>match qX cs o (n*7) with
   | some l=>WQ h n l
   | none=>none
  | _=>none
 | _=>none
theorem qbQ {h:AH} {v:Value} {l:List Tab} (q:qbR h v=some l):zo h v 7 eT l∧∀ t∈l,zo h t.ov 1 eI t.opn:=by
 unfold qbR at q;split at q
 ·split at q
  ·rename_i cs e s r hg
   split at q
   ·rename_i l2 ht
    obtain ⟨e1,e2,e3⟩:=yU q;refine ⟨.inr ⟨_,_,_,cs,e,s,r,by rw [e2],hg,?_⟩,e3⟩;rw [e2,← e1];exact ht
   ·cases q
  ·cases q
 ·cases q
def okO (n:Int):Int→List Int→Bool
 | _,[]=>true
 | lo,x :: r=>decide (lo<x) && (decide (x<n) && okO n x r)
theorem qb5 {n:Int}:∀ {l:List Int} {lo:Int},okO n lo l=true→∀ i,i<l.length→lo<l.getD i default∧l.getD i default<n∧(0<i→l.getD (i - 1) default<l.getD i default)
 | [],lo,h,i,hi=>absurd hi (zB7 _)
 | x :: r,lo,h,i,hi=>by
  unfold okO at h;simp only [zA8,decide_eq_true_eq] at h;obtain ⟨h1,h2,h3⟩:=h;have ih:=qb5 h3;cases i with
  | zero=>exact ⟨h1,h2,fun q=>absurd q (Nat.lt_irrefl _)⟩
  | succ i =>
   obtain ⟨q1,q2,q3⟩:=ih i (by simpa using hi);refine ⟨Int.lt_trans h1 q1,q2,fun _=>?_⟩;cases i with
   | zero=>exact q1
   | succ i=>exact q3 (Nat.succ_pos _)
def okT (t:Tab):Bool:=(decide (1≤t.name.length) && (decide (t.name.length≤12) && t.name.all fun x=>decide (97≤x.toNat) && decide (x.toNat≤122))) && (!decide (zn t=0) && (okO (zn t) (-1) t.opn && (decide (0≤t.X) && (decide (t.X≤1000) && (decide (0≤t.Y) && (decide (t.Y≤1000) && decide (t.opn.length≤1000)))))))
theorem Pg {t:Tab} (h:okT t=true):chk t=0∧t.name.length≤1000∧t.opn.length≤1000:=by
 unfold okT at h;simp only [zA8,decide_eq_true_eq,zG3,decide_eq_false_iff_not,zC8] at h;obtain ⟨⟨h1,h2,h3⟩,h4,h5,h6,h7,h8,h9,h10⟩:=h;refine ⟨?_,by omega,h10⟩;have hn:jC t.name:=⟨h1,h2,fun i hi=>h3 _ (by rw [zA2,zA4 hi];exact List.getElem_mem hi)⟩
 have ho:Gy (zn t) t.opn:=fun i hi=>by
  obtain ⟨q1,q2,q3⟩:=qb5 h5 i hi;exact ⟨⟨by omega,q2⟩,q3⟩
 unfold chk;rw [if_neg (fun q=>q hn),if_neg h4,if_neg (fun q=>q ho),if_neg (fun q=>q ⟨h6,h7,h8,h9⟩)]
def okN:List Tab→Bool
 | []=>true
 | t :: r=>(r.all fun u=>!decide (t.name=u.name)) && okN r
theorem qb6:∀ {l:List Tab},okN l=true→∀ i j,i<j→j<l.length→(tb l i).name≠(tb l j).name
 | [],h,i,j,_,hj=>absurd hj (zB7 _)
 | t :: r,h,i,j,hij,hj=>by
  unfold okN at h;simp only [zA8,zC8,zG3,decide_eq_false_iff_not] at h;cases j with
  | zero=>exact absurd hij (zB7 _)
  | succ j =>
   cases i with
   | zero =>
    have hj':j<r.length:=by simpa using hj
    refine h.1 (tb r j) ?_;unfold tb;rw [zA2,zA4 hj'];exact List.getElem_mem hj'
   | succ i=>exact qb6 h.2 i j (by omega) (by simpa using hj)
def qgW:Value→Bool
 | .slice _ n c=>Nat.ble n c
 | _=>true
def okH (v:Value) (l:List Tab):Bool:=Nat.ble l.length 16 && (l.all okT && (okN l && qgW v))
def X3 (X:Extern):Extern:=fun g args h=>match Nat.beq g 152,args with
 | true,[v]=>match qbR h v with
  | some l=>match okH v l with
   | true=>some (.tuple #[.int .i64 0,.int .i64 0],h.lo0)
   | false=>X g args h
  | none=>X g args h
 | _,_=>X g args h
theorem Vy {X:Extern} (hX:XE Tryz.prog X):XE Tryz.prog (X3 X):=by
 intro g args h u h1 hx B e w args' r hargs;unfold X3 at hx;split at hx
 ·rename_i v hg
  have hg:=zA6 hg;subst hg;split at hx
  ·rename_i l hl
   split at hx
   ·rename_i hk
    cases hx
    obtain ⟨r1,r2⟩:=qbQ hl;unfold okH at hk;simp only [zA8,zC8] at hk;obtain ⟨k1,k2,k3,k4⟩:=hk;have k1:=zB6 k1;have mem:∀ i,i<l.length→tb l i∈l:=fun i hi=>by unfold tb;rw [zA2,zA4 hi];exact List.getElem_mem hi
    have hc:zV v:=by
     cases v<;>first|exact zB6 k4|trivial
    have H:HallR h v l:=⟨r1,fun i hi=>⟨r2 _ (mem i hi),zD0 (Pg (k2 _ (mem i hi))).2.1 (by decide),zD0 (Pg (k2 _ (mem i hi))).2.2 (by decide)⟩,by omega,hc⟩
    have hv:∀ j,j<l.length→J7 l j:=fun j hj=>⟨(Pg (k2 _ (mem j hj))).1,fun ⟨i,hi,he⟩=>qb6 k3 i j hi hj he⟩
    obtain ⟨n1,v1,h2,hc1,⟨i,e1,rfl,hk,x1⟩⟩:=Xg (Xh:=Xa) r.wf v l H;obtain ⟨rfl,rfl⟩:=hk.uniq (i':=0) (e':=0) (.inr ⟨k1,.inr ⟨hv,rfl,rfl⟩⟩);refine CallOk.keep (QR xW XO (Jo follows xW XO n1)) hc1 (fun b hb=>x1.ext.old b hb) (fun e v' q e2=>?_) B e w args' r hargs;cases q with
    | tuple _ c' q =>
     refine .tuple [.int .i64 0,.int .i64 0] c' ?_;cases q with
     | cons _ _ _ _ q1 q2 =>
      cases q2 with
      | cons _ _ _ _ q3 q4 =>
       cases q4
       exact .cons _ _ _ _ (W9 _ _ _ _ q1 _) (.cons _ _ _ _ (W9 _ _ _ _ q3 _) .nil)
   ·exact hX _ _ _ _ _ hx B e w args' r hargs
  ·exact hX _ _ _ _ _ hx B e w args' r hargs
 ·exact hX _ _ _ _ _ hx B e w args' r hargs
end Go.Proofs.Xx
namespace Go.Proofs.Xx
open Go Go.RowKit
theorem qbb:(match jW Tryz.prog (XZ (X3 Xa)) (exec Tryz.prog (XZ (X3 Xa)) 3000) 8 [] ⟨.e,0,0⟩ with|some (.bool true,_)=>true | _=>false)=true:=by decide +kernel
def Xh:Extern:=ZM Xa 8 true
theorem qgn:XE Tryz.prog Xh:=by
 have h:=qbb;split at h
 ·rename_i h' hc
  exact vJ xW (QR (Vx (Vy xW)) XO (Jo follows (Vx (Vy xW)) XO 3000)) hc
 ·cases h
instance kxH:KX Xh:=⟨fun f args h q r=>by
 unfold Xh ZM;split
 ·rename_i hg
  exact absurd (zA6 hg) q
 ·exact r⟩
variable [Flag]
theorem Vj {h0:AH} (w:WfH h0):Fn Tryz.prog Xh 8 [] h0 (fun v h'=>v = .bool true∧Hs h0 h' []):=Zn rfl ⟨rfl,Hs.start w⟩
theorem wF {h:AH} (s:List UInt8):Fn Tryz.prog Xh 316 [str s] h (fun v h'=>zy v (jC s)∧h'=h):=by
 refine qM (by first|rfl|exact KX.no _ _ _ (by decide) rfl) Tryz.func316 rfl rfl ?_;all_goals (repeat' (first|refine qg ?_|refine qi rfl ?_|refine qj ?_|refine qA ?_|refine qp ?_|refine qP ?_|refine qQ ?_|(refine qc 0 ?_;refine mv ?_;refine qf ?_)|(refine qc 1 ?_;refine mv ?_;refine tl ?_;(first|refine cT ?_|refine cF ?_|(refine cS ?_ ?_<;>intro hc))<;>(refine mv ?_;(first|refine off ?_|refine mv ?_);(first|refine off ?_|refine tl ?_);(first|refine off ?_|(first|refine cT ?_|refine cF ?_|(refine cS ?_ ?_<;>intro hc)))<;>(refine vl ?_;refine qf ?_)))|(refine qc 2 ?_;refine mv ?_;refine qf ?_)))
 ·refine qw ⟨_,rfl,?_⟩;exact ⟨.inr ⟨rfl,fun q=>by have:=q.1;omega⟩,rfl⟩
 ·refine qw ⟨_,rfl,?_⟩;exact ⟨.inr ⟨rfl,fun q=>by have:=q.2.1;omega⟩,rfl⟩
 all_goals (repeat' (first|refine qg ?_|refine qi rfl ?_|refine qj ?_|refine qA ?_|refine qp ?_|refine qP ?_|refine qQ ?_|(refine qc 3 ?_;refine mv ?_;refine tl ?_;refine mv ?_;refine qf ?_)))
 refine qL (σ:=Nat) (fun i h'=>h'=h∧i≤s.length∧∀ j,j<i→QO (s.getD j default)) (fun i=>s.length - i) (fun i=>[(0,str s),(13,.int .i64 s.length),(14,.int .i64 i)]) 0 qy ?_ ?_
 ·exact ⟨rfl,zB0 _,fun j hj=>absurd hj (zB7 _)⟩
 rintro i h ⟨rfl,h1,h2⟩;all_goals (repeat' (first|refine qg ?_|refine qi rfl ?_|refine qj ?_|refine qA ?_|refine qp ?_|refine qP ?_|refine qQ ?_|(refine qc 4 ?_;(first|refine cT ?_|refine cF ?_|(refine cS ?_ ?_<;>intro hc))<;>(refine qf ?_))|(refine qc 5 ?_;refine mv ?_;refine mv ?_;refine qf ?_)|(refine qc 6 ?_;refine mv ?_;refine mv ?_;(first|refine ti ?_|refine vl ?_);(first|refine cT ?_|refine cF ?_|(refine cS ?_ ?_<;>intro hc))<;>(refine mv ?_;(first|refine off ?_|refine mv ?_);(first|refine off ?_|refine mv ?_);(first|refine off ?_|(first|refine ti ?_|refine vl ?_));(first|refine off ?_|(first|refine cT ?_|refine cF ?_|(refine cS ?_ ?_<;>intro hc)))<;>(refine vl ?_;refine qf ?_)))|(refine qc 7 ?_;refine mv ?_;refine qf ?_)|(refine qc 8 ?_;(first|refine ad ?_|refine vl ?_);refine mv ?_;refine qf ?_)|(refine qc 9 ?_;refine mv ?_;refine qf ?_)))
 all_goals (try simp only [zA0] at *)
 ·refine qw ⟨_,rfl,?_⟩;exact ⟨.inr ⟨rfl,fun q=>by have:=q.2.2 i (by omega);unfold QO at this;simp only [JO] at this;omega⟩,rfl⟩
 ·refine qw ⟨_,rfl,?_⟩;exact ⟨.inr ⟨rfl,fun q=>by have:=q.2.2 i (by omega);unfold QO at this;simp only [JO] at this;omega⟩,rfl⟩
 ·refine ⟨i+1,?_,?_,qy⟩
  ·show s.length - (i+1)<s.length - i;omega
  ·refine ⟨rfl,by omega,Zf h2 ?_⟩;unfold QO;simp only [JO];omega
 ·refine qw ⟨_,rfl,?_⟩;exact ⟨.inl ⟨rfl,by omega,by omega,fun j hj=>h2 j (by omega)⟩,rfl⟩
theorem wo {h:AH} (s:List UInt8):Fn Tryz.prog Xh 317 [str s] h (fun v h'=>zy v (WE s)∧h'=h):=by
 refine qM (by first|rfl|exact KX.no _ _ _ (by decide) rfl) Tryz.func317 rfl rfl ?_;all_goals (repeat' (first|refine qg ?_|refine qi rfl ?_|refine qj ?_|refine qA ?_|refine qp ?_|refine qP ?_|refine qQ ?_|(refine qc 0 ?_;refine mv ?_;refine qf ?_)|(refine qc 1 ?_;refine mv ?_;(refine tS ?_ ?_<;>intro hc)<;>(refine mv ?_;(first|refine off ?_|refine mv ?_);(first|(refine off ?_;refine vl ?_;refine mv ?_;refine qf ?_)|skip)))))
 ·refine qw ⟨_,rfl,?_⟩;exact ⟨.inl ⟨rfl,.inl hc⟩,rfl⟩
 (refine qx rfl rfl rfl rfl rfl ((wF s).mono ?_);rintro _ _ ⟨⟨rfl,hq⟩|⟨rfl,hq⟩,rfl⟩)<;>(refine vl ?_;refine mv ?_;refine qf ?_)
 all_goals (all_goals (repeat' (first|refine qg ?_|refine qi rfl ?_|refine qj ?_|refine qA ?_|refine qp ?_|refine qP ?_|refine qQ ?_)))
 all_goals (refine qw ⟨_,rfl,?_⟩)
 ·exact ⟨.inl ⟨rfl,.inr hq⟩,rfl⟩
 ·exact ⟨.inr ⟨rfl,fun q=>by rcases q with q|q;exact hc q;exact hq q⟩,rfl⟩
end Go.Proofs.Xx
