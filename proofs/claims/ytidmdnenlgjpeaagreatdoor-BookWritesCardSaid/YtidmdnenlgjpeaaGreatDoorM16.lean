/-
  Guests among the arguments.
-/
import Derived.Test.YtidmdnenlgjpeaaGreatDoorM15
import Derived.Test.YtidmdnenlgjpeaaGreatDoorM9
import Derived.Test.YtidmdnenlgjpeaaGreatDoorM8
import Derived.Test.YtidmdnenlgjpeaaGreatDoorRows
import Derived.Lib.LaidTab
import Derived.Stop.LaidErr
import Derived.Shelf.Vars
set_option linter.unusedSimpArgs false
set_option linter.unusedVariables false
set_option maxRecDepth 100000
set_option linter.unusedSectionVars false
namespace Go.Proofs.Xx
open Go Go.Proofs
structure GstA (h:AH) (g:JO):Prop where
 rd:Qy h g.tv.val 1 eS g.tg
 cap:Q7 g.tv.val
 len:g.tg.length≤maxLen
 l1:g.name.length≤maxLen
 l2:g.rank.length≤maxLen
 l3:g.court.length≤maxLen
 l4:g.diet.length≤maxLen
 l5:∀ i,i<g.tg.length→(g.tg.getD i default).length≤maxLen
 wt:g.tg.length*16≤reachBytes
 i64:(-9223372036854775808≤g.since∧g.since≤9223372036854775807)∧(-9223372036854775808≤g.side∧g.side≤9223372036854775807)
theorem GstA.ext {h h':AH} {g:JO} (a:GstA h g) (w:WfH h) (x:Ext h h'):GstA h' g:=⟨a.rd.ext w x,a.cap,a.len,a.l1,a.l2,a.l3,a.l4,a.l5,a.wt,a.i64⟩
theorem GstA.r {h:AH} {g:JO} (a:GstA h g):qew h g:=⟨a.rd,by have:=a.len;unfold maxLen at this;omega⟩
theorem qbL {x:Int} (h:(Lit.int .i64 x).wf=true) : -9223372036854775808≤x∧x≤9223372036854775807:=by
 simp [Lit.wf,IntKind.min,IntKind.max,IntKind.signed,IntKind.bits] at h
 omega
theorem AR.qdE {P:Program} {h:AH} {n:Nat} {t:TypeId} {r:List Value} (a:AR P h n t r) (hu:P.underlying t=some .bool):∃ b:Bool,r=[.bool b]:=by
 cases n with
 | zero=>exact a.elim
 | succ n =>
  unfold AR at a;rw [hu] at a;split at a
  all_goals (first|exact a.elim|(rename_i q _;cases q;done)|(rename_i q;cases q;done)|skip)
  all_goals exact ⟨_,rfl⟩
theorem AR.qeI {h:AH} {n:Nat} {r:List Value} (a:AR Tryz.prog h n 22 r):∃ v l,r=[v]∧Qy h v 1 eS l∧(l.length≤maxLen∧l.length*Tryz.prog.bytesOf 9≤reachBytes)∧Q7 v∧∀ i,i<l.length→(l.getD i default).length≤maxLen :=
 AR.wo (e:=9) (z:=1) eS (fun s=>s.length≤maxLen) a (by kernel_rfl) (by kernel_rfl) (fun n cs q=>by
  obtain ⟨s,hs,hl⟩:=q.GI (by kernel_rfl);exact ⟨s,hs,hl⟩)
theorem AR.qfP {h:AH} {n:Nat} {r:List Value} (a:AR Tryz.prog h n 24 r):∃ g,r=eG g∧GstA h g:=by
 obtain ⟨n',hl,hk⟩:=a.vU (m:=[(0,9),(1,9),(2,9),(3,3),(4,3),(5,9),(6,4),(7,4),(8,22)]) (z:=9) rfl (by kernel_rfl) (by kernel_rfl);match r,hl with
 | [x0,x1,x2,x3,x4,x5,x6,x7,x8],_ =>
  obtain ⟨s0,e0,h0⟩:=AR.GI (show AR Tryz.prog h n' 9 [x0] from hk (0,9) (by simp)) (by kernel_rfl);obtain ⟨s1,e1,h1⟩:=AR.GI (show AR Tryz.prog h n' 9 [x1] from hk (1,9) (by simp)) (by kernel_rfl);obtain ⟨s2,e2,h2⟩:=AR.GI (show AR Tryz.prog h n' 9 [x2] from hk (2,9) (by simp)) (by kernel_rfl);obtain ⟨y3,e3,h3⟩:=AR.qd5 (k:=.i64) (show AR Tryz.prog h n' 3 [x3] from hk (3,3) (by simp)) (by kernel_rfl);obtain ⟨y4,e4,h4⟩:=AR.qd5 (k:=.i64) (show AR Tryz.prog h n' 3 [x4] from hk (4,3) (by simp)) (by kernel_rfl);obtain ⟨s5,e5,h5⟩:=AR.GI (show AR Tryz.prog h n' 9 [x5] from hk (5,9) (by simp)) (by kernel_rfl);obtain ⟨b6,e6⟩:=AR.qdE (show AR Tryz.prog h n' 4 [x6] from hk (6,4) (by simp)) (by kernel_rfl);obtain ⟨b7,e7⟩:=AR.qdE (show AR Tryz.prog h n' 4 [x7] from hk (7,4) (by simp)) (by kernel_rfl);obtain ⟨v,l,e8,g1,g2,g3,g4⟩:=AR.qeI (show AR Tryz.prog h n' 22 [x8] from hk (8,22) (by simp));cases e0;cases e1;cases e2;cases e3;cases e4;cases e5;cases e6;cases e7
  obtain ⟨sv,rfl⟩:=g1.qbJ;cases e8
  exact ⟨⟨⟨s0,s1,s2,y3,y4,s5,b6,b7,l⟩,sv⟩,rfl,g1,g3,g2.1,h0,h1,h2,h5,g4,(show Tryz.prog.bytesOf 9=16 by kernel_rfl) ▸ g2.2,qbL h3,qbL h4⟩
theorem AR.tie1 {h:AH} {n:Nat} {r:List Value} (a:AR Tryz.prog h n 111 r):∃ t:Ti,r=Qn t∧0≤t.k∧t.k<256:=by
 obtain ⟨n',hl,hk⟩:=a.vU (m:=[(0,9),(1,9),(2,48)]) (z:=3) rfl (by kernel_rfl) (by kernel_rfl);match r,hl with
 | [x0,x1,x2],_ =>
  obtain ⟨s0,e0,-⟩:=AR.GI (show AR Tryz.prog h n' 9 [x0] from hk (0,9) (by simp)) (by kernel_rfl);obtain ⟨s1,e1,-⟩:=AR.GI (show AR Tryz.prog h n' 9 [x1] from hk (1,9) (by simp)) (by kernel_rfl);obtain ⟨y2,e2,h2⟩:=AR.qd5 (k:=.u8) (show AR Tryz.prog h n' 48 [x2] from hk (2,48) (by simp)) (by kernel_rfl);cases e0;cases e1;cases e2
  have:0≤y2∧y2<256:=by
   simp [Lit.wf,IntKind.min,IntKind.max,IntKind.signed,IntKind.bits] at h2
   omega
  exact ⟨⟨s0,s1,y2⟩,rfl,this⟩
theorem AR.qeP {h:AH} {n:Nat} {r:List Value} (a:AR Tryz.prog h n 32 r):∃ (v:RlV) (q:Rl),r=[v.vg.val,v.vt.val]∧RlOk h v q∧Q7 v.vg.val∧Q7 v.vt.val∧(∀ i,i<v.gs.length→GstA h (v.gs.getD i default))∧(∀ i,i<q.ts.length→0≤(q.ts.getD i default).k∧(q.ts.getD i default).k<256)∧(q.us.length≤maxLen∧q.ts.length≤maxLen)∧q.us.length*112≤reachBytes∧q.ts.length*40≤reachBytes:=by
 obtain ⟨n',hl,hk⟩:=a.vU (m:=[(0,29),(1,30)]) (z:=2) rfl (by kernel_rfl) (by kernel_rfl);match r,hl with
 | [x0,x1],_ =>
  obtain ⟨v0,gs,e0,g1,g2,g3,g4⟩:=AR.wo (e:=24) (z:=9) eG (fun g=>GstA h g) (show AR Tryz.prog h n' 29 [x0] from hk (0,29) (by simp)) (by kernel_rfl) (by kernel_rfl) (fun n cs q=>q.qfP);obtain ⟨v1,ts,e1,t1,t2,t3,t4⟩:=AR.wo (e:=111) (z:=3) Qn (fun t=>0≤t.k∧t.k<256) (show AR Tryz.prog h n' 30 [x1] from hk (1,30) (by simp)) (by kernel_rfl) (by kernel_rfl) (fun n cs q=>q.tie1);obtain ⟨sg,rfl⟩:=g1.qbJ;obtain ⟨st,rfl⟩:=t1.qbJ;cases e0;cases e1
  have m1:=g2.1;have m2:=t2.1;have w1:gs.length*112≤reachBytes:=(show Tryz.prog.bytesOf 24=112 by kernel_rfl) ▸ g2.2;have w2:ts.length*40≤reachBytes:=(show Tryz.prog.bytesOf 111=40 by kernel_rfl) ▸ t2.2;unfold maxLen at m1 m2;exact ⟨⟨sg,st,gs⟩,⟨gs.map (·.toGu),ts⟩,rfl,⟨g1,t1,fun i hi=>(g4 i hi).r,rfl,by rw [zC5];omega,by show ts.length≤_;omega⟩,g3,t3,g4,t4,⟨by rw [zC5];exact g2.1,t2.1⟩,by rw [zC5];exact w1,w2⟩
end Go.Proofs.Xx
namespace Go.Proofs.Xx
open Go Go.RowKit Go.Proofs
theorem VZ [Flag] (hf:Flag.b=true) (h:AH) (us:List Value) (w:WfH h) (a:ArgsR Tryz.prog h Tryz.f15.params.toList us):Fn Tryz.prog Xh 15 us h (fun x _=>x = .bool true):=by
 rw [show Tryz.f15.params.toList=[32] by kernel_rfl] at a;obtain ⟨n0,r0,us,rfl,a0,a⟩:=a.cons_inv;obtain rfl:=a.jy;obtain ⟨v,q,rfl,HR,hcap,-,-,-,-,-,-⟩:=a0.qeP;exact VY w hf v q HR hcap
end Go.Proofs.Xx
namespace Go.Proofs.Xx
open Go Go.RowKit Go.Proofs
theorem qdl [Flag] (f:FuncId) (h1:f≠19) (h2:f≠203) (h3:f≠182) (h4:f≠222) (h5:f≠184) (h6:f≠194) (h7:f≠135) (h8:f≠187) (h9:f≠88) (us:List Value) (h:AH) (h10:f≠183:=by decide):Xh f us h=none:=by
 have e:∀ n,f≠n→Nat.beq f n=false:=fun n q=>by rw [Bool.eq_false_iff];intro q';exact q (zA6 q')
 unfold Xh Z9 Js Xz Xd ZI X0 V9 V8 We withBytes jR;simp only [e _ h1,e _ h2,e _ h3,e _ h4,e _ h5,e _ h6,e _ h7,e _ h8,e _ h9,e _ h10]
theorem Va {W:World} (h:W.ShapedOpen Tryz.prog):1<W.heap.size∧∃ m el fr,W.heap[0]? = some (.cells #[.int .i64 m] el fr):=by
 have h0:((begin Tryz.prog (fun _ _=>0) default).world.heap[0]?).bind Obj.row? = some (#[.int .i64 0],3):=by kernel_rfl
 obtain ⟨m,hm⟩:=cell_of_shapedOpen_int h (g:=0) (t:=3) (of_decide_eq_true (by kernel_rfl)) h0 rfl (by kernel_rfl) (by kernel_rfl) Tryz.underlying3;obtain ⟨cs,hh,hs,-⟩:=h.1 0 _ 3 (of_decide_eq_true (by kernel_rfl)) h0;refine ⟨?_,m,3,(0,0),?_⟩
 ·have h1:(((begin Tryz.prog (fun _ _=>0) default).world.heap[1]?).bind Obj.row?).isSome=true:=by kernel_rfl
  obtain ⟨⟨z,t⟩,h1⟩:=Option.isSome_iff_exists.1 h1;obtain ⟨cs,hh,-⟩:=h.1 1 z t (of_decide_eq_true (by kernel_rfl)) h1;exact (zB9.1 hh).1
 ·rw [hh];have:cs=#[.int .i64 m]:=by
   simp only [World.cell?,hh] at hm;obtain ⟨l⟩:=cs;match l,hs,hm with
   | [x],_,hm=>simp at hm;rw [hm]
   | [],hs,_=>cases hs
   | _ :: _ :: _,hs,_=>simp at hs
  rw [this]
theorem Gg {W:World} (h:W.ShapedOpen Tryz.prog):∃ (k:Nat) (cc:Array Value) (el:TypeId) (fr:Nat×Nat),W.heap[k]? = some (.cells cc el fr):=by
 obtain ⟨-,m,el,fr,q⟩:=Va h;exact ⟨0,_,el,fr,q⟩
end Go.Proofs.Xx
namespace Go.Proofs.Xx
open Go Go.RowKit Go.Proofs
theorem qbS:(Tryz.prog.globals[1]?).map (·.type)=some 241:=by kernel_rfl
theorem qbP [Flag] {W:World} {x y:String×DataW Unit} {rest:List (String×DataW Unit)} (h:laidMet Tryz.prog (x :: y :: ("internal/strconv.uint64pow10", YtidmdnenlgjpeaaGreatDoor.Rows.laid_internal_strconv_uint64pow10) :: rest) W) (hS:W.ShapedOpen Tryz.prog) :
 Glob.ok W.heap.size W.heap:=by
 refine ⟨(Va hS).1,(Va hS).2,fun _=>?_⟩;have t:Lib.TabIs Tryz.prog W "internal/strconv.uint64pow10" .u64 Lib.pow10Tab :=
  Lib.tabIs_of_head qd7 qbS (n:=20) (e:=202) (by kernel_rfl) (by kernel_rfl) (by kernel_rfl) (by kernel_rfl) (laidMet.tail (laidMet.tail h))
 unfold Lib.TabIs World.var? at t;rw [qd7] at t;simp only [Option.bind_some] at t;split at t
 ·rename_i cs el fr hc
  cases t
  exact ⟨el,fr,hc⟩
 ·cases t
end Go.Proofs.Xx
