/-
  slices.Insert of one tie into a list of ties,ahead of its end: with room and without,at the machine. The walks follow those of the kit's shelf at lists of strings.
-/
import Derived.Test.YtidmdnenlgjpeaaGreatDoorM3
import Derived.WalkKit
import Derived.Lib.Walk
import Derived.Lib.SliceRun
import Derived.Lib.JoinLaws
import Derived.Lib.AppendZeros
import Derived.Lib.AppendZerosOnto
import Derived.Laws.NewBlocks
import Derived.Lib.Overlaps
import Derived.Laws.Externs
import Derived.Laws.IdiomCopy
import Derived.Shelf.RegionOpenPlain
import Derived.Shelf.Strings.BuilderX
import Derived.Lib.MakeNoZero
set_option linter.unusedVariables false
set_option linter.unusedSimpArgs false
set_option maxRecDepth 1000000
namespace Go.Proofs.Xx
open Go Go.RowKit Go.Lib Go.Proofs
section
variable {P:Program}
theorem qa1 (w:World) {o:Oper} {a:Act} {K:Act→World→Prop} {Q:Exit→Act→World→Prop} (d s:Operand) (t t':TypeId)
 (ho:o.op = .call { callee:=.builtin .copy,args:=#[d,s],argTypes:=#[t,t'] }) (v u:Value) (hd:a.eval d=v) (hs:a.eval s=u) {v':Value} {w':World}
 (hr:(Builtin.copy_ #[t,t'] o.type #[v,u]).run P w = .ok v' w') (h:K (a.put o.dst v') w'):o.wp P a w K Q:=by
 unfold Oper.wp execOp;simp only [ho,resolve,invoke,builtin,zA5,zB1,zA1,List.map_toArray,List.map_cons,List.map_nil,hd,hs,hr];exact h
theorem JA (w:World) {ops:Array Oper} {rest:List Oper} {o:Oper} {a:Act} {Q:Exit→Act→World→Prop} (hgd:o.guard=none) (d s:Operand) (t t':TypeId)
 (ho:o.op = .call { callee:=.builtin .copy,args:=#[d,s],argTypes:=#[t,t'] }) (v u:Value) (hd:a.eval d=v) (hs:a.eval s=u) {v':Value} {w':World}
 (hr:(Builtin.copy_ #[t,t'] o.type #[v,u]).run P w = .ok v' w') (h:wpList P ops Q rest (a.put o.dst v') w'):wpList P ops Q (o :: rest) a w :=
 wpList_plain hgd fun _ hK=>qa1 w d s t t' ho v u hd hs hr (hK _ _ h)
theorem Wu {ops:Array Oper} {o:Oper} {a:Act} {w:World} {K:Act→World→Prop} {Q:Exit→Act→World→Prop} {E:Prop}
 (hg:o.guard=none) (d x:Operand) (dT sT:TypeId) (hop:o.op=Op.call { callee:=Callee.builtin Builtin.copy,args:=#[d,x],argTypes:=#[dT,sT] })
 (v u:Value) (hd:a.eval d=v) (hx:a.eval x=u) {v':Value} {w':World} (hr:(Builtin.copy_ #[dT,sT] o.type #[v,u]).run P w = .ok v' w') (hK:K (a.put o.dst v') w') :
 if Region.wanted o (yielded ops a.tmps)=true then Oper.wp P o a w K Q else E:=by
 have hw:Region.wanted o (yielded ops a.tmps)=true:=by simp [Region.wanted,hg]
 rw [if_pos hw];unfold Oper.wp;simp [execOp,hop,resolve,invoke,builtin,hd,hx,hr,Result.andThen]
 exact hK
theorem isSome_setCells (b:Nat) (vs:List Value) (o:Nat) (w:World) (h:∀ j,j<vs.length→(w.cell? ⟨b,o+j,none⟩).isSome=true) (k:Nat) (hk:(w.cell? ⟨b,k,none⟩).isSome=true):((w.setCells b o vs).cell? ⟨b,k,none⟩).isSome=true:=by
 by_cases hin:o≤k∧k<o+vs.length
 ·have:=World.cell?_setCells_in b vs o w h (k - o) (by omega);rw [show o+(k - o)=k by omega] at this;rw [this];rfl
 ·rw [World.cell?_setCells_out b vs o w ⟨b,k,none⟩ (fun _ _=>by show k<o∨o+vs.length≤k;omega)];exact hk
theorem QU (w:World) (dT sT ty elem:TypeId) (z b o dLen dCap:Nat) (a:Addr) (sLen sCap:Nat) (cs:List Value)
 (hu:P.underlying dT=some (.slice elem)) (hs:(P.info? elem).map (·.size)=some z) (hn:cs.length=Nat.min sLen dLen*z)
 (hsrc:∀ j v,cs[j]? = some v→w.cell? (a.add j)=some v) (hc:∀ j,j<cs.length→(w.cell? ⟨b,o+j,none⟩).isSome=true) (hf:∀ j,j<cs.length→w.frozen? ⟨b,o+j,none⟩=false) (h1:∀ v∈cs,v.oneCell'=true) :
 (Builtin.copy_ #[dT,sT] ty #[.slice (some ⟨b,o,none⟩) dLen dCap,.slice (some a) sLen sCap]).run P w = .ok (goInt (Nat.min sLen dLen)) (w.setCells b o cs):=by
 have hl:=run_loadCells_list (P:=P) w a cs hsrc;have hst:=run_storeCells_cells (P:=P) b o cs 0 w (by simpa using hc) (by simpa using hf) h1;cases hq:P.info? elem with
 | none=>simp [hq] at hs
 | some i =>
  have hi:i.size=z:=by simpa [hq] using hs
  simp [Builtin.copy_,run_underlying hu,Builtin.lenOf,Builtin.firstCells,sizeOf,typeInfo,hq,hi,← hn,hl,hst]
end
set_option maxHeartbeats 4000000 in
set_option maxRecDepth 100000 in
theorem wG (b off n c i vb voff vc:Nat) (cs vs:List Value) (w:World) (hi:i<n) (hroom:n+1≤c) (hn63:n≤140737488355328) (hvb:vb≠b)
 (hcl:cs.length=3*n) (hvl:vs.length=3)
 (hcs:∀ j v,cs[j]? = some v→w.cell? ⟨b,off+j,none⟩=some v) (hsp:∀ j,j<3*(n+1)→(w.cell? ⟨b,off+j,none⟩).isSome=true) (hfz:∀ j,j<3*(n+1)→w.frozen? ⟨b,off+j,none⟩=false)
 (hvs:∀ j v,vs[j]? = some v→w.cell? ⟨vb,voff+j,none⟩=some v) (h1c:∀ v∈cs,v.oneCell'=true) (h1v:∀ v∈vs,v.oneCell'=true)
 (tA tB:TypeId) (kA kB:Nat) (hsa:w.shape? vb=some (tA,kA)) (hsb:w.shape? b=some (tB,kB)) (hkB:kB≠0) (hfa:w.frozen? ⟨vb,voff,none⟩=false) (hfe:w.frozen? ⟨vb,kA,none⟩=false) :
 Calls Tryz.prog 88 #[.slice (some ⟨b,off,none⟩) n c,.int .i64 i,.slice (some ⟨vb,voff,none⟩) 1 vc] w fun e w' =>
  e = .returned (.slice (some ⟨b,off,none⟩) (n+1) c)∧w'=(w.drew.setCells b (off+(i+1)*3) (cs.drop (i*3))).setCells b (off+i*3) vs:=by
 have u30:=Tryz.underlying30;have mixed:=follows;have hz1:¬ ((1:Int)=0):=by omega
 have hz2:¬ ((i:Int)=(n:Int)):=by omega
 have hsz:(Tryz.prog.info? 111).map (·.size)=some 3:=by kernel_rfl
 have hov:∀ lb cb,(callFunc 135 #[.slice (some ⟨vb,voff,none⟩) 1 vc,.slice (some ⟨b,off+(i+1)*3,none⟩) lb cb]).run Tryz.prog w = .ok (.value (.bool false)) w:=fun lb cb=>by
  rw [run_callFunc_extern Tryz.func135 (by kernel_rfl) (by kernel_rfl) (by kernel_rfl) (e:=Extern.SlicesOverlaps.overlaps #[30,30] #[4]) (by rfl),
   Lib.run_overlaps_apart w 30 4 111 u30 3 (fun w=>by rfl) ⟨vb,voff,none⟩ ⟨b,off+(i+1)*3,none⟩ 1 vc lb cb hvb tA tB kA kB hsa hsb hkB hfa hfe]
  rfl
 have hdl:(cs.drop (i*3)).length=(n - i)*3:=by rw [zB4,hcl];omega
 have hw1:IntKind.i64.wrap ((i:Int)+1)=(i:Int)+1:=by rw [IntKind.wrap_i64];omega
 have hw2:IntKind.i64.wrap ((n:Int)+1)=(n:Int)+1:=by rw [IntKind.wrap_i64];omega
 have hcp1:∀ ty dc sc,(Builtin.copy_ #[30,30] ty #[.slice (some ⟨b,off+(i+1)*3,none⟩) (n - i) dc,.slice (some ⟨b,off+i*3,none⟩) (n+1 - i) sc]).run Tryz.prog w.drew = .ok (goInt (Nat.min (n+1 - i) (n - i))) (w.drew.setCells b (off+(i+1)*3) (cs.drop (i*3))):=fun ty dc sc =>
  QU w.drew _ _ ty 111 3 b (off+(i+1)*3) (n - i) dc ⟨b,off+i*3,none⟩ (n+1 - i) sc (cs.drop (i*3)) u30 hsz (by rw [hdl];simp only [Nat.min_def];split<;>omega)
   (fun j v hj=>by rw [Addr.add_lit,zF7];exact hcs (i*3+j) v (by rwa [zC3] at hj))
   (fun j hj=>by rw [zF7];exact hsp _ (by omega)) (fun j hj=>by rw [zF7];exact hfz _ (by omega)) (fun v hv=>h1c v (List.mem_of_mem_drop hv))
 obtain ⟨W1,hW1⟩:∃ W1,W1=w.drew.setCells b (off+(i+1)*3) (cs.drop (i*3)):=⟨_,rfl⟩
 have hsp1:∀ k,k<3*(n+1)→(W1.cell? ⟨b,off+k,none⟩).isSome=true:=fun k hk=>by
  rw [hW1];exact isSome_setCells b _ _ _ (fun j hj=>by rw [zF7];exact hsp _ (by omega)) _ (hsp k hk)
 have hcp2:∀ (W:World),(∀ x,W.cell? x=W1.cell? x)→(∀ x,W.frozen? x=W1.frozen? x)→∀ ty dc,(Builtin.copy_ #[30,30] ty #[.slice (some ⟨b,off+i*3,none⟩) (n+1 - i) dc,.slice (some ⟨vb,voff,none⟩) 1 vc]).run Tryz.prog W = .ok (goInt (Nat.min 1 (n+1 - i))) (W.setCells b (off+i*3) vs):=fun W hWc hWf ty dc =>
  QU W _ _ ty 111 3 b (off+i*3) (n+1 - i) dc ⟨vb,voff,none⟩ 1 vc vs u30 hsz (by rw [hvl];simp only [Nat.min_def];split<;>omega)
   (fun j v hj=>by
    rw [Addr.add_lit,hWc,hW1,World.cell?_setCells_out b _ _ _ _ (fun h _=>absurd h hvb)];exact hvs j v hj)
   (fun j hj=>by rw [hWc,zF7];exact hsp1 _ (by omega)) (fun j hj=>by rw [hWf,hW1,World.frozen?_setCells,zF7];exact hfz _ (by omega)) h1v
 rw [← hW1] at hcp1;have hb1:(0:Int)≤(i:Int)+1:=by omega
 have hin:i≤n:=by omega
 have htn:((i:Int)+1).toNat=i+1:=by omega
 have hb2:¬ (c=i+1):=by omega
 have hb3:(i:Int)≤(n:Int)+1:=by omega
 have hb4:¬ (c=i):=by omega
 go_enter Tryz.func88,Tryz.ntmps88
 go_wp2_with (simp only [hov])
 go_region_law_o (refine Wu rfl _ _ 30 30 rfl _ _ (by simp [Act.eval,Act.put]) (by simp [Act.eval,Act.put]) (hcp1 _ _ _) ?_)
 go_wp2_with (at_builtin;refine JA _ rfl _ _ 30 30 rfl _ _ rfl rfl (hcp2 _ (fun _=>rfl) (fun _=>rfl) _ _) ?_)
 go_ret
 first|exact ⟨rfl,rfl⟩|exact ⟨rfl,by rw [hW1]⟩
set_option maxHeartbeats 4000000 in
set_option maxRecDepth 100000 in
theorem KJ (b off n c i vb voff vc:Nat) (cs vs:List Value) (w:World) (hi:i<n) (hnc:n≤c) (hroom:c<n+1) (hbig:(n+1)*40≤140737488355328)
 (hcl:cs.length=3*n) (hvl:vs.length=3)
 (hcs:∀ j v,cs[j]? = some v→w.cell? ⟨b,off+j,none⟩=some v)
 (hvs:∀ j v,vs[j]? = some v→w.cell? ⟨vb,voff+j,none⟩=some v) (h1c:∀ v∈cs,v.oneCell'=true) (h1v:∀ v∈vs,v.oneCell'=true) :
 Calls Tryz.prog 88 #[.slice (some ⟨b,off,none⟩) n c,.int .i64 i,.slice (some ⟨vb,voff,none⟩) 1 vc] w fun e w' =>
  e = .returned (.slice (some ⟨w.heap.size,0,none⟩) (n+1) (grownCap w (n+1) c 111)) ∧
  w'=(((w.alloc (.cells ((cs.take (i*3)).toArray ++ Builtin.zeroCells #[.string ⟨#[]⟩,.string ⟨#[]⟩,.int .u8 0] (n+1 - i) ++ Builtin.zeroCells #[.string ⟨#[]⟩,.string ⟨#[]⟩,.int .u8 0] (grownCap w (n+1) c 111 - (n+1))) 111)).drew.setCells w.heap.size (i*3) vs).drew).setCells w.heap.size ((i+1)*3) (cs.drop (i*3)):=by
 have u30:=Tryz.underlying30;have u3:=Tryz.underlying3;obtain ⟨i0,hi0,hz0,hzs,hzb⟩:∃ i0:TypeInfo,Tryz.prog.info? 111=some i0∧i0.zero=some (.agg #[.string ⟨#[]⟩,.string ⟨#[]⟩,.int .u8 0])∧i0.size=3∧i0.bytes=40:=⟨_,rfl,rfl,rfl,rfl⟩
 have hz1:¬ ((1:Int)=0):=by omega
 have hz2:¬ ((i:Int)=(n:Int)):=by omega
 have hz3:(c:Int)<(n:Int)+1:=by omega
 have hsz:(Tryz.prog.info? 111).map (·.size)=some 3:=by rw [hi0];simp [hzs]
 have hbw:b<w.heap.size:=block_lt_of_cell (hcs 0 _ (zA4 (by omega)));have hvw:vb<w.heap.size:=block_lt_of_cell (hvs 0 _ (zA4 (by omega)));have hkk:(n:Int)+1 - (i:Int)=((n+1 - i:Nat):Int):=by omega
 have hik:i+(n+1 - i)=n+1:=by omega
 have hold:(Builtin.firstCells i0.size i (.slice (some ⟨b,off,none⟩) i c)).run Tryz.prog w.drew = .ok (cs.take (i*3)).toArray w.drew:=by
  rw [hzs];exact run_firstCells_some w.drew 3 i ⟨b,off,none⟩ i c (cs.take (i*3)) (by rw [zA9];omega) (fun j v hj=>by
   rw [Addr.add_lit];rw [zC7] at hj;split at hj
   ·exact hcs j v hj
   ·cases hj)
 have hrz:∀ ty,(Builtin.append_ #[30,3] ty #[.slice (some ⟨b,off,none⟩) i c,.int .i64 ((n:Int)+1 - (i:Int))]).run Tryz.prog w =
  .ok (.slice (some ⟨w.heap.size,0,none⟩) (n+1) (grownCap w (n+1) c 111)) (w.drew.alloc (.cells ((cs.take (i*3)).toArray ++ Builtin.zeroCells #[.string ⟨#[]⟩,.string ⟨#[]⟩,.int .u8 0] (n+1 - i) ++ Builtin.zeroCells #[.string ⟨#[]⟩,.string ⟨#[]⟩,.int .u8 0] (grownCap w (n+1) c 111 - (n+1))) 111)):=fun ty=>by
  have h:=Lib.run_append_grow_zeros w 30 3 ty 111 i0 _ .i64 .i64 u30 u3 hi0 hz0 (some ⟨b,off,none⟩) i c (cs.take (i*3)) hold (n+1 - i) (by omega) (by omega) (by omega) (by omega) (by rw [hzb];omega) (by rw [hzb,hik];exact growslice_fits hroom hbig);rw [hik] at h;rw [hkk];exact h
 have mixed:=follows;obtain ⟨G,hG⟩:∃ G,G=grownCap w (n+1) c 111:=⟨_,rfl⟩
 obtain ⟨ROW,hROW⟩:∃ ROW:Array Value,ROW=(cs.take (i*3)).toArray ++ Builtin.zeroCells #[.string ⟨#[]⟩,.string ⟨#[]⟩,.int .u8 0] (n+1 - i) ++ Builtin.zeroCells #[.string ⟨#[]⟩,.string ⟨#[]⟩,.int .u8 0] (G - (n+1)):=⟨_,rfl⟩
 rw [← hG] at hrz ⊢;rw [← hROW] at hrz ⊢;have hRl:3*(n+1)≤ROW.size:=by
  rw [hROW];simp [Builtin.zeroCells]
  omega
 obtain ⟨W1,hW1⟩:∃ W1,W1=w.drew.alloc (.cells ROW 111):=⟨_,rfl⟩
 rw [← hW1] at hrz;have hN:∀ j,j<3*(n+1)→(W1.cell? ⟨w.heap.size,j,none⟩).isSome=true:=fun j hj=>by
  rw [hW1,World.cell?_alloc_at (w:=w.drew) ROW _ w.heap.size j rfl,zE2 (by omega)];rfl
 have hNf:∀ j,W1.frozen? ⟨w.heap.size,j,none⟩=false:=fun j=>by rw [hW1];exact World.frozen?_alloc_at (w:=w.drew) ROW _ w.heap.size j rfl
 have hOb:∀ j v,w.cell? ⟨b,j,none⟩=some v→W1.cell? ⟨b,j,none⟩=some v:=fun j v h=>by rw [hW1,World.cell?_alloc_past (w:=w.drew) _ b j hbw];exact h
 have hOv:∀ j v,w.cell? ⟨vb,j,none⟩=some v→W1.cell? ⟨vb,j,none⟩=some v:=fun j v h=>by rw [hW1,World.cell?_alloc_past (w:=w.drew) _ vb j hvw];exact h
 have hcpA:∀ (W:World),(∀ x,W.cell? x=W1.cell? x)→(∀ x,W.frozen? x=W1.frozen? x)→∀ ty dc,(Builtin.copy_ #[30,30] ty #[.slice (some ⟨w.heap.size,i*3,none⟩) (n+1 - i) dc,.slice (some ⟨vb,voff,none⟩) 1 vc]).run Tryz.prog W = .ok (goInt (Nat.min 1 (n+1 - i))) (W.setCells w.heap.size (i*3) vs):=fun W hWc hWf ty dc =>
  QU W _ _ ty 111 3 w.heap.size (i*3) (n+1 - i) dc ⟨vb,voff,none⟩ 1 vc vs u30 hsz (by rw [hvl];simp only [Nat.min_def];split<;>omega)
   (fun j v hj=>by rw [Addr.add_lit,hWc];exact hOv _ v (hvs j v hj))
   (fun j hj=>by rw [hWc];exact hN _ (by omega)) (fun j hj=>by rw [hWf];exact hNf _) h1v
 have hGn:n+1≤G:=by rw [hG];exact grownCap_ge w _ _ _
 have hG63:G≤9223372036854775807:=by
  have:=grownCap_le_maxLen w (n+1) c 111 (by unfold maxLen;omega);rw [← hG] at this;unfold maxLen at this;omega
 have hGi:¬ (G=i):=by omega
 have hGim:¬ (G=i+1):=by omega
 have hci:¬ (c=i):=by omega
 have hbN:b≠w.heap.size:=by omega
 have hdl:(cs.drop (i*3)).length=(n - i)*3:=by rw [zB4,hcl];omega
 have hcpB:∀ (W:World),(∀ x,W.cell? x=(W1.setCells w.heap.size (i*3) vs).cell? x)→(∀ x,W.frozen? x=(W1.setCells w.heap.size (i*3) vs).frozen? x)→∀ ty dc sc,(Builtin.copy_ #[30,30] ty #[.slice (some ⟨w.heap.size,(i+1)*3,none⟩) (n+1 - (i+1)) dc,.slice (some ⟨b,off+i*3,none⟩) (n - i) sc]).run Tryz.prog W = .ok (goInt (Nat.min (n - i) (n+1 - (i+1)))) (W.setCells w.heap.size ((i+1)*3) (cs.drop (i*3))):=fun W hWc hWf ty dc sc =>
  QU W _ _ ty 111 3 w.heap.size ((i+1)*3) (n+1 - (i+1)) dc ⟨b,off+i*3,none⟩ (n - i) sc (cs.drop (i*3)) u30 hsz (by rw [hdl];simp only [Nat.min_def];split<;>omega)
   (fun j v hj=>by
    rw [Addr.add_lit,hWc,World.cell?_setCells_out _ _ _ _ _ (fun h _=>absurd h hbN),zF7];exact hOb _ v (hcs (i*3+j) v (by rwa [zC3] at hj)))
   (fun j hj=>by rw [hWc];exact isSome_setCells _ _ _ _ (fun t ht=>hN _ (by omega)) _ (hN _ (by omega)))
   (fun j hj=>by rw [hWf,World.frozen?_setCells];exact hNf _) (fun v hv=>h1c v (List.mem_of_mem_drop hv))
 subst hW1;have hE1:∀ x,((w.alloc (.cells ROW 111)).drew).cell? x=(w.drew.alloc (.cells ROW 111)).cell? x:=fun x=>rfl;have hE2:∀ x,((w.alloc (.cells ROW 111)).drew).frozen? x=(w.drew.alloc (.cells ROW 111)).frozen? x:=fun x=>rfl;have hF1:∀ x,(((w.alloc (.cells ROW 111)).drew.setCells w.heap.size (i*3) vs).drew).cell? x=((w.drew.alloc (.cells ROW 111)).setCells w.heap.size (i*3) vs).cell? x:=fun x=>rfl;have hF2:∀ x,(((w.alloc (.cells ROW 111)).drew.setCells w.heap.size (i*3) vs).drew).frozen? x=((w.drew.alloc (.cells ROW 111)).setCells w.heap.size (i*3) vs).frozen? x:=fun x=>rfl;have hw1:IntKind.i64.wrap ((i:Int)+1)=(i:Int)+1:=by rw [IntKind.wrap_i64];omega
 have hb1:(0:Int)≤(i:Int)+1:=by omega
 have hin:i≤n:=by omega
 have htn:((i:Int)+1).toNat=i+1:=by omega
 have hb3:(i:Int)≤(n:Int):=by omega
 clear hkk hik hold hROW hG hRl hi0 hz0 hzs hzb hsz;go_enter Tryz.func88,Tryz.ntmps88
 go_wp2_with (first
  | (at_builtin;refine Lib.wpList_append_run _ rfl _ _ _ _ rfl _ _ rfl rfl _ _ (hrz _) ?_)
  | (at_builtin;refine JA _ rfl _ _ 30 30 rfl _ _ rfl rfl (hcpA _ hE1 hE2 _ _) ?_)
  | (at_builtin;refine JA _ rfl _ _ 30 30 rfl _ _ rfl rfl (hcpB _ (fun _=>rfl) (fun _=>rfl) _ _ _) ?_))
 go_region_law_o (refine Wu rfl _ _ 30 30 rfl (.slice (some ⟨w.heap.size,(i+1)*3,none⟩) (n+1 - (i+1)) (G - (i+1))) (.slice (some ⟨b,off+i*3,none⟩) (n - i) (c - i)) (by simp [Act.eval,Act.put]) (by simp [Act.eval,Act.put]) (hcpB _ hF1 hF2 3 (G - (i+1)) (c - i)) ?_)
 go_wp2
 go_ret
 exact ⟨rfl,rfl⟩
end Go.Proofs.Xx
namespace Go.Proofs.Xx
open Go Go.RowKit Go.Lib Go.Proofs
theorem jM {P:Program} {w:World} {b o:Nat} {cc:Array Value} {e:TypeId} {fr:Nat×Nat} {vs:List Value} (hb:w.heap[b]? = some (.cells cc e fr)) (h1:vs.all one? = true) (hl:o+vs.length≤cc.size) (hfr:∀ j,¬ (fr.1≤j∧j<fr.2)) :
 Wrote w (w.setCells b o vs) b (.cells (Xx.splice cc.toList o vs).toArray e fr):=by
 obtain ⟨w',q1,q2⟩:=jw (P:=P) (o:=o) vs 0 cc w hb h1 (by omega) hfr;rw [Nat.add_zero] at q2;have hs:=run_storeCells_cells (P:=P) b o vs 0 w (fun j hj=>by
  simp only [World.cell?,hb];simp
  omega) (fun j hj=>by
  unfold World.frozen?;simp only [hb];have:=hfr (o+0+j);simp only [zH2,decide_eq_false_iff_not];omega) (fun v hv=>by rw [← one?_eq];exact zC8.1 h1 v hv)
 rw [hs] at q1;cases q1
 simpa using q2
theorem Wrote.drew {w w':World} {k:Nat} {o:Obj} (h:Wrote w.drew w' k o):Wrote w w' k o:=⟨h.here,h.other,h.size,h.os,h.tape,h.output⟩
theorem Pushed.wrote {w w1 w2:World} {o o2:Obj} (p:Pushed w w1 o) (q:Wrote w1 w2 w.heap.size o2):Pushed w w2 o2:=by
 refine ⟨?_,q.os.trans p.os,q.tape.trans p.tape,q.output.trans p.output⟩;apply Array.ext_getElem?
 intro j;by_cases hj:j=w.heap.size
 ·subst hj;rw [q.here];simp
 ·rw [q.other j hj,p.heap,Array.getElem?_push,Array.getElem?_push,if_neg hj,if_neg hj]
theorem qcR {cc old vs:List Value} {s a z:Nat} (ho:∀ j,j<old.length→cc[s+j]? = old[j]?) (ha:a≤old.length) (hv:vs.length=z) (hs:s+old.length+z≤cc.length) :
 ∀ j,j<old.length+z→(splice (splice cc (s+(a+z)) (old.drop a)) (s+a) vs)[s+j]? = (old.take a ++ (vs ++ old.drop a))[j]?:=by
 intro j hj;have l1:s+(a+z)+(old.drop a).length≤cc.length:=by rw [zB4];omega
 have l2:(splice cc (s+(a+z)) (old.drop a)).length=cc.length:=zu _ _ _ l1;have hd:(old.drop a).length=old.length - a:=zB4;have ht:(old.take a).length=a:=by rw [zA9];omega
 rw [jb _ _ _ (by rw [l2];omega),jb _ _ _ l1];rw [zF0,ht,zF0,hv,hd];by_cases h1:j<a
 ·rw [if_pos (by omega),if_pos (by omega),if_pos h1,zC7,if_pos h1,ho j (by omega)]
 ·rw [if_neg (by omega:¬ s+j<s+a),if_neg h1];by_cases h2:j - a<z
  ·rw [if_pos (by omega),if_pos h2];congr 1;omega
  ·rw [if_neg (by omega),if_neg (by omega),if_pos (by omega),if_neg h2];congr 1;omega
def ZM (X:Extern) (f:FuncId):Extern:=fun g args h=>match Nat.beq g f,args with
 | true,[.slice (some ⟨b,o,none⟩) n c,.int .i64 (.ofNat i),.slice (some ⟨vb,vo,none⟩) 1 vc] =>
  match Nat.blt i n with
  | false=>X g args h
  | true=>match h.get b,h.get vb with
   | some (.cells cc eb slk false),some (.cells vcc _ _ false) =>
    match zo cc o (n*3),zo vcc vo 3 with
    | some old,some v=>match (match slk with|none=>true|some k=>Nat.beq k 3) && (Nat.ble (o+c*3) cc.length && (!Nat.beq b vb && (old.all one? && (v.all one? && (Nat.ble ((n+1)*40) 140737488355328 && Nat.beq eb 111))))) with
     | true=>some (.slice (some ⟨h.next,0,none⟩) (n+1) (n+1),(h.put b .dead).add (.cells (old.take (i*3) ++ (v ++ old.drop (i*3))) 111 (some 3) false))
     | false=>none
    | _,_=>none
   | _,_=>none
 | _,_=>X g args h
set_option maxHeartbeats 1000000 in
theorem Gw [Flag] {X:Extern} (hX:VA Tryz.prog X):VA Tryz.prog (ZM X 88):=by
 intro g args h u h1 hx B e w args' r hargs;unfold ZM at hx;split at hx
 rotate_left
 ·exact hX _ _ _ _ _ hx B e w args' r hargs
 rename_i b o n c i vb vo vc hg
 split at hx
 ·exact hX _ _ _ _ _ hx B e w args' r hargs
 rename_i hin
 have hin:i<n:=by rw [Nat.blt_eq] at hin;exact hin
 split at hx
 rotate_left
 ·cases hx
 rename_i cc0 eb slk vcc t2 s2 hb hvb
 split at hx
 rotate_left
 ·cases hx
 rename_i old v hold hv
 split at hx
 rotate_left
 ·cases hx
 rename_i hck
 cases hx
 have:=zA6 hg;subst this;simp only [zA8,zG3] at hck;obtain ⟨k1,k2,k3,k4,k5,k6,k7⟩:=hck;have k7:=zA6 k7;subst k7;have k2:=zB6 k2;have k6:=zB6 k6;have hne:b≠vb:=fun q=>by subst q;simp at k3
 obtain ⟨s',r1,rfl,hs,hr1⟩:=hargs.cons_inv;obtain ⟨i',r2,rfl,hi,hr2⟩:=hr1.cons_inv;obtain ⟨v',r3,rfl,hv',hr3⟩:=hr2.cons_inv;have:=hr3.jy;subst this;obtain ⟨L,a,hL,rfl,hlc,ho⟩:=hs.jE;obtain ⟨L2,a2,hL2,rfl,hlc2,ho2⟩:=hv'.jE;cases hi
 obtain rfl:a=⟨L.blk,L.sh+o,none⟩:=by rcases ho with ho|ho;exact ho;omega
 obtain rfl:a2=⟨L2.blk,L2.sh+vo,none⟩:=by rcases ho2 with ho|ho;exact ho;omega
 have hO:=r.obj b L _ hL hb;have hO2:=r.obj vb L2 _ hL2 hvb;obtain ⟨old',o1,o2,o3⟩:=hO.seg hold;obtain ⟨vs',v1,v2,v3⟩:=hO2.seg hv;have hblk:L2.blk≠L.blk:=fun q=>hne (r.inj _ _ _ _ _ _ hL hb hL2 hvb q.symm rfl rfl);have hone1:old'.all one? = true:=by rw [o1.one?];exact k4
 have hone2:vs'.all one? = true:=by rw [v1.one?];exact k5
 have h1c:∀ v∈old',v.oneCell'=true:=fun v hv=>by rw [← one?_eq];exact zC8.1 hone1 v hv
 have h1v:∀ v∈vs',v.oneCell'=true:=fun v hv=>by rw [← one?_eq];exact zC8.1 hone2 v hv
 have hdone:(old'.drop (i*3)).all one? = true:=zC8.2 fun x hx=>zC8.1 hone1 x (List.mem_of_mem_drop hx);obtain ⟨cc,fr,g1,g2,g3,g4,g5,g6⟩:=hO;obtain ⟨cc2,fr2,f1,f2,f3,f4,f5,f6⟩:=hO2;have hslk:L.sh+cc0.length+L.slack*3≤cc.size:=by
  cases slk with
  | none=>have:=(g4 rfl).1;rw [this];omega
  | some k =>
   have hk:=g5 k rfl;have:=zA6 k1;subst this;exact hk
 have hsmall:c+L.slack≤9223372036854775807→True:=fun _=>trivial;have hent:∀ args,(callFunc 88 args).run Tryz.prog w = .ok (.enter 88 args) w:=fun args=>Go.Proofs.enters_of Tryz.func88 (by kernel_rfl) rfl args w;obtain ⟨rk,tk⟩:=r.kill hL;have hnew:∀ f:Emb,e.le f→VRs f (old.take (i*3) ++ (v ++ old.drop (i*3))) (old'.take (i*3) ++ (vs' ++ old'.drop (i*3))):=fun f hf=>((o1.mono hf).take _).append ((v1.mono hf).append ((o1.mono hf).drop _));have hnl:(old.take (i*3) ++ (v ++ old.drop (i*3))).length=3*(n+1):=by
  have:=(hnew e e.le_refl).length;rw [← this];simp only [zB2,zA9,zB4,o2,v2];omega
 by_cases hroom:n+1≤c+L.slack
 ·
  have hsz:L.sh+o+3*(n+1)≤cc.size:=by omega
  have hfr:∀ j,World.frozen? w ⟨L.blk,j,none⟩=false:=fun j=>by
   unfold World.frozen?;simp only [g1];have:=g6 rfl j;simp only [zH2,decide_eq_false_iff_not];omega
  have hfr2:∀ j,World.frozen? w ⟨L2.blk,j,none⟩=false:=fun j=>by
   unfold World.frozen?;simp only [f1];have:=f6 rfl j;simp only [zH2,decide_eq_false_iff_not];omega
  have hcs:=wG L.blk (L.sh+o) n (c+L.slack) i L2.blk (L2.sh+vo) (vc+L2.slack) old' vs' w hin hroom (by omega) hblk (by omega) v2 o3
   (fun j hj=>by
    simp only [World.cell?,g1];simp
    omega) (fun j _=>hfr _) v3 h1c h1v t2 111 cc2.size cc.size (by simp only [World.shape?,f1]) (by simp only [World.shape?,g1]) (by omega) (hfr2 _) (hfr2 _)
  have hdl:(old'.drop (i*3)).length=(n - i)*3:=by rw [zB4,o2];omega
  have hcl:cc.toList.length=cc.size:=zC2;have hsl1:(splice cc.toList (L.sh+o+(i+1)*3) (old'.drop (i*3))).length=cc.toList.length:=zu _ _ _ (by rw [hdl];omega);have q1:Wrote w (w.drew.setCells L.blk (L.sh+o+(i+1)*3) (old'.drop (i*3))) L.blk _:=(jM (P:=Tryz.prog) (w:=w.drew) (o:=L.sh+o+(i+1)*3) g1 hdone (by rw [hdl];omega) (g6 rfl)).drew;have q2:=q1.trans (jM (P:=Tryz.prog) (o:=L.sh+o+i*3) q1.here hone2 (by rw [zE6,hsl1,v2];omega) (g6 rfl));have hsl2:(splice (splice cc.toList (L.sh+o+(i+1)*3) (old'.drop (i*3))) (L.sh+o+i*3) vs').length=cc.toList.length:=by
   rw [zu _ _ _ (by rw [hsl1,v2];omega),hsl1]
  have hB:=r.own b L _ hL hb rfl;have hle:=rk.QE ⟨L.blk,L.sh+o,c+L.slack - (n+1)⟩;have hold':∀ j,j<old'.length→cc.toList[L.sh+o+j]? = old'[j]?:=fun j hj=>by
   have h0:=o3 j _ (zA4 hj);simp only [World.cell?,g1] at h0;rw [zA4 hj,zC1];simpa using h0
  have hget:=qcR (cc:=cc.toList) (old:=old') (vs:=vs') (s:=L.sh+o) (a:=i*3) (z:=3) hold' (by omega) v2 (by rw [hcl];omega);rw [show L.sh+o+(i*3+3)=L.sh+o+(i+1)*3 by omega] at hget;obtain ⟨r2,r3⟩:=rk.view (sh:=L.sh+o) (s:=c+L.slack - (n+1)) (o:=.cells (old.take (i*3) ++ (v ++ old.drop (i*3))) 111 (some 3) false) hL (jd _ _) (fun b' L' p e1 e2 e3=>by
   rw [AH.get_put] at e2;by_cases hbb:b'=b
   ·rw [if_pos hbb] at e2;cases e2;cases e3
   ·rw [if_neg hbb] at e2;exact fun q=>hbb (r.inj b' L' p b L _ e1 e2 hL hb q e3 rfl)) hB q2 (by
   refine ⟨_,fr,q2.here,?_,fun j u hj=>?_,(fun q=>by cases q),fun k hk=>?_,g6⟩
   ·simp only [zE6,hsl2,hnl];omega
   ·have hjl:j<3*(n+1):=by rw [← hnl];exact (zD6.1 hj).1
    obtain ⟨u',p1,p2⟩:=(hnew _ hle).get j u hj;refine ⟨u',?_,p2⟩;rw [← p1,← hget j (by omega)];simp
   ·cases hk
    simp only [zE6,hsl2,hnl];omega)
  refine ⟨_,.slice (some ⟨L.blk,L.sh+o,none⟩) (n+1) (c+L.slack),_,r2,tk.trans r3 r.dom,?_,.inr ⟨hent _,fun cf cs=>?_⟩⟩
  ·have:=VR.slice (f:=e.put (h.put b .dead).next ⟨L.blk,L.sh+o,c+L.slack - (n+1)⟩) (h.put b .dead).next 0 ⟨L.blk,L.sh+o,none⟩ (n+1) (n+1) ⟨L.blk,L.sh+o,c+L.slack - (n+1)⟩ (Emb.qN _ _ _) (zA3 _) (.inl rfl)
   rw [show n+1+(c+L.slack - (n+1))=c+L.slack by omega] at this;exact this
  ·obtain ⟨en,w',fr,⟨rfl,rfl⟩,hco,-,hl⟩:=hcs (cf :: cs);exact Steps.trans hco (.one (step_leave_returned hl))
 ·
  have hcs:=KJ L.blk (L.sh+o) n (c+L.slack) i L2.blk (L2.sh+vo) (vc+L2.slack) old' vs' w hin (by omega) (by omega) (by omega) (by omega) v2 o3 v3 h1c h1v;obtain ⟨G,hG⟩:∃ G,G=grownCap w (n+1) (c+L.slack) 111:=⟨_,rfl⟩
  rw [← hG] at hcs;obtain ⟨ROW,hROW⟩:∃ ROW:Array Value,ROW=(old'.take (i*3)).toArray ++ Builtin.zeroCells #[.string ⟨#[]⟩,.string ⟨#[]⟩,.int .u8 0] (n+1 - i) ++ Builtin.zeroCells #[.string ⟨#[]⟩,.string ⟨#[]⟩,.int .u8 0] (G - (n+1)):=⟨_,rfl⟩
  rw [← hROW] at hcs;have hGn:n+1≤G:=by rw [hG];exact grownCap_ge w _ _ _
  have hRl:ROW.size=3*G:=by
   rw [hROW];simp [Builtin.zeroCells,o2]
   omega
  have hRc:ROW.toList.length=ROW.size:=zC2;have hRt:∀ j,j<i*3→ROW.toList[j]? = old'[j]?:=fun j hj=>by
   rw [hROW,zC1,Array.getElem?_append_left (by simp;omega),Array.getElem?_append_left (by simp;omega)];simp [zC7,hj]
  have hdl:(old'.drop (i*3)).length=(n - i)*3:=by rw [zB4,o2];omega
  obtain ⟨w1,hw1⟩:∃ w1,w1=(w.alloc (.cells ROW 111)).drew:=⟨_,rfl⟩
  rw [← hw1] at hcs;have p1:Pushed w w1 (.cells ROW 111 (0,0)):=by subst hw1;exact ⟨rfl,rfl,rfl,rfl⟩
  have hz:∀ j:Nat,¬ ((0,0):Nat×Nat).1≤j∨¬ j<((0,0):Nat×Nat).2:=fun j=>.inr (zB7 j);have hz:∀ j:Nat,¬ (((0,0):Nat×Nat).1≤j∧j<((0,0):Nat×Nat).2):=fun j q=>zB7 j q.2;have q1:=jM (P:=Tryz.prog) (o:=i*3) p1.new hone2 (by omega) hz;have hsl1:(splice ROW.toList (i*3) vs').length=ROW.toList.length:=zu _ _ _ (by omega);have q2:=q1.trans (jM (P:=Tryz.prog) (w:=(w1.setCells w.heap.size (i*3) vs').drew) (o:=(i+1)*3) q1.here hdone (by rw [zE6,hsl1,hdl];omega) hz).drew;have p2:=p1.wrote q2;have hsl2:(splice (splice ROW.toList (i*3) vs') ((i+1)*3) (old'.drop (i*3))).length=ROW.toList.length:=by
   rw [zu _ _ _ (by rw [hsl1,hdl];omega),hsl1]
  have hle:=rk.QE ⟨w.heap.size,0,G - (n+1)⟩;have hget:∀ j,j<3*(n+1)→(splice (splice ROW.toList (i*3) vs') ((i+1)*3) (old'.drop (i*3)))[j]? = (old'.take (i*3) ++ (vs' ++ old'.drop (i*3)))[j]?:=fun j hj=>by
   have ht:(old'.take (i*3)).length=i*3:=by rw [zA9];omega
   rw [jb _ _ _ (by rw [hsl1,hdl];omega),jb _ _ _ (by omega)];rw [zF0,ht,zF0,v2,hdl];by_cases g1:j<i*3
   ·rw [if_pos (by omega),if_pos g1,if_pos g1,zC7,if_pos g1,hRt j g1]
   ·rw [if_neg g1,if_neg g1];by_cases g2:j - i*3<3
    ·rw [if_pos (by omega),if_pos (by omega),if_pos g2]
    ·rw [if_neg (by omega),if_pos (by omega),if_neg g2];congr 1;omega
  obtain ⟨r2,r3⟩:=rk.add (s:=G - (n+1)) (o:=.cells (old.take (i*3) ++ (v ++ old.drop (i*3))) 111 (some 3) false) p2 (by
   refine ⟨_,(0,0),p2.new,?_,fun j u hj=>?_,(fun q=>by cases q),fun k hk=>?_,(fun _ j q=>by simp at q)⟩
   ·simp only [zE6,hsl2,hnl];omega
   ·have hjl:j<3*(n+1):=by rw [← hnl];exact (zD6.1 hj).1
    obtain ⟨u',p1,p2⟩:=(hnew _ hle).get j u hj;refine ⟨u',?_,p2⟩;rw [← p1,← hget j hjl];simp
   ·cases hk
    simp only [zE6,hsl2,hnl];omega)
  refine ⟨_,.slice (some ⟨w.heap.size,0,none⟩) (n+1) G,_,r2,tk.trans r3 r.dom,?_,.inr ⟨hent _,fun cf cs=>?_⟩⟩
  ·have:=VR.slice (f:=e.put (h.put b .dead).next ⟨w.heap.size,0,G - (n+1)⟩) (h.put b .dead).next 0 ⟨w.heap.size,0,none⟩ (n+1) (n+1) ⟨w.heap.size,0,G - (n+1)⟩ (Emb.qN _ _ _) (zA3 _) (.inl rfl)
   rw [show n+1+(G - (n+1))=G by omega] at this;exact this
  ·obtain ⟨en,w',fr,⟨rfl,rfl⟩,hco,-,hl⟩:=hcs (cf :: cs);exact Steps.trans hco (.one (step_leave_returned hl))
def Xd:Extern:=ZM X0 88
theorem qci [Flag]:VA Tryz.prog Xd:=Gw qft
end Go.Proofs.Xx
namespace Go.Proofs.Xx
open Go Go.RowKit Go.Shelf Go.Proofs
def renJ:Ren where
 f x:=match x with | 241=>183 | 277=>206|x=>x
 t x:=match x with | 0=>0 | 3=>3 | 5=>5 | 37=>38 | 70=>158 | 72=>160|x=>x
 g x:=match x with|x=>x
theorem laysJ:Lays.n241 Tryz.prog renJ where
 mixed:=by kernel_rfl
 f241:=by kernel_rfl
 f277:=by kernel_rfl
 t0:=by kernel_rfl
 a0:=fun w=>by rfl
 z0:=fun w=>by rfl
 v0:=fun w=>by rfl
 t3:=by kernel_rfl
 a3:=fun w=>by rfl
 z3:=fun w=>by rfl
 v3:=fun w=>by rfl
 t37:=by kernel_rfl
 a37:=fun w=>by rfl
 z37:=fun w=>by rfl
 v37:=fun w=>by rfl
 t70:=by kernel_rfl
 a70:=fun w=>by rfl
 z70:=fun w=>by rfl
 v70:=fun w=>by rfl
 t72:=by kernel_rfl
 a72:=fun w=>by rfl
 z72:=fun w=>by rfl
 v72:=fun w=>by rfl
theorem qdE:Tryz.prog.underlying (renJ.t 5)=some (.int .u8):=by kernel_rfl
theorem qfd:∀ w,(isAgg (renJ.t 5)).run Tryz.prog w = .ok false w:=fun w=>by rfl
theorem qfb:∀ w,(Go.sizeOf (renJ.t 5)).run Tryz.prog w = .ok 1 w:=fun w=>by rfl
theorem qfc:∀ w,(zeroValue (renJ.t 5)).run Tryz.prog w = .ok (.int .u8 0) w:=fun w=>by rfl
theorem qb4:(Tryz.prog.info? 5).map (·.size)=some 1:=by kernel_rfl
def wI (w:World) (b:Nat) (cs:Array Value):World:=((w.alloc (.cells cs 5)).setCell ⟨b,1,none⟩ (.slice (some ⟨w.heap.size,0,none⟩) 0 cs.size)).drew.drew.drew
set_option maxHeartbeats 4000000 in
theorem pR {b n:Nat} {q:Value} {fr:Nat×Nat} {w:World} (hb:w.heap[b]? = some (.cells #[q,.slice none 0 0] 160 fr)) (hfr:∀ i,¬ (fr.1≤i∧i<fr.2)) (hn:n≤281474976710656) :
 ∃ cs:Array Value,n≤cs.size∧Calls Tryz.prog 183 #[.pointer (some ⟨b,0,none⟩),.int .i64 n] w fun e w'=>e = .returned (.tuple #[])∧w'=wI w b cs:=by
 have L:=laysJ;obtain ⟨cs,mk,hle,-⟩:=Lib.run_makeNoZero (P:=Tryz.prog) w.drew #[renJ.t 3] (renJ.t 37) 5 L.t37 n hn;refine ⟨cs,hle,?_⟩;have hlt:b<w.heap.size:=by
  rcases zA7 b w.heap.size with k|k
  ·exact k
  ·rw [Array.getElem?_eq_none k] at hb;cases hb
 have hb2:(w.alloc (.cells cs 5)).heap[b]? = some (.cells #[q,.slice none 0 0] 160 fr):=(show (w.heap.push _)[b]? = _ by rw [Array.getElem?_push,if_neg (by omega)];exact hb)
 have hz:IntKind.i64.wrap (IntKind.i64.wrap 0+(n:Int))=n:=by
  rw [IntKind.wrap_i64,IntKind.wrap_i64];omega
 have call:(callFunc (renJ.f 277) #[.int .i64 (IntKind.i64.wrap (IntKind.i64.wrap 0+(n:Int)))]).run Tryz.prog w.drew = .ok (.value (.slice (some ⟨w.drew.heap.size,0,none⟩) n cs.size)) (w.drew.drew.drew.alloc (.cells cs 5)):=by
  rw [hz];rw [run_callFunc_extern L.f277 (by kernel_rfl) (by kernel_rfl) (by kernel_rfl) (e:=Extern.BytealgMakeNoZero.makeNoZero #[renJ.t 3] #[renJ.t 37]) (by kernel_rfl),mk];rfl
 have k1:w.drew.cell? ⟨b,1,none⟩=some (.slice none 0 0):=by
  show w.cell? ⟨b,1,none⟩=_
  unfold World.cell?;rw [hb];rfl
 have k2:(w.alloc (.cells cs 5)).cell? ⟨b,1,none⟩=some (.slice none 0 0):=by
  unfold World.cell?;rw [hb2];rfl
 have k3:(w.alloc (.cells cs 5)).frozen? ⟨b,1,none⟩=false:=by
  unfold World.frozen?;simp only [hb2];have:=hfr 1;simp only [zH2,decide_eq_false_iff_not];omega
 have cp:∀ W:World,(Builtin.copy_ #[renJ.t 37,renJ.t 37] (renJ.t 3) #[.slice (some ⟨w.heap.size,0,none⟩) 0 cs.size,.slice none 0 0]).run Tryz.prog W = .ok (goInt 0) W :=
  fun W=>run_copy_none W (renJ.t 37) (renJ.t 37) (renJ.t 3) 5 _ _ 0 cs.size 0 0 L.t37 qb4 rfl
 clear hz hfr hb hb2;have mixed:=L.mixed;have t72:=L.t72;have a72:=L.a72;have z72:=L.z72;have v72:=L.v72;have u72:=run_underlying L.t72;have t70:=L.t70;have a70:=L.a70;have z70:=L.z70;have v70:=L.v70;have u70:=run_underlying L.t70;have t37:=L.t37;have a37:=L.a37;have z37:=L.z37;have v37:=L.v37;have u37:=run_underlying L.t37;have t3:=L.t3;have a3:=L.a3;have z3:=L.z3;have v3:=L.v3;have u3:=run_underlying L.t3;have t5:=qdE;have a5:=qfd;have z5:=qfb;have v5:=qfc;have u5:=run_underlying qdE;go_enter L.f241,Body.n241_ntmps renJ
 go_wp2
 go_region_o
 all_goals (go_wp2;go_end0;exact ⟨rfl,by unfold wI;rw [World.setCell_alloc_past _ _ _ _ hlt]⟩)
def Jg (X:Extern) (f:FuncId):Extern:=fun g args h=>match Nat.beq g f,args with
 | true,[.pointer (some ⟨b,0,none⟩),.int .i64 (.ofNat n)]=>match h.get b with
  | some (.cells [q,.slice none 0 0] 160 none false)=>match Nat.ble n 281474976710656 with
   | true=>some (.tuple #[],(h.add (.cells [] 5 (some 1) false)).put b (.cells [q,.slice (some ⟨h.next,0,none⟩) 0 0] 160 none false))
   | false=>none
  | _=>none
 | _,_=>X g args h
theorem kR [Flag] {X:Extern} (hX:VA Tryz.prog X):VA Tryz.prog (Jg X 183):=by
 intro g args h u h1 hx B e w args' r hargs;unfold Jg at hx;split at hx
 rotate_left
 ·exact hX _ _ _ _ _ hx B e w args' r hargs
 rename_i b n hg
 split at hx
 rotate_left
 ·cases hx
 rename_i q hb
 split at hx
 rotate_left
 ·cases hx
 rename_i hn
 have hn:=zB6 hn;cases hx
 have:=zA6 hg;subst this;obtain ⟨p',r1,rfl,hp,hr1⟩:=hargs.cons_inv;obtain ⟨n',r2,rfl,hn',hr2⟩:=hr1.cons_inv;have:=hr2.jy;subst this;obtain ⟨L,hL,rfl⟩:=hp.zI;cases hn'
 obtain ⟨cc,fr,g1,g2,g3,g4,g5,g6⟩:=r.obj b L _ hL hb;obtain ⟨e1,e2⟩:=(g4 rfl).2 rfl;have e0:=(g4 rfl).1;obtain ⟨q',c0,vq⟩:=g3 0 q rfl;obtain ⟨s',c1,vs⟩:=g3 1 (.slice none 0 0) rfl;cases vs
 rw [e1] at c0 c1;have hcc:cc=#[q',.slice none 0 0]:=by
  apply Array.ext_getElem?
  intro i;match i with
  | 0=>exact c0
  | 1=>exact c1
  | i+2=>rw [Array.getElem?_eq_none (by rw [e2];simp),Array.getElem?_eq_none (by simp)]
 subst hcc;obtain ⟨cs,hcs,hcall⟩:=pR g1 (g6 rfl) hn;have hbn:b<h.next:=r.dom b L hL
 have p1:Pushed w (w.alloc (.cells cs 5)) (.cells cs 5 (0,0)):=⟨rfl,rfl,rfl,rfl⟩
 obtain ⟨ra,ta⟩:=r.add (s:=cs.size) (o:=.cells [] 5 (some 1) false) p1 ⟨cs,(0,0),p1.new,by simp,fun i v hi=>by simp at hi,(fun k=>by cases k),(fun k hk=>by cases hk;simp),(fun _ i k=>by simp at k)⟩;have hL2:=r.QE ⟨w.heap.size,0,cs.size⟩ b L hL;have gb:(w.alloc (.cells cs 5)).heap[L.blk]? = some (.cells #[q',.slice none 0 0] 160 fr):=(p1.old _ (r.rng b L hL)).trans g1;have wr:=jM (P:=Tryz.prog) (o:=1) (vs:=[.slice (some ⟨w.heap.size,0,none⟩) 0 cs.size]) gb rfl (by simp) (g6 rfl);have wr2:Wrote (w.alloc (.cells cs 5)) (wI w L.blk cs) L.blk (.cells #[q',.slice (some ⟨w.heap.size,0,none⟩) 0 cs.size] 160 fr):=⟨wr.here,wr.other,wr.size,wr.os,wr.tape,wr.output⟩
 have hsl:VR (e.put h.next ⟨w.heap.size,0,cs.size⟩) (.slice (some ⟨h.next,0,none⟩) 0 0) (.slice (some ⟨w.heap.size,0,none⟩) 0 cs.size):=by
  have:=VR.slice (f:=e.put h.next ⟨w.heap.size,0,cs.size⟩) h.next 0 ⟨w.heap.size,0,none⟩ 0 0 ⟨w.heap.size,0,cs.size⟩ (Emb.qN _ _ _) (zA3 _) (.inl rfl)
  rw [zG1] at this;exact this
 obtain ⟨rp,tp⟩:=ra.put (o':=.cells [q,.slice (some ⟨h.next,0,none⟩) 0 0] 160 none false) hL2 (show (h.add _).get b=some _ by rw [AH.qW,if_neg (by omega)];exact hb) rfl wr2 (by
  refine ⟨_,fr,wr2.here,by rw [e1];simp,fun i v hi=>?_,fun _=>⟨e0,fun _=>⟨e1,by simp⟩⟩,(fun k hk=>by cases hk),g6⟩;rw [e1,zG1];match i,hi with
  | 0,hi=>cases hi;exact ⟨q',rfl,vq.mono (r.QE _)⟩
  | 1,hi=>cases hi;exact ⟨_,rfl,hsl⟩) (fun _=>rfl)
 refine ⟨_,.tuple #[],wI w L.blk cs,rp,ta.trans tp r.dom,VR.tuple [] [] .nil,.inr ⟨Go.Proofs.enters_of laysJ.f241 (by kernel_rfl) rfl _ _,fun c k=>?_⟩⟩;obtain ⟨en,w',fr',⟨rfl,rfl⟩,hco,-,hl⟩:=hcall (c :: k);rw [e1];exact Steps.trans hco (.one (step_leave_returned hl))
end Go.Proofs.Xx
