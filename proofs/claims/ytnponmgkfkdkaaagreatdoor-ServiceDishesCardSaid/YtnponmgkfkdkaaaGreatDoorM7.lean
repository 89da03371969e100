/-
  Known functions: strings compared,slices that lie apart.
-/
import Derived.Test.YtnponmgkfkdkaaaGreatDoorM6
import Derived.Lib.Overlaps
import Derived.Shelf.Strings.Search2
import Derived.Shelf.Strconv.Itoa1
import Derived.Test.YtnponmgkfkdkaaaGreatDoorProg
import Derived.KernelRfl
import Derived.WalkKit
import Derived.Lib.Walk
import Derived.Lib.SliceRun
import Derived.Lib.JoinLaws
import Derived.Lib.AppendZeros
import Derived.Lib.AppendZerosOnto
import Derived.Laws.NewBlocks
import Derived.Laws.Externs
import Derived.Laws.IdiomCopy
import Derived.Shelf.RegionOpenPlain
import Derived.Shelf.Strings.BuilderX
import Derived.Lib.MakeNoZero
import Derived.Test.YtnponmgkfkdkaaaGreatDoorM4
import Derived.Test.YtnponmgkfkdkaaaGreatDoorM5
set_option linter.unusedSectionVars false
set_option linter.unusedSimpArgs false
set_option linter.unusedVariables false
set_option maxRecDepth 1000000
namespace Go.Proofs.Xx
open Go Go.RowKit
def kV (X:Extern) (n:Nat):Extern:=fun g args h=>match Nat.beq g n,args with
 | true,[.string a,.string b]=>some (.int .i64 (Lib.compareBytes a.data.toList b.data.toList),h)
 | _,_=>X g args h
theorem qas [Glob] {P:Program} {X:Extern} (hX:Yl P X) {n:Nat} {f1:Func} (h1:P.funcs[n]? = some f1) (n1:(f1.name == "runtime.NumGoroutine")=false) (b1:f1.body.isNone=true) (m1:Extern.findNext f1=none) (e1:Extern.find f1=some Extern.BytealgCompare.compare):Yl P (kV X n):=by
 intro f args h v h' hx B e w args' r hargs;unfold kV at hx;split at hx
 ·rename_i s c hf
  cases hx
  have:=zA6 hf;subst this;obtain ⟨x',r',rfl,hx',hr'⟩:=hargs.cons_inv;obtain ⟨y',r2,rfl,hy',hr2⟩:=hr'.cons_inv;have:=hr2.jv;subst this;cases hx';cases hy'
  refine ⟨e,_,w,r,Turn.refl _ _ _,.int _ _,.inl ?_⟩;rw [run_callFunc_extern h1 n1 b1 m1 e1,Lib.run_compareString];rfl
 ·exact hX _ _ _ _ _ hx B e w args' r hargs
def qe4 (x y:Value) (h:AH):Bool :=
 match x,y with
 | .slice _ 0 _,.slice _ _ _=>true
 | .slice _ _ _,.slice _ 0 _=>true
 | .slice (some ⟨b,_,none⟩) _ _,.slice (some ⟨b',_,none⟩) _ _=>match Nat.beq b b',h.get b,h.get b' with
  | false,some (.cells _ _ _ false),some (.cells (_ :: _) _ _ false)=>true
  | _,_,_=>false
 | _,_=>false
def kS (X:Extern) (n:Nat):Extern:=fun g args h=>match Nat.beq g n,args with
 | true,[x,y]=>match qe4 x y h with
  | true=>some (.bool false,h)
  | false=>none
 | _,_=>X g args h
theorem Jc {P:Program} (w:World) (tS tR e:TypeId) (ht:P.underlying tS=some (.slice e)) (size:Nat) (hz:∀ w,(Go.sizeOf e).run P w = .ok size w) (a b:Option Addr) (la ca lb cb:Nat) (h0:la=0∨lb=0) :
 (Extern.SlicesOverlaps.overlaps #[tS,tS] #[tR] #[.slice a la ca,.slice b lb cb]).run P w = .ok (.bool false) w:=by
 change Sem.run P (α:=Value) (do
  let some t:=(#[tS,tS]:Array TypeId)[0]?|stuck "slices.overlaps: no parameter types"
  let .slice elem ← underlying t|stuck "slices.overlaps: slice type expected"
  let size ← sizeOf elem
  match a,b with
  | some a,some b =>
   if la=0∨lb=0∨size=0 then pure (Value.bool false)
   else if a.block != b.block && (← frozen a) && (← frozen b) then unsupported .addressObserved
   else do
    if a.block != b.block then do
     noView a;noView b
     if ← mayBeOne a b then return Value.bool ((← choose (.extern "sameAddr.stringBytes" 2)) == 1)
    pure (Value.bool (a.block == b.block && a.off<b.off+lb*size && b.off<a.off+la*size))
  | _,_=>pure (Value.bool false)) w=_
 have h1:la=0∨lb=0∨size=0:=by rcases h0 with h|h;exact .inl h;exact .inr (.inl h)
 cases a with
 | none=>simp [run_underlying ht,hz]
 | some a=>cases b with
  | none=>simp [run_underlying ht,hz]
  | some b=>simp [run_underlying ht,hz,h1]
theorem qap [Glob] {P:Program} {X:Extern} (hX:Yl P X) {n:Nat} {f1:Func} {tS tR el:TypeId} {size:Nat} (h1:P.funcs[n]? = some f1) (n1:(f1.name == "runtime.NumGoroutine")=false) (b1:f1.body.isNone=true) (m1:Extern.findNext f1=none)
 (e1:Extern.find f1=some (Extern.SlicesOverlaps.overlaps #[tS,tS] #[tR])) (ht:P.underlying tS=some (.slice el)) (hz:∀ w,(Go.sizeOf el).run P w = .ok size w):Yl P (kS X n):=by
 intro f args h v h' hx B e w args' r hargs;unfold kS at hx;split at hx
 ·rename_i x y hf
  split at hx
  rotate_left
  ·cases hx
  rename_i hap
  cases hx
  have:=zA6 hf;subst this;obtain ⟨x',r',rfl,hx',hr'⟩:=hargs.cons_inv;obtain ⟨y',r2,rfl,hy',hr2⟩:=hr'.cons_inv;have:=hr2.jv;subst this;have key:(Extern.SlicesOverlaps.overlaps #[tS,tS] #[tR] #[x',y']).run P w = .ok (.bool false) w:=by
   unfold qe4 at hap;split at hap
   ·cases hx'<;>cases hy'<;>exact Jc w tS tR el ht size hz _ _ _ _ _ _ (.inl rfl)
   ·cases hx'<;>cases hy'<;>exact Jc w tS tR el ht size hz _ _ _ _ _ _ (.inr rfl)
   ·rename_i b o la ca b' o' lb cb q1 q2
    split at hap
    ·rename_i c1 t1 s1 x0 c2 t2 s2 hne hb1 hb2
     cases hx' with
     | slice _ _ a _ _ L hL hl ho =>
     cases hy' with
     | slice _ _ a' _ _ L' hL' hl' ho' =>
     have hla:la≠0:=fun q=>q1 q;have hlb:lb≠0:=fun q=>q2 q;obtain rfl:a=⟨L.blk,L.sh+o,none⟩:=by rcases ho with ho|ho;exact ho;omega
     obtain rfl:a'=⟨L'.blk,L'.sh+o',none⟩:=by rcases ho' with ho|ho;exact ho;omega
     have o1:=r.obj _ _ _ hL hb1;have o2:=r.obj _ _ _ hL' hb2;obtain ⟨cc,fr,g1,g2,g3,g4,g5,g6⟩:=o1;obtain ⟨cc',fr',k1,k2,k3,k4,k5,k6⟩:=o2;have hblk:L.blk≠L'.blk:=fun q=>by
      have:=r.inj _ _ _ _ _ _ hL hb1 hL' hb2 q rfl rfl;subst this;simp at hne
     refine Lib.run_overlaps_apart w tS tR el ht size hz _ _ la _ lb _ hblk t1 t2 cc.size cc'.size ?_ ?_ ?_ ?_ ?_
     ·simp only [World.shape?,g1]
     ·simp only [World.shape?,k1]
     ·simp at k2;omega
     ·have:=g6 rfl (L.sh+o);unfold World.frozen?;simp only [g1];simp only [zH1,decide_eq_false_iff_not];omega
     ·have:=g6 rfl cc.size;unfold World.frozen?;simp only [g1];simp only [zH1,decide_eq_false_iff_not];omega
    ·cases hap
   ·cases hap
  refine ⟨e,_,w,r,Turn.refl _ _ _,.bool _,.inl ?_⟩;rw [run_callFunc_extern h1 n1 b1 m1 e1,key];rfl
 ·exact hX _ _ _ _ _ hx B e w args' r hargs
end Go.Proofs.Xx
namespace Go.Proofs.Xx
open Go Go.RowKit Go.Shelf
class Flag where
 b:Bool
instance flagOn:Flag:=⟨true⟩
def qj3:Ren where
 f x:=match x with | 217=>181 | 219=>127 | 224=>183 | 225=>182 | 266=>247 | 267=>184 | 314=>248|x=>x
 t x:=match x with | 3=>3 | 4=>4 | 5=>5 | 9=>9 | 46=>121 | 51=>161 | 146=>257|x=>x
 g x:=match x with | 1=>0|x=>x
theorem laysX:Lays.n219 Tryz.prog qj3 where
 mixed:=by kernel_rfl
 f217:=by kernel_rfl
 f219:=by kernel_rfl
 f224:=by kernel_rfl
 f225:=by kernel_rfl
 f266:=by kernel_rfl
 f267:=by kernel_rfl
 f314:=by kernel_rfl
 t3:=by kernel_rfl
 a3:=fun w=>by rfl
 z3:=fun w=>by rfl
 v3:=fun w=>by rfl
 t4:=by kernel_rfl
 a4:=fun w=>by rfl
 z4:=fun w=>by rfl
 v4:=fun w=>by rfl
 t5:=by kernel_rfl
 a5:=fun w=>by rfl
 z5:=fun w=>by rfl
 v5:=fun w=>by rfl
 t9:=by kernel_rfl
 a9:=fun w=>by rfl
 z9:=fun w=>by rfl
 v9:=fun w=>by rfl
 t46:=by kernel_rfl
 a46:=fun w=>by rfl
 z46:=fun w=>by rfl
 v46:=fun w=>by rfl
 t51:=by kernel_rfl
 a51:=fun w=>by rfl
 z51:=fun w=>by rfl
 v51:=fun w=>by rfl
 t146:=by kernel_rfl
 a146:=fun w=>by rfl
 z146:=fun w=>by rfl
 v146:=fun w=>by rfl
 g1:=by kernel_rfl
def qj4:Ren where
 f x:=match x with | 129=>146 | 284=>280 | 317=>336 | 318=>337|x=>x
 t x:=match x with | 0=>0 | 3=>3 | 4=>4 | 5=>5 | 9=>9 | 46=>121 | 53=>183 | 212=>310|x=>x
 g x:=match x with | 17=>1|x=>x
theorem laysD:LaysM.n284 Tryz.prog qj4 where
 mixed:=by kernel_rfl
 f129:=by kernel_rfl
 f284:=by kernel_rfl
 f317:=by kernel_rfl
 f318:=by kernel_rfl
 t0:=by kernel_rfl
 a0:=fun w=>by rfl
 z0:=fun w=>by rfl
 v0:=fun w=>by rfl
 t3:=by kernel_rfl
 a3:=fun w=>by rfl
 z3:=fun w=>by rfl
 v3:=fun w=>by rfl
 t4:=by kernel_rfl
 a4:=fun w=>by rfl
 z4:=fun w=>by rfl
 v4:=fun w=>by rfl
 t5:=by kernel_rfl
 a5:=fun w=>by rfl
 z5:=fun w=>by rfl
 v5:=fun w=>by rfl
 t9:=by kernel_rfl
 a9:=fun w=>by rfl
 z9:=fun w=>by rfl
 v9:=fun w=>by rfl
 t46:=by kernel_rfl
 a46:=fun w=>by rfl
 z46:=fun w=>by rfl
 v46:=fun w=>by rfl
 t53:=by kernel_rfl
 a53:=fun w=>by rfl
 z53:=fun w=>by rfl
 v53:=fun w=>by rfl
 t212:=by kernel_rfl
 a212:=fun w=>by rfl
 z212:=fun w=>by rfl
 v212:=fun w=>by rfl
 g17:=by kernel_rfl
 i0:=by kernel_rfl
 i3:=by kernel_rfl
 i4:=by kernel_rfl
 i5:=by kernel_rfl
 i9:=by kernel_rfl
 i46:=by kernel_rfl
 i53:=by kernel_rfl
 i212:=by kernel_rfl
 m17:=by kernel_rfl
instance globBook [Flag]:Glob:=⟨fun lo ref=>1<lo∧(∃ m el fr,ref[0]? = some (.cells #[.int .i64 m] el fr))∧(Flag.b=true→∃ el fr,ref[1]? = some (.cells (Lib.pow10Tab.map fun z=>Value.int .u64 z).toArray el fr))⟩
theorem qhx:Tryz.prog.globalNamed "internal/strconv.uint64pow10" = some 1:=by kernel_rfl
theorem qez [Flag] {B:Bs} {e:Emb} {h:AH} {w:World} (r:Rel B e h w):∃ m,w.cell? ⟨0,0,none⟩=some (.int .i64 m):=by
 obtain ⟨h1,⟨m,el,fr,h2⟩,-⟩:=r.glob;have h3:=(r.keep 0 (by omega)).trans h2;refine ⟨m,?_⟩;unfold World.cell?;simp only [h3];rfl
theorem qex [Flag] {B:Bs} {e:Emb} {h:AH} {w:World} (r:Rel B e h w) (hf:Flag.b=true):Lib.TabIs Tryz.prog w "internal/strconv.uint64pow10" .u64 Lib.pow10Tab:=by
 obtain ⟨h1,-,h2⟩:=r.glob;obtain ⟨el,fr,h2⟩:=h2 hf;have h3:=(r.keep 1 (by omega)).trans h2;unfold Lib.TabIs World.var?;rw [qhx];simp only [Option.bind_some,h3]
def kU (X:Extern) (f:FuncId):Extern:=fun g args h=>match Nat.beq g f,args with
 | true,[.string s,.string t]=>if s.data.toList.length<4294967281 then some (.int .i64 (Lib.index s.data.toList t.data.toList),h) else none
 | _,_=>X g args h
theorem qar [Flag] {X:Extern} (hX:Yl Tryz.prog X):Yl Tryz.prog (kU X 127):=by
 intro g args h u h1 hx B e w args' r hargs;unfold kU at hx;split at hx
 ·rename_i s t hg
  have:=zA6 hg;subst this;split at hx
  rotate_left
  ·cases hx
  rename_i hz
  cases hx
  obtain ⟨x',r',rfl,hx',hr'⟩:=hargs.cons_inv;obtain ⟨y',r2,rfl,hy',hr2⟩:=hr'.cons_inv;have:=hr2.jv;subst this;cases hx';cases hy'
  obtain ⟨m,hm⟩:=qez r;refine ⟨e,_,w,r,Turn.refl _ _ _,.int _ _,.inr ⟨?_,fun c cs=>?_⟩⟩
  ·exact Go.Proofs.enters_of laysX.f219 (by kernel_rfl) rfl _ _
  ·have hc:=Any.stringslite_Index laysX s t m w (by simpa using hz) hm (c :: cs);obtain ⟨en,w',fr,⟨rfl,rfl⟩,hco,-,hl⟩:=hc;exact Steps.trans hco (.one (step_leave_returned hl))
 ·exact hX _ _ _ _ _ hx B e w args' r hargs
def Yx [Flag] (X:Extern) (f:FuncId):Extern:=fun g args h=>match Nat.beq g f,args with
 | true,[.int .u64 u]=>if Flag.b=true∧1≤u∧u<18446744073709551616 then some (.int .i64 (Lib.nDigits u.toNat),h) else none
 | _,_=>X g args h
theorem vH [Flag] {X:Extern} (hX:Yl Tryz.prog X):Yl Tryz.prog (Yx X 280):=by
 intro g args h u h1 hx B e w args' r hargs;unfold Yx at hx;split at hx
 ·rename_i z hg
  have:=zA6 hg;subst this;split at hx
  rotate_left
  ·cases hx
  rename_i hz
  cases hx
  obtain ⟨x',r',rfl,hx',hr'⟩:=hargs.cons_inv;have:=hr'.jv;subst this;cases hx'
  refine ⟨e,.int .i64 (Lib.nDigits z.toNat),w,r,Turn.refl _ _ _,.int _ _,.inr ⟨?_,fun c cs=>?_⟩⟩
  ·exact Go.Proofs.enters_of laysD.f284 (by kernel_rfl) rfl _ _
  ·have hc:=Any.internal_strconv_numDigits laysD z.toNat (by omega) (by omega) w (qex r hz.1) (c :: cs);rw [show ((z.toNat:Nat):Int)=z by omega] at hc;obtain ⟨en,w',fr,⟨rfl,rfl⟩,hco,-,hl⟩:=hc;exact Steps.trans hco (.one (step_leave_returned hl))
 ·exact hX _ _ _ _ _ hx B e w args' r hargs
theorem PE [Flag]:Yl Tryz.prog (QZ 186) :=
 Vm Tryz.func186 (by kernel_rfl) (by kernel_rfl) (by kernel_rfl) (by kernel_rfl)
theorem Jt (f:FuncId) (fn:Func) (h:Tryz.prog.funcs[f]? = some fn) (hb:fn.body.isSome=true):(fn.name == "runtime.NumGoroutine")=false:=by
 have h0:Tryz.prog.funcs.all (fun fn=>!(fn.name == "runtime.NumGoroutine"))=true:=by kernel_rfl
 have:=Array.all_eq_true_iff_forall_mem.1 h0 fn (Array.mem_of_getElem? h);simpa using this
theorem follows:Tryz.prog.follows .mixedOrders=true:=by kernel_rfl
def X0:Extern:=kU (kS (kV (withBytes (QZ 186) 65 247) 378) 375) 127
theorem qjK [Flag]:Yl Tryz.prog X0 :=
 qar <| qap (tS:=24) (tR:=4) (el:=198) (size:=3) (qas (kW PE Tryz.func65 Tryz.func247 (by kernel_rfl) (by kernel_rfl) (by kernel_rfl) (by kernel_rfl) (by kernel_rfl) (by kernel_rfl) (by kernel_rfl) (by kernel_rfl))
  Tryz.func378 (by kernel_rfl) (by kernel_rfl) (by kernel_rfl) (by kernel_rfl)) Tryz.func375 (by kernel_rfl) (by kernel_rfl) (by kernel_rfl) (by rfl) (by kernel_rfl) (fun w=>by rfl)
end Go.Proofs.Xx
namespace Go.Proofs.Xx
open Go Go.RowKit Go.Lib Go.Proofs
section
variable {P:Program}
theorem qdt (w:World) {o:Oper} {a:Act} {K:Act→World→Prop} {Q:Exit→Act→World→Prop} (d s:Operand) (t t':TypeId)
 (ho:o.op = .call { callee:=.builtin .copy,args:=#[d,s],argTypes:=#[t,t'] }) (v u:Value) (hd:a.eval d=v) (hs:a.eval s=u) {v':Value} {w':World}
 (hr:(Builtin.copy_ #[t,t'] o.type #[v,u]).run P w = .ok v' w') (h:K (a.put o.dst v') w'):o.wp P a w K Q:=by
 unfold Oper.wp execOp;simp only [ho,resolve,invoke,builtin,zA5,zB1,zA1,List.map_toArray,List.map_cons,List.map_nil,hd,hs,hr];exact h
theorem J3 (w:World) {ops:Array Oper} {rest:List Oper} {o:Oper} {a:Act} {Q:Exit→Act→World→Prop} (hgd:o.guard=none) (d s:Operand) (t t':TypeId)
 (ho:o.op = .call { callee:=.builtin .copy,args:=#[d,s],argTypes:=#[t,t'] }) (v u:Value) (hd:a.eval d=v) (hs:a.eval s=u) {v':Value} {w':World}
 (hr:(Builtin.copy_ #[t,t'] o.type #[v,u]).run P w = .ok v' w') (h:wpList P ops Q rest (a.put o.dst v') w'):wpList P ops Q (o :: rest) a w :=
 wpList_plain hgd fun _ hK=>qdt w d s t t' ho v u hd hs hr (hK _ _ h)
theorem xC {ops:Array Oper} {o:Oper} {a:Act} {w:World} {K:Act→World→Prop} {Q:Exit→Act→World→Prop} {E:Prop}
 (hg:o.guard=none) (d x:Operand) (dT sT:TypeId) (hop:o.op=Op.call { callee:=Callee.builtin Builtin.copy,args:=#[d,x],argTypes:=#[dT,sT] })
 (v u:Value) (hd:a.eval d=v) (hx:a.eval x=u) {v':Value} {w':World} (hr:(Builtin.copy_ #[dT,sT] o.type #[v,u]).run P w = .ok v' w') (hK:K (a.put o.dst v') w') :
 if Region.wanted o (yielded ops a.tmps)=true then Oper.wp P o a w K Q else E:=by
 have hw:Region.wanted o (yielded ops a.tmps)=true:=by simp [Region.wanted,hg]
 rw [if_pos hw];unfold Oper.wp;simp [execOp,hop,resolve,invoke,builtin,hd,hx,hr,Result.andThen]
 exact hK
theorem isSome_setCells (b:Nat) (vs:List Value) (o:Nat) (w:World) (h:∀ j,j<vs.length→(w.cell? ⟨b,o+j,none⟩).isSome=true) (k:Nat) (hk:(w.cell? ⟨b,k,none⟩).isSome=true):((w.setCells b o vs).cell? ⟨b,k,none⟩).isSome=true:=by
 by_cases hin:o≤k∧k<o+vs.length
 ·have:=World.cell?_setCells_in b vs o w h (k - o) (by omega);rw [show o+(k - o)=k by omega] at this;rw [this];rfl
 ·rw [World.cell?_setCells_out b vs o w ⟨b,k,none⟩ (fun _ _=>by show k<o∨o+vs.length≤k;omega)];exact hk
theorem Ze (w:World) (dT sT ty elem:TypeId) (z b o dLen dCap:Nat) (a:Addr) (sLen sCap:Nat) (cs:List Value)
 (hu:P.underlying dT=some (.slice elem)) (hs:(P.info? elem).map (·.size)=some z) (hn:cs.length=Nat.min sLen dLen*z)
 (hsrc:∀ j v,cs[j]? = some v→w.cell? (a.add j)=some v) (hc:∀ j,j<cs.length→(w.cell? ⟨b,o+j,none⟩).isSome=true) (hf:∀ j,j<cs.length→w.frozen? ⟨b,o+j,none⟩=false) (h1:∀ v∈cs,v.oneCell'=true) :
 (Builtin.copy_ #[dT,sT] ty #[.slice (some ⟨b,o,none⟩) dLen dCap,.slice (some a) sLen sCap]).run P w = .ok (goInt (Nat.min sLen dLen)) (w.setCells b o cs):=by
 have hl:=run_loadCells_list (P:=P) w a cs hsrc;have hst:=run_storeCells_cells (P:=P) b o cs 0 w (by simpa using hc) (by simpa using hf) h1;cases hq:P.info? elem with
 | none=>simp [hq] at hs
 | some i =>
  have hi:i.size=z:=by simpa [hq] using hs
  simp [Builtin.copy_,run_underlying hu,Builtin.lenOf,Builtin.firstCells,sizeOf,typeInfo,hq,hi,← hn,hl,hst]
end
set_option maxHeartbeats 4000000 in
set_option maxRecDepth 100000 in
theorem KP (b off n c i vb voff vc:Nat) (cs vs:List Value) (w:World) (hi:i<n) (hroom:n+1≤c) (hn63:n≤140737488355328) (hvb:vb≠b)
 (hcl:cs.length=3*n) (hvl:vs.length=3)
 (hcs:∀ j v,cs[j]? = some v→w.cell? ⟨b,off+j,none⟩=some v) (hsp:∀ j,j<3*(n+1)→(w.cell? ⟨b,off+j,none⟩).isSome=true) (hfz:∀ j,j<3*(n+1)→w.frozen? ⟨b,off+j,none⟩=false)
 (hvs:∀ j v,vs[j]? = some v→w.cell? ⟨vb,voff+j,none⟩=some v) (h1c:∀ v∈cs,v.oneCell'=true) (h1v:∀ v∈vs,v.oneCell'=true)
 (tA tB:TypeId) (kA kB:Nat) (hsa:w.shape? vb=some (tA,kA)) (hsb:w.shape? b=some (tB,kB)) (hkB:kB≠0) (hfa:w.frozen? ⟨vb,voff,none⟩=false) (hfe:w.frozen? ⟨vb,kA,none⟩=false) :
 Calls Tryz.prog 364 #[.slice (some ⟨b,off,none⟩) n c,.int .i64 i,.slice (some ⟨vb,voff,none⟩) 1 vc] w fun e w' =>
  e = .returned (.slice (some ⟨b,off,none⟩) (n+1) c)∧w'=(w.drew.setCells b (off+(i+1)*3) (cs.drop (i*3))).setCells b (off+i*3) vs:=by
 have u30:=Tryz.underlying24;have mixed:=follows;have hz1:¬ ((1:Int)=0):=by omega
 have hz2:¬ ((i:Int)=(n:Int)):=by omega
 have hsz:(Tryz.prog.info? 198).map (·.size)=some 3:=by kernel_rfl
 have hov:∀ lb cb,(callFunc 375 #[.slice (some ⟨vb,voff,none⟩) 1 vc,.slice (some ⟨b,off+(i+1)*3,none⟩) lb cb]).run Tryz.prog w = .ok (.value (.bool false)) w:=fun lb cb=>by
  rw [run_callFunc_extern Tryz.func375 (by kernel_rfl) (by kernel_rfl) (by kernel_rfl) (e:=Extern.SlicesOverlaps.overlaps #[24,24] #[4]) (by rfl),
   Lib.run_overlaps_apart w 24 4 198 u30 3 (fun w=>by rfl) ⟨vb,voff,none⟩ ⟨b,off+(i+1)*3,none⟩ 1 vc lb cb hvb tA tB kA kB hsa hsb hkB hfa hfe]
  rfl
 have hdl:(cs.drop (i*3)).length=(n - i)*3:=by rw [zB4,hcl];omega
 have hw1:IntKind.i64.wrap ((i:Int)+1)=(i:Int)+1:=by rw [IntKind.wrap_i64];omega
 have hw2:IntKind.i64.wrap ((n:Int)+1)=(n:Int)+1:=by rw [IntKind.wrap_i64];omega
 have hcp1:∀ ty dc sc,(Builtin.copy_ #[24,24] ty #[.slice (some ⟨b,off+(i+1)*3,none⟩) (n - i) dc,.slice (some ⟨b,off+i*3,none⟩) (n+1 - i) sc]).run Tryz.prog w.drew = .ok (goInt (Nat.min (n+1 - i) (n - i))) (w.drew.setCells b (off+(i+1)*3) (cs.drop (i*3))):=fun ty dc sc =>
  Ze w.drew _ _ ty 198 3 b (off+(i+1)*3) (n - i) dc ⟨b,off+i*3,none⟩ (n+1 - i) sc (cs.drop (i*3)) u30 hsz (by rw [hdl];simp only [Nat.min_def];split<;>omega)
   (fun j v hj=>by rw [Addr.add_lit,zF7];exact hcs (i*3+j) v (by rwa [zC3] at hj))
   (fun j hj=>by rw [zF7];exact hsp _ (by omega)) (fun j hj=>by rw [zF7];exact hfz _ (by omega)) (fun v hv=>h1c v (List.mem_of_mem_drop hv))
 obtain ⟨W1,hW1⟩:∃ W1,W1=w.drew.setCells b (off+(i+1)*3) (cs.drop (i*3)):=⟨_,rfl⟩
 have hsp1:∀ k,k<3*(n+1)→(W1.cell? ⟨b,off+k,none⟩).isSome=true:=fun k hk=>by
  rw [hW1];exact isSome_setCells b _ _ _ (fun j hj=>by rw [zF7];exact hsp _ (by omega)) _ (hsp k hk)
 have hcp2:∀ (W:World),(∀ x,W.cell? x=W1.cell? x)→(∀ x,W.frozen? x=W1.frozen? x)→∀ ty dc,(Builtin.copy_ #[24,24] ty #[.slice (some ⟨b,off+i*3,none⟩) (n+1 - i) dc,.slice (some ⟨vb,voff,none⟩) 1 vc]).run Tryz.prog W = .ok (goInt (Nat.min 1 (n+1 - i))) (W.setCells b (off+i*3) vs):=fun W hWc hWf ty dc =>
  Ze W _ _ ty 198 3 b (off+i*3) (n+1 - i) dc ⟨vb,voff,none⟩ 1 vc vs u30 hsz (by rw [hvl];simp only [Nat.min_def];split<;>omega)
   (fun j v hj=>by
    rw [Addr.add_lit,hWc,hW1,World.cell?_setCells_out b _ _ _ _ (fun h _=>absurd h hvb)];exact hvs j v hj)
   (fun j hj=>by rw [hWc,zF7];exact hsp1 _ (by omega)) (fun j hj=>by rw [hWf,hW1,World.frozen?_setCells,zF7];exact hfz _ (by omega)) h1v
 rw [← hW1] at hcp1;have hb1:(0:Int)≤(i:Int)+1:=by omega
 have hin:i≤n:=by omega
 have htn:((i:Int)+1).toNat=i+1:=by omega
 have hb2:¬ (c=i+1):=by omega
 have hb3:(i:Int)≤(n:Int)+1:=by omega
 have hb4:¬ (c=i):=by omega
 go_enter Tryz.func364,Tryz.ntmps364
 go_wp2_with (simp only [hov])
 go_region_law_o (refine xC rfl _ _ 24 24 rfl _ _ (by simp [Act.eval,Act.put]) (by simp [Act.eval,Act.put]) (hcp1 _ _ _) ?_)
 go_wp2_with (at_builtin;refine J3 _ rfl _ _ 24 24 rfl _ _ rfl rfl (hcp2 _ (fun _=>rfl) (fun _=>rfl) _ _) ?_)
 go_ret
 first|exact ⟨rfl,rfl⟩|exact ⟨rfl,by rw [hW1]⟩
set_option maxHeartbeats 4000000 in
set_option maxRecDepth 100000 in
theorem PQ (b off n c i vb voff vc:Nat) (cs vs:List Value) (w:World) (hi:i<n) (hnc:n≤c) (hroom:c<n+1) (hbig:(n+1)*40≤140737488355328)
 (hcl:cs.length=3*n) (hvl:vs.length=3)
 (hcs:∀ j v,cs[j]? = some v→w.cell? ⟨b,off+j,none⟩=some v)
 (hvs:∀ j v,vs[j]? = some v→w.cell? ⟨vb,voff+j,none⟩=some v) (h1c:∀ v∈cs,v.oneCell'=true) (h1v:∀ v∈vs,v.oneCell'=true) :
 Calls Tryz.prog 364 #[.slice (some ⟨b,off,none⟩) n c,.int .i64 i,.slice (some ⟨vb,voff,none⟩) 1 vc] w fun e w' =>
  e = .returned (.slice (some ⟨w.heap.size,0,none⟩) (n+1) (grownCap w (n+1) c 198)) ∧
  w'=(((w.alloc (.cells ((cs.take (i*3)).toArray ++ Builtin.zeroCells #[.string ⟨#[]⟩,.string ⟨#[]⟩,.int .u8 0] (n+1 - i) ++ Builtin.zeroCells #[.string ⟨#[]⟩,.string ⟨#[]⟩,.int .u8 0] (grownCap w (n+1) c 198 - (n+1))) 198)).drew.setCells w.heap.size (i*3) vs).drew).setCells w.heap.size ((i+1)*3) (cs.drop (i*3)):=by
 have u30:=Tryz.underlying24;have u3:=Tryz.underlying3;obtain ⟨i0,hi0,hz0,hzs,hzb⟩:∃ i0:TypeInfo,Tryz.prog.info? 198=some i0∧i0.zero=some (.agg #[.string ⟨#[]⟩,.string ⟨#[]⟩,.int .u8 0])∧i0.size=3∧i0.bytes=40:=⟨_,rfl,rfl,rfl,rfl⟩
 have hz1:¬ ((1:Int)=0):=by omega
 have hz2:¬ ((i:Int)=(n:Int)):=by omega
 have hz3:(c:Int)<(n:Int)+1:=by omega
 have hsz:(Tryz.prog.info? 198).map (·.size)=some 3:=by rw [hi0];simp [hzs]
 have hbw:b<w.heap.size:=block_lt_of_cell (hcs 0 _ (zA4 (by omega)));have hvw:vb<w.heap.size:=block_lt_of_cell (hvs 0 _ (zA4 (by omega)));have hkk:(n:Int)+1 - (i:Int)=((n+1 - i:Nat):Int):=by omega
 have hik:i+(n+1 - i)=n+1:=by omega
 have hold:(Builtin.firstCells i0.size i (.slice (some ⟨b,off,none⟩) i c)).run Tryz.prog w.drew = .ok (cs.take (i*3)).toArray w.drew:=by
  rw [hzs];exact run_firstCells_some w.drew 3 i ⟨b,off,none⟩ i c (cs.take (i*3)) (by rw [zA9];omega) (fun j v hj=>by
   rw [Addr.add_lit];rw [zC7] at hj;split at hj
   ·exact hcs j v hj
   ·cases hj)
 have hrz:∀ ty,(Builtin.append_ #[24,3] ty #[.slice (some ⟨b,off,none⟩) i c,.int .i64 ((n:Int)+1 - (i:Int))]).run Tryz.prog w =
  .ok (.slice (some ⟨w.heap.size,0,none⟩) (n+1) (grownCap w (n+1) c 198)) (w.drew.alloc (.cells ((cs.take (i*3)).toArray ++ Builtin.zeroCells #[.string ⟨#[]⟩,.string ⟨#[]⟩,.int .u8 0] (n+1 - i) ++ Builtin.zeroCells #[.string ⟨#[]⟩,.string ⟨#[]⟩,.int .u8 0] (grownCap w (n+1) c 198 - (n+1))) 198)):=fun ty=>by
  have h:=Lib.run_append_grow_zeros w 24 3 ty 198 i0 _ .i64 .i64 u30 u3 hi0 hz0 (some ⟨b,off,none⟩) i c (cs.take (i*3)) hold (n+1 - i) (by omega) (by omega) (by omega) (by omega) (by rw [hzb];omega) (by rw [hzb,hik];exact growslice_fits hroom hbig);rw [hik] at h;rw [hkk];exact h
 have mixed:=follows;obtain ⟨G,hG⟩:∃ G,G=grownCap w (n+1) c 198:=⟨_,rfl⟩
 obtain ⟨ROW,hROW⟩:∃ ROW:Array Value,ROW=(cs.take (i*3)).toArray ++ Builtin.zeroCells #[.string ⟨#[]⟩,.string ⟨#[]⟩,.int .u8 0] (n+1 - i) ++ Builtin.zeroCells #[.string ⟨#[]⟩,.string ⟨#[]⟩,.int .u8 0] (G - (n+1)):=⟨_,rfl⟩
 rw [← hG] at hrz ⊢;rw [← hROW] at hrz ⊢;have hRl:3*(n+1)≤ROW.size:=by
  rw [hROW];simp [Builtin.zeroCells]
  omega
 obtain ⟨W1,hW1⟩:∃ W1,W1=w.drew.alloc (.cells ROW 198):=⟨_,rfl⟩
 rw [← hW1] at hrz;have hN:∀ j,j<3*(n+1)→(W1.cell? ⟨w.heap.size,j,none⟩).isSome=true:=fun j hj=>by
  rw [hW1,World.cell?_alloc_at (w:=w.drew) ROW _ w.heap.size j rfl,zE1 (by omega)];rfl
 have hNf:∀ j,W1.frozen? ⟨w.heap.size,j,none⟩=false:=fun j=>by rw [hW1];exact World.frozen?_alloc_at (w:=w.drew) ROW _ w.heap.size j rfl
 have hOb:∀ j v,w.cell? ⟨b,j,none⟩=some v→W1.cell? ⟨b,j,none⟩=some v:=fun j v h=>by rw [hW1,World.cell?_alloc_past (w:=w.drew) _ b j hbw];exact h
 have hOv:∀ j v,w.cell? ⟨vb,j,none⟩=some v→W1.cell? ⟨vb,j,none⟩=some v:=fun j v h=>by rw [hW1,World.cell?_alloc_past (w:=w.drew) _ vb j hvw];exact h
 have hcpA:∀ (W:World),(∀ x,W.cell? x=W1.cell? x)→(∀ x,W.frozen? x=W1.frozen? x)→∀ ty dc,(Builtin.copy_ #[24,24] ty #[.slice (some ⟨w.heap.size,i*3,none⟩) (n+1 - i) dc,.slice (some ⟨vb,voff,none⟩) 1 vc]).run Tryz.prog W = .ok (goInt (Nat.min 1 (n+1 - i))) (W.setCells w.heap.size (i*3) vs):=fun W hWc hWf ty dc =>
  Ze W _ _ ty 198 3 w.heap.size (i*3) (n+1 - i) dc ⟨vb,voff,none⟩ 1 vc vs u30 hsz (by rw [hvl];simp only [Nat.min_def];split<;>omega)
   (fun j v hj=>by rw [Addr.add_lit,hWc];exact hOv _ v (hvs j v hj))
   (fun j hj=>by rw [hWc];exact hN _ (by omega)) (fun j hj=>by rw [hWf];exact hNf _) h1v
 have hGn:n+1≤G:=by rw [hG];exact grownCap_ge w _ _ _
 have hG63:G≤9223372036854775807:=by
  have:=grownCap_le_maxLen w (n+1) c 198 (by unfold maxLen;omega);rw [← hG] at this;unfold maxLen at this;omega
 have hGi:¬ (G=i):=by omega
 have hGim:¬ (G=i+1):=by omega
 have hci:¬ (c=i):=by omega
 have hbN:b≠w.heap.size:=by omega
 have hdl:(cs.drop (i*3)).length=(n - i)*3:=by rw [zB4,hcl];omega
 have hcpB:∀ (W:World),(∀ x,W.cell? x=(W1.setCells w.heap.size (i*3) vs).cell? x)→(∀ x,W.frozen? x=(W1.setCells w.heap.size (i*3) vs).frozen? x)→∀ ty dc sc,(Builtin.copy_ #[24,24] ty #[.slice (some ⟨w.heap.size,(i+1)*3,none⟩) (n+1 - (i+1)) dc,.slice (some ⟨b,off+i*3,none⟩) (n - i) sc]).run Tryz.prog W = .ok (goInt (Nat.min (n - i) (n+1 - (i+1)))) (W.setCells w.heap.size ((i+1)*3) (cs.drop (i*3))):=fun W hWc hWf ty dc sc =>
  Ze W _ _ ty 198 3 w.heap.size ((i+1)*3) (n+1 - (i+1)) dc ⟨b,off+i*3,none⟩ (n - i) sc (cs.drop (i*3)) u30 hsz (by rw [hdl];simp only [Nat.min_def];split<;>omega)
   (fun j v hj=>by
    rw [Addr.add_lit,hWc,World.cell?_setCells_out _ _ _ _ _ (fun h _=>absurd h hbN),zF7];exact hOb _ v (hcs (i*3+j) v (by rwa [zC3] at hj)))
   (fun j hj=>by rw [hWc];exact isSome_setCells _ _ _ _ (fun t ht=>hN _ (by omega)) _ (hN _ (by omega)))
   (fun j hj=>by rw [hWf,World.frozen?_setCells];exact hNf _) (fun v hv=>h1c v (List.mem_of_mem_drop hv))
 subst hW1;have hE1:∀ x,((w.alloc (.cells ROW 198)).drew).cell? x=(w.drew.alloc (.cells ROW 198)).cell? x:=fun x=>rfl;have hE2:∀ x,((w.alloc (.cells ROW 198)).drew).frozen? x=(w.drew.alloc (.cells ROW 198)).frozen? x:=fun x=>rfl;have hF1:∀ x,(((w.alloc (.cells ROW 198)).drew.setCells w.heap.size (i*3) vs).drew).cell? x=((w.drew.alloc (.cells ROW 198)).setCells w.heap.size (i*3) vs).cell? x:=fun x=>rfl;have hF2:∀ x,(((w.alloc (.cells ROW 198)).drew.setCells w.heap.size (i*3) vs).drew).frozen? x=((w.drew.alloc (.cells ROW 198)).setCells w.heap.size (i*3) vs).frozen? x:=fun x=>rfl;have hw1:IntKind.i64.wrap ((i:Int)+1)=(i:Int)+1:=by rw [IntKind.wrap_i64];omega
 have hb1:(0:Int)≤(i:Int)+1:=by omega
 have hin:i≤n:=by omega
 have htn:((i:Int)+1).toNat=i+1:=by omega
 have hb3:(i:Int)≤(n:Int):=by omega
 clear hkk hik hold hROW hG hRl hi0 hz0 hzs hzb hsz;go_enter Tryz.func364,Tryz.ntmps364
 go_wp2_with (first
  | (at_builtin;refine Lib.wpList_append_run _ rfl _ _ _ _ rfl _ _ rfl rfl _ _ (hrz _) ?_)
  | (at_builtin;refine J3 _ rfl _ _ 24 24 rfl _ _ rfl rfl (hcpA _ hE1 hE2 _ _) ?_)
  | (at_builtin;refine J3 _ rfl _ _ 24 24 rfl _ _ rfl rfl (hcpB _ (fun _=>rfl) (fun _=>rfl) _ _ _) ?_))
 go_region_law_o (refine xC rfl _ _ 24 24 rfl (.slice (some ⟨w.heap.size,(i+1)*3,none⟩) (n+1 - (i+1)) (G - (i+1))) (.slice (some ⟨b,off+i*3,none⟩) (n - i) (c - i)) (by simp [Act.eval,Act.put]) (by simp [Act.eval,Act.put]) (hcpB _ hF1 hF2 3 (G - (i+1)) (c - i)) ?_)
 go_wp2
 go_ret
 exact ⟨rfl,rfl⟩
end Go.Proofs.Xx
namespace Go.Proofs.Xx
open Go Go.RowKit Go.Lib Go.Proofs
theorem Qm {P:Program} {w:World} {b o:Nat} {cc:Array Value} {e:TypeId} {fr:Nat×Nat} {vs:List Value} (hb:w.heap[b]? = some (.cells cc e fr)) (h1:vs.all one? = true) (hl:o+vs.length≤cc.size) (hfr:∀ j,¬ (fr.1≤j∧j<fr.2)) :
 Wrote w (w.setCells b o vs) b (.cells (Xx.splice cc.toList o vs).toArray e fr):=by
 obtain ⟨w',q1,q2⟩:=jR (P:=P) (o:=o) vs 0 cc w hb h1 (by omega) hfr;rw [Nat.add_zero] at q2;have hs:=run_storeCells_cells (P:=P) b o vs 0 w (fun j hj=>by
  simp only [World.cell?,hb];simp
  omega) (fun j hj=>by
  unfold World.frozen?;simp only [hb];have:=hfr (o+0+j);simp only [zH1,decide_eq_false_iff_not];omega) (fun v hv=>by rw [← one?_eq];exact zC8.1 h1 v hv)
 rw [hs] at q1;cases q1
 simpa using q2
theorem Wrote.drew {w w':World} {k:Nat} {o:Obj} (h:Wrote w.drew w' k o):Wrote w w' k o:=⟨h.here,h.other,h.size,h.os,h.tape,h.output⟩
theorem Pushed.wrote {w w1 w2:World} {o o2:Obj} (p:Pushed w w1 o) (q:Wrote w1 w2 w.heap.size o2):Pushed w w2 o2:=by
 refine ⟨?_,q.os.trans p.os,q.tape.trans p.tape,q.output.trans p.output⟩;apply Array.ext_getElem?
 intro j;by_cases hj:j=w.heap.size
 ·subst hj;rw [q.here];simp
 ·rw [q.other j hj,p.heap,Array.getElem?_push,Array.getElem?_push,if_neg hj,if_neg hj]
theorem qfM {cc old vs:List Value} {s a z:Nat} (ho:∀ j,j<old.length→cc[s+j]? = old[j]?) (ha:a≤old.length) (hv:vs.length=z) (hs:s+old.length+z≤cc.length) :
 ∀ j,j<old.length+z→(splice (splice cc (s+(a+z)) (old.drop a)) (s+a) vs)[s+j]? = (old.take a ++ (vs ++ old.drop a))[j]?:=by
 intro j hj;have l1:s+(a+z)+(old.drop a).length≤cc.length:=by rw [zB4];omega
 have l2:(splice cc (s+(a+z)) (old.drop a)).length=cc.length:=zB _ _ _ l1;have hd:(old.drop a).length=old.length - a:=zB4;have ht:(old.take a).length=a:=by rw [zA9];omega
 rw [jg _ _ _ (by rw [l2];omega),jg _ _ _ l1];rw [zF0,ht,zF0,hv,hd];by_cases h1:j<a
 ·rw [if_pos (by omega),if_pos (by omega),if_pos h1,zC7,if_pos h1,ho j (by omega)]
 ·rw [if_neg (by omega:¬ s+j<s+a),if_neg h1];by_cases h2:j - a<z
  ·rw [if_pos (by omega),if_pos h2];congr 1;omega
  ·rw [if_neg (by omega),if_neg (by omega),if_pos (by omega),if_neg h2];congr 1;omega
def J4 (X:Extern) (f:FuncId):Extern:=fun g args h=>match Nat.beq g f,args with
 | true,[.slice (some ⟨b,o,none⟩) n c,.int .i64 (.ofNat i),.slice (some ⟨vb,vo,none⟩) 1 vc] =>
  match Nat.blt i n with
  | false=>X g args h
  | true=>match h.get b,h.get vb with
   | some (.cells cc eb slk false),some (.cells vcc _ _ false) =>
    match zq cc o (n*3),zq vcc vo 3 with
    | some old,some v=>match (match slk with|none=>true|some k=>Nat.beq k 3) && (Nat.ble (o+c*3) cc.length && (!Nat.beq b vb && (old.all one? && (v.all one? && (Nat.ble ((n+1)*40) 140737488355328 && Nat.beq eb 198))))) with
     | true=>some (.slice (some ⟨h.next,0,none⟩) (n+1) (n+1),(h.put b .dead).add (.cells (old.take (i*3) ++ (v ++ old.drop (i*3))) 198 (some 3) false))
     | false=>none
    | _,_=>none
   | _,_=>none
 | _,_=>X g args h
set_option maxHeartbeats 1000000 in
theorem qaq [Flag] {X:Extern} (hX:Yl Tryz.prog X):Yl Tryz.prog (J4 X 364):=by
 intro g args h u h1 hx B e w args' r hargs;unfold J4 at hx;split at hx
 rotate_left
 ·exact hX _ _ _ _ _ hx B e w args' r hargs
 rename_i b o n c i vb vo vc hg
 split at hx
 ·exact hX _ _ _ _ _ hx B e w args' r hargs
 rename_i hin
 have hin:i<n:=by rw [Nat.blt_eq] at hin;exact hin
 split at hx
 rotate_left
 ·cases hx
 rename_i cc0 eb slk vcc t2 s2 hb hvb
 split at hx
 rotate_left
 ·cases hx
 rename_i old v hold hv
 split at hx
 rotate_left
 ·cases hx
 rename_i hck
 cases hx
 have:=zA6 hg;subst this;simp only [zA8,zG3] at hck;obtain ⟨k1,k2,k3,k4,k5,k6,k7⟩:=hck;have k7:=zA6 k7;subst k7;have k2:=zB6 k2;have k6:=zB6 k6;have hne:b≠vb:=fun q=>by subst q;simp at k3
 obtain ⟨s',r1,rfl,hs,hr1⟩:=hargs.cons_inv;obtain ⟨i',r2,rfl,hi,hr2⟩:=hr1.cons_inv;obtain ⟨v',r3,rfl,hv',hr3⟩:=hr2.cons_inv;have:=hr3.jv;subst this;obtain ⟨L,a,hL,rfl,hlc,ho⟩:=hs.jo;obtain ⟨L2,a2,hL2,rfl,hlc2,ho2⟩:=hv'.jo;cases hi
 obtain rfl:a=⟨L.blk,L.sh+o,none⟩:=by rcases ho with ho|ho;exact ho;omega
 obtain rfl:a2=⟨L2.blk,L2.sh+vo,none⟩:=by rcases ho2 with ho|ho;exact ho;omega
 have hO:=r.obj b L _ hL hb;have hO2:=r.obj vb L2 _ hL2 hvb;obtain ⟨old',o1,o2,o3⟩:=hO.seg hold;obtain ⟨vs',v1,v2,v3⟩:=hO2.seg hv;have hblk:L2.blk≠L.blk:=fun q=>hne (r.inj _ _ _ _ _ _ hL hb hL2 hvb q.symm rfl rfl);have hone1:old'.all one? = true:=by rw [o1.one?];exact k4
 have hone2:vs'.all one? = true:=by rw [v1.one?];exact k5
 have h1c:∀ v∈old',v.oneCell'=true:=fun v hv=>by rw [← one?_eq];exact zC8.1 hone1 v hv
 have h1v:∀ v∈vs',v.oneCell'=true:=fun v hv=>by rw [← one?_eq];exact zC8.1 hone2 v hv
 have hdone:(old'.drop (i*3)).all one? = true:=zC8.2 fun x hx=>zC8.1 hone1 x (List.mem_of_mem_drop hx);obtain ⟨cc,fr,g1,g2,g3,g4,g5,g6⟩:=hO;obtain ⟨cc2,fr2,f1,f2,f3,f4,f5,f6⟩:=hO2;have hslk:L.sh+cc0.length+L.slack*3≤cc.size:=by
  cases slk with
  | none=>have:=(g4 rfl).1;rw [this];omega
  | some k =>
   have hk:=g5 k rfl;have:=zA6 k1;subst this;exact hk
 have hsmall:c+L.slack≤9223372036854775807→True:=fun _=>trivial;have hent:∀ args,(callFunc 364 args).run Tryz.prog w = .ok (.enter 364 args) w:=fun args=>Go.Proofs.enters_of Tryz.func364 (by kernel_rfl) rfl args w;obtain ⟨rk,tk⟩:=r.kill hL;have hnew:∀ f:Emb,e.le f→VRs f (old.take (i*3) ++ (v ++ old.drop (i*3))) (old'.take (i*3) ++ (vs' ++ old'.drop (i*3))):=fun f hf=>((o1.mono hf).take _).append ((v1.mono hf).append ((o1.mono hf).drop _));have hnl:(old.take (i*3) ++ (v ++ old.drop (i*3))).length=3*(n+1):=by
  have:=(hnew e e.le_refl).length;rw [← this];simp only [zB2,zA9,zB4,o2,v2];omega
 by_cases hroom:n+1≤c+L.slack
 ·
  have hsz:L.sh+o+3*(n+1)≤cc.size:=by omega
  have hfr:∀ j,World.frozen? w ⟨L.blk,j,none⟩=false:=fun j=>by
   unfold World.frozen?;simp only [g1];have:=g6 rfl j;simp only [zH1,decide_eq_false_iff_not];omega
  have hfr2:∀ j,World.frozen? w ⟨L2.blk,j,none⟩=false:=fun j=>by
   unfold World.frozen?;simp only [f1];have:=f6 rfl j;simp only [zH1,decide_eq_false_iff_not];omega
  have hcs:=KP L.blk (L.sh+o) n (c+L.slack) i L2.blk (L2.sh+vo) (vc+L2.slack) old' vs' w hin hroom (by omega) hblk (by omega) v2 o3
   (fun j hj=>by
    simp only [World.cell?,g1];simp
    omega) (fun j _=>hfr _) v3 h1c h1v t2 198 cc2.size cc.size (by simp only [World.shape?,f1]) (by simp only [World.shape?,g1]) (by omega) (hfr2 _) (hfr2 _)
  have hdl:(old'.drop (i*3)).length=(n - i)*3:=by rw [zB4,o2];omega
  have hcl:cc.toList.length=cc.size:=zC2;have hsl1:(splice cc.toList (L.sh+o+(i+1)*3) (old'.drop (i*3))).length=cc.toList.length:=zB _ _ _ (by rw [hdl];omega);have q1:Wrote w (w.drew.setCells L.blk (L.sh+o+(i+1)*3) (old'.drop (i*3))) L.blk _:=(Qm (P:=Tryz.prog) (w:=w.drew) (o:=L.sh+o+(i+1)*3) g1 hdone (by rw [hdl];omega) (g6 rfl)).drew;have q2:=q1.trans (Qm (P:=Tryz.prog) (o:=L.sh+o+i*3) q1.here hone2 (by rw [zE5,hsl1,v2];omega) (g6 rfl));have hsl2:(splice (splice cc.toList (L.sh+o+(i+1)*3) (old'.drop (i*3))) (L.sh+o+i*3) vs').length=cc.toList.length:=by
   rw [zB _ _ _ (by rw [hsl1,v2];omega),hsl1]
  have hB:=r.own b L _ hL hb rfl;have hle:=rk.QW ⟨L.blk,L.sh+o,c+L.slack - (n+1)⟩;have hold':∀ j,j<old'.length→cc.toList[L.sh+o+j]? = old'[j]?:=fun j hj=>by
   have h0:=o3 j _ (zA4 hj);simp only [World.cell?,g1] at h0;rw [zA4 hj,zC1];simpa using h0
  have hget:=qfM (cc:=cc.toList) (old:=old') (vs:=vs') (s:=L.sh+o) (a:=i*3) (z:=3) hold' (by omega) v2 (by rw [hcl];omega);rw [show L.sh+o+(i*3+3)=L.sh+o+(i+1)*3 by omega] at hget;obtain ⟨r2,r3⟩:=rk.view (sh:=L.sh+o) (s:=c+L.slack - (n+1)) (o:=.cells (old.take (i*3) ++ (v ++ old.drop (i*3))) 198 (some 3) false) hL (jq _ _) (fun b' L' p e1 e2 e3=>by
   rw [AH.get_put] at e2;by_cases hbb:b'=b
   ·rw [if_pos hbb] at e2;cases e2;cases e3
   ·rw [if_neg hbb] at e2;exact fun q=>hbb (r.inj b' L' p b L _ e1 e2 hL hb q e3 rfl)) hB q2 (by
   refine ⟨_,fr,q2.here,?_,fun j u hj=>?_,(fun q=>by cases q),fun k hk=>?_,g6⟩
   ·simp only [zE5,hsl2,hnl];omega
   ·have hjl:j<3*(n+1):=by rw [← hnl];exact (zD5.1 hj).1
    obtain ⟨u',p1,p2⟩:=(hnew _ hle).get j u hj;refine ⟨u',?_,p2⟩;rw [← p1,← hget j (by omega)];simp
   ·cases hk
    simp only [zE5,hsl2,hnl];omega)
  refine ⟨_,.slice (some ⟨L.blk,L.sh+o,none⟩) (n+1) (c+L.slack),_,r2,tk.trans r3 r.dom,?_,.inr ⟨hent _,fun cf cs=>?_⟩⟩
  ·have:=VR.slice (f:=e.put (h.put b .dead).next ⟨L.blk,L.sh+o,c+L.slack - (n+1)⟩) (h.put b .dead).next 0 ⟨L.blk,L.sh+o,none⟩ (n+1) (n+1) ⟨L.blk,L.sh+o,c+L.slack - (n+1)⟩ (Emb.qP _ _ _) (zA3 _) (.inl rfl)
   rw [show n+1+(c+L.slack - (n+1))=c+L.slack by omega] at this;exact this
  ·obtain ⟨en,w',fr,⟨rfl,rfl⟩,hco,-,hl⟩:=hcs (cf :: cs);exact Steps.trans hco (.one (step_leave_returned hl))
 ·
  have hcs:=PQ L.blk (L.sh+o) n (c+L.slack) i L2.blk (L2.sh+vo) (vc+L2.slack) old' vs' w hin (by omega) (by omega) (by omega) (by omega) v2 o3 v3 h1c h1v;obtain ⟨G,hG⟩:∃ G,G=grownCap w (n+1) (c+L.slack) 198:=⟨_,rfl⟩
  rw [← hG] at hcs;obtain ⟨ROW,hROW⟩:∃ ROW:Array Value,ROW=(old'.take (i*3)).toArray ++ Builtin.zeroCells #[.string ⟨#[]⟩,.string ⟨#[]⟩,.int .u8 0] (n+1 - i) ++ Builtin.zeroCells #[.string ⟨#[]⟩,.string ⟨#[]⟩,.int .u8 0] (G - (n+1)):=⟨_,rfl⟩
  rw [← hROW] at hcs;have hGn:n+1≤G:=by rw [hG];exact grownCap_ge w _ _ _
  have hRl:ROW.size=3*G:=by
   rw [hROW];simp [Builtin.zeroCells,o2]
   omega
  have hRc:ROW.toList.length=ROW.size:=zC2;have hRt:∀ j,j<i*3→ROW.toList[j]? = old'[j]?:=fun j hj=>by
   rw [hROW,zC1,Array.getElem?_append_left (by simp;omega),Array.getElem?_append_left (by simp;omega)];simp [zC7,hj]
  have hdl:(old'.drop (i*3)).length=(n - i)*3:=by rw [zB4,o2];omega
  obtain ⟨w1,hw1⟩:∃ w1,w1=(w.alloc (.cells ROW 198)).drew:=⟨_,rfl⟩
  rw [← hw1] at hcs;have p1:Pushed w w1 (.cells ROW 198 (0,0)):=by subst hw1;exact ⟨rfl,rfl,rfl,rfl⟩
  have hz:∀ j:Nat,¬ ((0,0):Nat×Nat).1≤j∨¬ j<((0,0):Nat×Nat).2:=fun j=>.inr (zB7 j);have hz:∀ j:Nat,¬ (((0,0):Nat×Nat).1≤j∧j<((0,0):Nat×Nat).2):=fun j q=>zB7 j q.2;have q1:=Qm (P:=Tryz.prog) (o:=i*3) p1.new hone2 (by omega) hz;have hsl1:(splice ROW.toList (i*3) vs').length=ROW.toList.length:=zB _ _ _ (by omega);have q2:=q1.trans (Qm (P:=Tryz.prog) (w:=(w1.setCells w.heap.size (i*3) vs').drew) (o:=(i+1)*3) q1.here hdone (by rw [zE5,hsl1,hdl];omega) hz).drew;have p2:=p1.wrote q2;have hsl2:(splice (splice ROW.toList (i*3) vs') ((i+1)*3) (old'.drop (i*3))).length=ROW.toList.length:=by
   rw [zB _ _ _ (by rw [hsl1,hdl];omega),hsl1]
  have hle:=rk.QW ⟨w.heap.size,0,G - (n+1)⟩;have hget:∀ j,j<3*(n+1)→(splice (splice ROW.toList (i*3) vs') ((i+1)*3) (old'.drop (i*3)))[j]? = (old'.take (i*3) ++ (vs' ++ old'.drop (i*3)))[j]?:=fun j hj=>by
   have ht:(old'.take (i*3)).length=i*3:=by rw [zA9];omega
   rw [jg _ _ _ (by rw [hsl1,hdl];omega),jg _ _ _ (by omega)];rw [zF0,ht,zF0,v2,hdl];by_cases g1:j<i*3
   ·rw [if_pos (by omega),if_pos g1,if_pos g1,zC7,if_pos g1,hRt j g1]
   ·rw [if_neg g1,if_neg g1];by_cases g2:j - i*3<3
    ·rw [if_pos (by omega),if_pos (by omega),if_pos g2]
    ·rw [if_neg (by omega),if_pos (by omega),if_neg g2];congr 1;omega
  obtain ⟨r2,r3⟩:=rk.add (s:=G - (n+1)) (o:=.cells (old.take (i*3) ++ (v ++ old.drop (i*3))) 198 (some 3) false) p2 (by
   refine ⟨_,(0,0),p2.new,?_,fun j u hj=>?_,(fun q=>by cases q),fun k hk=>?_,(fun _ j q=>by simp at q)⟩
   ·simp only [zE5,hsl2,hnl];omega
   ·have hjl:j<3*(n+1):=by rw [← hnl];exact (zD5.1 hj).1
    obtain ⟨u',p1,p2⟩:=(hnew _ hle).get j u hj;refine ⟨u',?_,p2⟩;rw [← p1,← hget j hjl];simp
   ·cases hk
    simp only [zE5,hsl2,hnl];omega)
  refine ⟨_,.slice (some ⟨w.heap.size,0,none⟩) (n+1) G,_,r2,tk.trans r3 r.dom,?_,.inr ⟨hent _,fun cf cs=>?_⟩⟩
  ·have:=VR.slice (f:=e.put (h.put b .dead).next ⟨w.heap.size,0,G - (n+1)⟩) (h.put b .dead).next 0 ⟨w.heap.size,0,none⟩ (n+1) (n+1) ⟨w.heap.size,0,G - (n+1)⟩ (Emb.qP _ _ _) (zA3 _) (.inl rfl)
   rw [show n+1+(G - (n+1))=G by omega] at this;exact this
  ·obtain ⟨en,w',fr,⟨rfl,rfl⟩,hco,-,hl⟩:=hcs (cf :: cs);exact Steps.trans hco (.one (step_leave_returned hl))
def Xd:Extern:=J4 X0 364
theorem qjJ [Flag]:Yl Tryz.prog Xd:=qaq qjK
end Go.Proofs.Xx
namespace Go.Proofs.Xx
open Go Go.RowKit Go.Shelf Go.Proofs
def renJ:Ren where
 f x:=match x with | 241=>243 | 277=>320|x=>x
 t x:=match x with | 0=>0 | 3=>3 | 5=>5 | 37=>33 | 70=>102 | 72=>104|x=>x
 g x:=match x with|x=>x
theorem laysJ:Lays.n241 Tryz.prog renJ where
 mixed:=by kernel_rfl
 f241:=by kernel_rfl
 f277:=by kernel_rfl
 t0:=by kernel_rfl
 a0:=fun w=>by rfl
 z0:=fun w=>by rfl
 v0:=fun w=>by rfl
 t3:=by kernel_rfl
 a3:=fun w=>by rfl
 z3:=fun w=>by rfl
 v3:=fun w=>by rfl
 t37:=by kernel_rfl
 a37:=fun w=>by rfl
 z37:=fun w=>by rfl
 v37:=fun w=>by rfl
 t70:=by kernel_rfl
 a70:=fun w=>by rfl
 z70:=fun w=>by rfl
 v70:=fun w=>by rfl
 t72:=by kernel_rfl
 a72:=fun w=>by rfl
 z72:=fun w=>by rfl
 v72:=fun w=>by rfl
theorem qgP:Tryz.prog.underlying (renJ.t 5)=some (.int .u8):=by kernel_rfl
theorem qjs:∀ w,(isAgg (renJ.t 5)).run Tryz.prog w = .ok false w:=fun w=>by rfl
theorem qjq:∀ w,(Go.sizeOf (renJ.t 5)).run Tryz.prog w = .ok 1 w:=fun w=>by rfl
theorem qjr:∀ w,(zeroValue (renJ.t 5)).run Tryz.prog w = .ok (.int .u8 0) w:=fun w=>by rfl
theorem qe0:(Tryz.prog.info? 5).map (·.size)=some 1:=by kernel_rfl
def KU (w:World) (b:Nat) (cs:Array Value):World:=((w.alloc (.cells cs 5)).setCell ⟨b,1,none⟩ (.slice (some ⟨w.heap.size,0,none⟩) 0 cs.size)).drew.drew.drew
set_option maxHeartbeats 4000000 in
theorem qbc {b n:Nat} {q:Value} {fr:Nat×Nat} {w:World} (hb:w.heap[b]? = some (.cells #[q,.slice none 0 0] 104 fr)) (hfr:∀ i,¬ (fr.1≤i∧i<fr.2)) (hn:n≤281474976710656) :
 ∃ cs:Array Value,n≤cs.size∧Calls Tryz.prog 243 #[.pointer (some ⟨b,0,none⟩),.int .i64 n] w fun e w'=>e = .returned (.tuple #[])∧w'=KU w b cs:=by
 have L:=laysJ;obtain ⟨cs,mk,hle,-⟩:=Lib.run_makeNoZero (P:=Tryz.prog) w.drew #[renJ.t 3] (renJ.t 37) 5 L.t37 n hn;refine ⟨cs,hle,?_⟩;have hlt:b<w.heap.size:=by
  rcases zA7 b w.heap.size with k|k
  ·exact k
  ·rw [Array.getElem?_eq_none k] at hb;cases hb
 have hb2:(w.alloc (.cells cs 5)).heap[b]? = some (.cells #[q,.slice none 0 0] 104 fr):=(show (w.heap.push _)[b]? = _ by rw [Array.getElem?_push,if_neg (by omega)];exact hb)
 have hz:IntKind.i64.wrap (IntKind.i64.wrap 0+(n:Int))=n:=by
  rw [IntKind.wrap_i64,IntKind.wrap_i64];omega
 have call:(callFunc (renJ.f 277) #[.int .i64 (IntKind.i64.wrap (IntKind.i64.wrap 0+(n:Int)))]).run Tryz.prog w.drew = .ok (.value (.slice (some ⟨w.drew.heap.size,0,none⟩) n cs.size)) (w.drew.drew.drew.alloc (.cells cs 5)):=by
  rw [hz];rw [run_callFunc_extern L.f277 (by kernel_rfl) (by kernel_rfl) (by kernel_rfl) (e:=Extern.BytealgMakeNoZero.makeNoZero #[renJ.t 3] #[renJ.t 37]) (by kernel_rfl),mk];rfl
 have k1:w.drew.cell? ⟨b,1,none⟩=some (.slice none 0 0):=by
  show w.cell? ⟨b,1,none⟩=_
  unfold World.cell?;rw [hb];rfl
 have k2:(w.alloc (.cells cs 5)).cell? ⟨b,1,none⟩=some (.slice none 0 0):=by
  unfold World.cell?;rw [hb2];rfl
 have k3:(w.alloc (.cells cs 5)).frozen? ⟨b,1,none⟩=false:=by
  unfold World.frozen?;simp only [hb2];have:=hfr 1;simp only [zH1,decide_eq_false_iff_not];omega
 have cp:∀ W:World,(Builtin.copy_ #[renJ.t 37,renJ.t 37] (renJ.t 3) #[.slice (some ⟨w.heap.size,0,none⟩) 0 cs.size,.slice none 0 0]).run Tryz.prog W = .ok (goInt 0) W :=
  fun W=>run_copy_none W (renJ.t 37) (renJ.t 37) (renJ.t 3) 5 _ _ 0 cs.size 0 0 L.t37 qe0 rfl
 clear hz hfr hb hb2;have mixed:=L.mixed;have t72:=L.t72;have a72:=L.a72;have z72:=L.z72;have v72:=L.v72;have u72:=run_underlying L.t72;have t70:=L.t70;have a70:=L.a70;have z70:=L.z70;have v70:=L.v70;have u70:=run_underlying L.t70;have t37:=L.t37;have a37:=L.a37;have z37:=L.z37;have v37:=L.v37;have u37:=run_underlying L.t37;have t3:=L.t3;have a3:=L.a3;have z3:=L.z3;have v3:=L.v3;have u3:=run_underlying L.t3;have t5:=qgP;have a5:=qjs;have z5:=qjq;have v5:=qjr;have u5:=run_underlying qgP;go_enter L.f241,Body.n241_ntmps renJ
 go_wp2
 go_region_o
 all_goals (go_wp2;go_end0;exact ⟨rfl,by unfold KU;rw [World.setCell_alloc_past _ _ _ _ hlt]⟩)
def xw (X:Extern) (f:FuncId):Extern:=fun g args h=>match Nat.beq g f,args with
 | true,[.pointer (some ⟨b,0,none⟩),.int .i64 (.ofNat n)]=>match h.get b with
  | some (.cells [q,.slice none 0 0] 104 none false)=>match Nat.ble n 281474976710656 with
   | true=>some (.tuple #[],(h.add (.cells [] 5 (some 1) false)).put b (.cells [q,.slice (some ⟨h.next,0,none⟩) 0 0] 104 none false))
   | false=>none
  | _=>none
 | _,_=>X g args h
theorem G6 [Flag] {X:Extern} (hX:Yl Tryz.prog X):Yl Tryz.prog (xw X 243):=by
 intro g args h u h1 hx B e w args' r hargs;unfold xw at hx;split at hx
 rotate_left
 ·exact hX _ _ _ _ _ hx B e w args' r hargs
 rename_i b n hg
 split at hx
 rotate_left
 ·cases hx
 rename_i q hb
 split at hx
 rotate_left
 ·cases hx
 rename_i hn
 have hn:=zB6 hn;cases hx
 have:=zA6 hg;subst this;obtain ⟨p',r1,rfl,hp,hr1⟩:=hargs.cons_inv;obtain ⟨n',r2,rfl,hn',hr2⟩:=hr1.cons_inv;have:=hr2.jv;subst this;obtain ⟨L,hL,rfl⟩:=hp.zO;cases hn'
 obtain ⟨cc,fr,g1,g2,g3,g4,g5,g6⟩:=r.obj b L _ hL hb;obtain ⟨e1,e2⟩:=(g4 rfl).2 rfl;have e0:=(g4 rfl).1;obtain ⟨q',c0,vq⟩:=g3 0 q rfl;obtain ⟨s',c1,vs⟩:=g3 1 (.slice none 0 0) rfl;cases vs
 rw [e1] at c0 c1;have hcc:cc=#[q',.slice none 0 0]:=by
  apply Array.ext_getElem?
  intro i;match i with
  | 0=>exact c0
  | 1=>exact c1
  | i+2=>rw [Array.getElem?_eq_none (by rw [e2];simp),Array.getElem?_eq_none (by simp)]
 subst hcc;obtain ⟨cs,hcs,hcall⟩:=qbc g1 (g6 rfl) hn;have hbn:b<h.next:=r.dom b L hL
 have p1:Pushed w (w.alloc (.cells cs 5)) (.cells cs 5 (0,0)):=⟨rfl,rfl,rfl,rfl⟩
 obtain ⟨ra,ta⟩:=r.add (s:=cs.size) (o:=.cells [] 5 (some 1) false) p1 ⟨cs,(0,0),p1.new,by simp,fun i v hi=>by simp at hi,(fun k=>by cases k),(fun k hk=>by cases hk;simp),(fun _ i k=>by simp at k)⟩;have hL2:=r.QW ⟨w.heap.size,0,cs.size⟩ b L hL;have gb:(w.alloc (.cells cs 5)).heap[L.blk]? = some (.cells #[q',.slice none 0 0] 104 fr):=(p1.old _ (r.rng b L hL)).trans g1;have wr:=Qm (P:=Tryz.prog) (o:=1) (vs:=[.slice (some ⟨w.heap.size,0,none⟩) 0 cs.size]) gb rfl (by simp) (g6 rfl);have wr2:Wrote (w.alloc (.cells cs 5)) (KU w L.blk cs) L.blk (.cells #[q',.slice (some ⟨w.heap.size,0,none⟩) 0 cs.size] 104 fr):=⟨wr.here,wr.other,wr.size,wr.os,wr.tape,wr.output⟩
 have hsl:VR (e.put h.next ⟨w.heap.size,0,cs.size⟩) (.slice (some ⟨h.next,0,none⟩) 0 0) (.slice (some ⟨w.heap.size,0,none⟩) 0 cs.size):=by
  have:=VR.slice (f:=e.put h.next ⟨w.heap.size,0,cs.size⟩) h.next 0 ⟨w.heap.size,0,none⟩ 0 0 ⟨w.heap.size,0,cs.size⟩ (Emb.qP _ _ _) (zA3 _) (.inl rfl)
  rw [zG1] at this;exact this
 obtain ⟨rp,tp⟩:=ra.put (o':=.cells [q,.slice (some ⟨h.next,0,none⟩) 0 0] 104 none false) hL2 (show (h.add _).get b=some _ by rw [AH.zf,if_neg (by omega)];exact hb) rfl wr2 (by
  refine ⟨_,fr,wr2.here,by rw [e1];simp,fun i v hi=>?_,fun _=>⟨e0,fun _=>⟨e1,by simp⟩⟩,(fun k hk=>by cases hk),g6⟩;rw [e1,zG1];match i,hi with
  | 0,hi=>cases hi;exact ⟨q',rfl,vq.mono (r.QW _)⟩
  | 1,hi=>cases hi;exact ⟨_,rfl,hsl⟩) (fun _=>rfl)
 refine ⟨_,.tuple #[],KU w L.blk cs,rp,ta.trans tp r.dom,VR.tuple [] [] .nil,.inr ⟨Go.Proofs.enters_of laysJ.f241 (by kernel_rfl) rfl _ _,fun c k=>?_⟩⟩;obtain ⟨en,w',fr',⟨rfl,rfl⟩,hco,-,hl⟩:=hcall (c :: k);rw [e1];exact Steps.trans hco (.one (step_leave_returned hl))
end Go.Proofs.Xx
namespace Go.Proofs.Xx
open Go
mutual
theorem VR.back {f g:Emb} (hle:f.le g):∀ {v y v':Value},VR f v y→VR g v v'→VR f v v'
 | _,_,_,.bool b,h=>by cases h;exact .bool b
 | _,_,_,.int k n,h=>by cases h;exact .int k n
 | _,_,_,.float k n,h=>by cases h;exact .float k n
 | _,_,_,.string s,h=>by cases h;exact .string s
 | _,_,_,.nilPointer,h=>by cases h;exact .nilPointer
 | _,_,_,.pointer b o L hb,h=>by
  cases h with
  | pointer _ _ L' h' =>
   have e:=(hle b L hb).symm.trans h';cases e
   exact .pointer b o L hb
 | _,_,_,.nilSlice,h=>by cases h;exact .nilSlice
 | _,_,_,.slice b o a len cap L hb hl ho,h=>by
  cases h with
  | slice _ _ a' _ _ L' h' hl' ho' =>
   have e:=(hle b L hb).symm.trans h';cases e
   exact .slice b o a' len cap L hb hl ho'
 | _,_,_,.nilMap,h=>by cases h;exact .nilMap
 | _,_,_,.map b L hb,h=>by
  cases h with
  | map _ L' h' =>
   have e:=(hle b L hb).symm.trans h';cases e
   exact .map b L hb
 | _,_,_,.func gg a a' c c' h1 h2,h=>by
  cases h with
  | func _ _ a2 _ c2 k1 k2=>exact .func gg a a2 c c2 (VRs.back hle h1 k1) (VRs.back hle h2 k2)
 | _,_,_,.yield l L hb,h=>by
  cases h with
  | yield _ L' h' =>
   have e:=(hle l L hb).symm.trans h';cases e
   exact .yield l L hb
 | _,_,_,.nilFunc,h=>by cases h;exact .nilFunc
 | _,_,_,.nilIface,h=>by cases h;exact .nilIface
 | _,_,_,.agg c c' hc,h=>by
  cases h with
  | agg _ c2 k=>exact .agg c c2 (VRs.back hle hc k)
 | _,_,_,.tuple c c' hc,h=>by
  cases h with
  | tuple _ c2 k=>exact .tuple c c2 (VRs.back hle hc k)
theorem VRs.back {f g:Emb} (hle:f.le g):∀ {v y v':List Value},VRs f v y→VRs g v v'→VRs f v v'
 | _,_,_,.nil,h=>by cases h;exact .nil
 | _,_,_,.cons v y r s hv hr,h=>by
  cases h with
  | cons _ v' _ r' k kr=>exact .cons v v' r r' (VR.back hle hv k) (VRs.back hle hr kr)
end
section
variable {P:Program}
theorem EsR.back {f g:Emb} (hle:f.le g) {e:List (Value×Value×Nat)} {e1:List MapEntry} (h:EsR f e e1):∀ {e2:List MapEntry},EsR g e e2→EsR f e e2:=by
 induction h with
 | nil=>intro e2 k;cases k;exact .nil
 | cons h hr ih =>
  intro e2 k;cases k with
  | cons k kr=>exact .cons ⟨h.1.back hle k.1,h.2.1.back hle k.2.1,k.2.2⟩ (ih kr)
theorem TR.back {f g:Emb} (hle:f.le g) {sz:Nat} {t:Tr Value} {t1 t2:Array Value} (h:TR f sz t t1) (k:TR g sz t t2):TR f sz t t2:=by
 refine ⟨k.1,fun i v hv=>?_⟩;obtain ⟨u,-,p⟩:=h.2 i v hv;obtain ⟨u',q1,q2⟩:=k.2 i v hv;exact ⟨u',q1,p.back hle q2⟩
theorem ObjR.back {f g:Emb} (hle:f.le g) {L:Loc} {w w':World} {o:Qz} (h1:ObjR f L w o) (h2:ObjR g L w' o):ObjR f L w' o:=by
 cases o with
 | cells c e slk ro =>
  obtain ⟨cc,fr,a1,a2,a3,a4,a5,a6⟩:=h1;obtain ⟨cc',fr',b1,b2,b3,b4,b5,b6⟩:=h2;refine ⟨cc',fr',b1,b2,fun i v hi=>?_,b4,b5,b6⟩;obtain ⟨u,p1,p2⟩:=a3 i v hi;obtain ⟨u',q1,q2⟩:=b3 i v hi;exact ⟨u',q1,p2.back hle q2⟩
 | loop st pend sz t ps asg bo =>
  obtain ⟨fn,tm,D,a1,a2⟩:=h1;obtain ⟨fn',tm',D',b1,b2⟩:=h2;exact ⟨fn',tm',D',b1,a2.back hle b2⟩
 | map es c =>
  obtain ⟨es1,a1,a2⟩:=h1;obtain ⟨es2,b1,b2⟩:=h2;exact ⟨es2,b1,a2.back hle b2⟩
 | dead=>trivial
def AH.lo0 (h:AH):AH:={ tr:=h.tr,next:=h.next,low:=0 }
theorem CallOk.keep [Glob] {callf:FuncId→List Value→AH→Option (Value×AH)} (hC:CallOk P callf) {f:FuncId} {args:List Value} {h h':AH} {v:Value} (hc:callf f args h=some (v,h')) (hx:∀ b,b<h.next→h'.get b=h.get b)
 (hv:∀ e v',VR e v v'→∀ e2,VR e2 v v'):∀ B e w args',Rel B e h w→VRs e args args' →
 ∃ e' v' w',Rel B e' h.lo0 w'∧Turn e h w e' h.lo0 w'∧VR e' v v' ∧
  ((
   callFunc f args'.toArray).run P w = .ok (.value v') w' ∨
   ((callFunc f args'.toArray).run P w = .ok (.enter f args'.toArray) w∧∀ c cs,Steps P (lone (Frame.enter P f args'.toArray .normal) (c :: cs) w) (lone (c.finish v') cs w'))):=by
 intro B e w args' r ha;obtain ⟨e1,v1,w1,r1,u1,k1,s1⟩:=hC _ _ _ _ _ hc B e w args' r ha;have hg:∀ b,h.lo0.get b=h.get b:=fun b=>rfl;refine ⟨e,v1,w1,?_,?_,hv _ _ k1 _,s1⟩
 ·refine ⟨r.dom,r.wf,fun b L q=>zE3 (r.rng b L q) u1.size,fun b L o q1 q2=>?_,r.inj,r.own,zD0 r.base u1.size,r1.keep,r.glob⟩;exact (r.obj b L o q1 q2).back u1.le (r1.obj b L o (u1.le b L q1) ((hx b (r.dom b L q1)).trans q2))
 ·exact ⟨e.le_refl,zA3 _,zB0 _,fun _ _ q _=>q,fun b L q n=>(by rw [n] at q;cases q),u1.size,fun k hk q=>u1.keep k hk fun b L p1 p2=>absurd (q b L p1 p2) (zB7 _),fun _ _ _=>rfl,u1.os,u1.tape,u1.output⟩
end
end Go.Proofs.Xx
namespace Go.Proofs.Xx
open Go Go.RowKit
def Xa [Flag]:Extern:=xw (Yx Xd 280) 243
theorem vC [Flag]:Yl Tryz.prog Xa:=G6 (vH qjJ)
class KX (X:Extern):Prop where
 no:∀ f args h,f≠9→Xa f args h=none→X f args h=none
instance kxA:KX Xa:=⟨fun f args h _ q=>by
 exact q⟩
def qZ (v:Value) (p:Prop):Prop:=(v = .bool true∧p)∨(v = .bool false∧¬ p)
def Zt (x:UInt8):Prop:=97≤x.toNat∧x.toNat≤122
def Qx (s:List UInt8):Prop:=1≤s.length∧s.length≤12∧∀ i,i<s.length→Zt (s.getD i default)
def Yp (s:List UInt8):Prop:=s=[]∨Qx s
theorem YU:(default:UInt8)=0:=rfl
theorem Qj {p:Nat→Prop} {i:Nat} (h:∀ j,j<i→p j) (hi:p i):∀ j,j<i+1→p j:=fun j hj=>by
 rcases zA7 j i with q|q
 ·exact h j q
 ·obtain rfl:j=i:=by omega
  exact hi
variable {Xh:Extern} [KX Xh]
def Q9 (a b:Int):Int:=if 1≤a∧a≤24∧b=0 then a else 0
def ZV (a b:Int):Int:=if 1≤a∧a≤11∧0≤b∧b≤2 then 2*a+b else 0
def ZP (a b:Int):Int:=if 1≤a∧a≤8∧1≤b∧b≤8 then a+2*b else 0
def ZB (a b:Int):Int:=if 1≤a∧a≤24∧0≤b∧b≤a then a else 0
theorem vS {h:AH} (a b:Int):Fn Tryz.prog Xh 259 [.int .i64 a,.int .i64 b] h (fun v h'=>v = .int .i64 (Q9 a b)∧h'=h):=by
 refine qL (by first|exact KX.no _ _ _ (by decide) rfl) Tryz.func259 rfl rfl ?_;all_goals (repeat' (first|refine qg ?_|refine qh rfl ?_|refine qi ?_|(refine qc 0 ?_;refine mv ?_;refine qf ?_)|(refine qc 1 ?_;refine mv ?_;(first|(refine cS ?_ ?_<;>intro hc))<;>(refine mv ?_;(first|refine off ?_|refine mv ?_);(first|refine off ?_|(first|(refine cS ?_ ?_<;>intro hc)))<;>(refine vl ?_;refine mv ?_;(first|refine off ?_|refine mv ?_);(first|refine off ?_|(first|(refine cS ?_ ?_<;>intro hc)))<;>(refine vl ?_;refine qf ?_))))|(refine qc 2 ?_;refine mv ?_;refine qf ?_)|(refine qc 3 ?_;refine mv ?_;refine mv ?_;refine qf ?_)))
 all_goals (refine qo ⟨_,rfl,?_⟩)
 all_goals (refine ⟨?_,rfl⟩;unfold Q9;first|(rw [if_pos (by omega)];rfl)|(rw [if_neg (by omega)];rfl))
theorem KI {h:AH} (a b:Int):Fn Tryz.prog Xh 264 [.int .i64 a,.int .i64 b] h (fun v h'=>v = .int .i64 (ZV a b)∧h'=h):=by
 refine qL (by first|exact KX.no _ _ _ (by decide) rfl) Tryz.func264 rfl rfl ?_;all_goals (repeat' (first|refine qg ?_|refine qh rfl ?_|refine qi ?_|(refine qc 0 ?_;refine mv ?_;refine qf ?_)|(refine qc 1 ?_;refine mv ?_;(first|(refine cS ?_ ?_<;>intro hc))<;>(refine mv ?_;(first|refine off ?_|refine mv ?_);(first|refine off ?_|(first|(refine cS ?_ ?_<;>intro hc)))<;>(refine vl ?_;refine mv ?_;(first|refine off ?_|refine mv ?_);(first|refine off ?_|(first|(refine cS ?_ ?_<;>intro hc)))<;>(refine vl ?_;refine mv ?_;(first|refine off ?_|refine mv ?_);(first|refine off ?_|(first|(refine cS ?_ ?_<;>intro hc)))<;>(refine vl ?_;refine qf ?_)))))|(refine qc 2 ?_;refine mv ?_;refine qf ?_)|(refine qc 3 ?_;refine mv ?_;refine ml ?_;refine mv ?_;refine ad ?_;refine mv ?_;refine qf ?_)))
 all_goals (refine qo ⟨_,rfl,?_⟩)
 all_goals (refine ⟨?_,rfl⟩;unfold ZV;first|(rw [if_pos (by omega)];rfl)|(rw [if_neg (by omega)];rfl))
theorem Kq {h:AH} (a b:Int):Fn Tryz.prog Xh 269 [.int .i64 a,.int .i64 b] h (fun v h'=>v = .int .i64 (ZP a b)∧h'=h):=by
 refine qL (by first|exact KX.no _ _ _ (by decide) rfl) Tryz.func269 rfl rfl ?_;all_goals (repeat' (first|refine qg ?_|refine qh rfl ?_|refine qi ?_|(refine qc 0 ?_;refine mv ?_;refine qf ?_)|(refine qc 1 ?_;refine mv ?_;(first|(refine cS ?_ ?_<;>intro hc))<;>(refine mv ?_;(first|refine off ?_|refine mv ?_);(first|refine off ?_|(first|(refine cS ?_ ?_<;>intro hc)))<;>(refine vl ?_;refine mv ?_;(first|refine off ?_|refine mv ?_);(first|refine off ?_|(first|(refine cS ?_ ?_<;>intro hc)))<;>(refine vl ?_;refine mv ?_;(first|refine off ?_|refine mv ?_);(first|refine off ?_|(first|(refine cS ?_ ?_<;>intro hc)))<;>(refine vl ?_;refine qf ?_)))))|(refine qc 2 ?_;refine mv ?_;refine qf ?_)|(refine qc 3 ?_;refine mv ?_;refine mv ?_;refine ml ?_;refine ad ?_;refine mv ?_;refine qf ?_)))
 all_goals (refine qo ⟨_,rfl,?_⟩)
 all_goals (refine ⟨?_,rfl⟩;unfold ZP;first|(rw [if_pos (by omega)];rfl)|(rw [if_neg (by omega)];rfl))
theorem pY {h:AH} (a b:Int):Fn Tryz.prog Xh 274 [.int .i64 a,.int .i64 b] h (fun v h'=>v = .int .i64 (ZB a b)∧h'=h):=by
 refine qL (by first|exact KX.no _ _ _ (by decide) rfl) Tryz.func274 rfl rfl ?_;all_goals (repeat' (first|refine qg ?_|refine qh rfl ?_|refine qi ?_|(refine qc 0 ?_;refine mv ?_;refine qf ?_)|(refine qc 1 ?_;refine mv ?_;(first|(refine cS ?_ ?_<;>intro hc))<;>(refine mv ?_;(first|refine off ?_|refine mv ?_);(first|refine off ?_|(first|(refine cS ?_ ?_<;>intro hc)))<;>(refine vl ?_;refine mv ?_;(first|refine off ?_|refine mv ?_);(first|refine off ?_|(first|(refine cS ?_ ?_<;>intro hc)))<;>(refine vl ?_;refine mv ?_;(first|refine off ?_|refine mv ?_);(first|refine off ?_|refine mv ?_);(first|refine off ?_|(first|(refine cS ?_ ?_<;>intro hc)))<;>(refine vl ?_;refine qf ?_)))))|(refine qc 2 ?_;refine mv ?_;refine qf ?_)|(refine qc 3 ?_;refine mv ?_;refine mv ?_;refine qf ?_)))
 all_goals (refine qo ⟨_,rfl,?_⟩)
 all_goals (refine ⟨?_,rfl⟩;unfold ZB;first|(rw [if_pos (by omega)];rfl)|(rw [if_neg (by omega)];rfl))
def qg6 (a b x y:Int):Prop:=y - x=1∨y - x=a - 1
def qg7 (a b x y:Int):Prop:=a % 2=0∧y - x=a / 2
def qi6 (a b x y:Int):Prop :=
 if b=2∧y=2*a+1 then x=0∨x=y - 1
 else if 0<b∧(x=a∨y=a) then y - x=1
 else y - x=1∧(y<a∨x≥a+min b 1)
def qi7 (a b x y:Int):Prop:=if b=2∧y=2*a+1 then x=a else x<a∧x+y=a+min b 1+a - 1
def qiq (a b x y:Int):Prop:=y - x=1
def qir (a b x y:Int):Prop:=x<b∧x+y=a+2*b - 1
def rowB (a b x y:Int):Prop:=y - x=1∧(b=0∨y % b≠0)
def Bds (a b x y:Int):Prop:=0≤a∧a≤100∧0≤b∧b≤100∧0≤x∧x≤1000∧0≤y∧y≤1000
end Go.Proofs.Xx
namespace Go.Proofs.Xx
open Go Go.Proofs
variable {Xh:Extern} [KX Xh]
structure Tab where
 name:List UInt8
 shape:Int
 A:Int
 B:Int
 os:SlV
 opn:List Int
 X:Int
 Y:Int
abbrev Tab.ov (t:Tab):Value:=t.os.val
instance:Inhabited Tab:=⟨⟨[],0,0,0,⟨none,0,0⟩,[],0,0⟩⟩
def eT (t:Tab):List Value:=[str t.name,.int .u8 t.shape,.int .i64 t.A,.int .i64 t.B,t.ov,.int .i64 t.X,.int .i64 t.Y]
abbrev J8 (t:Tab):Value:=.agg (eT t).toArray
def Xw (n:Nat):Value:=.func (.func n) #[] #[]
def qgY:List UInt8:=[114,111,117,110,100]
def qie:List UInt8:=[108,111,110,103]
def qic:List UInt8:=[104,111,114,115,101,115,104,111,101]
def wRow:List UInt8:=[114,111,119]
def lay1:List Value:=[str qgY,Xw 259,Xw 260,Xw 261,Xw 262,Xw 263]
def lay2:List Value:=[str qie,Xw 264,Xw 265,Xw 266,Xw 267,Xw 268]
def lay3:List Value:=[str qic,Xw 269,Xw 270,Xw 271,Xw 272,Xw 273]
def lay4:List Value:=[str wRow,Xw 274,Xw 275,Xw 276,Xw 277,Xw 278]
def lay0:List Value:=[str [],.nilFunc,.nilFunc,.nilFunc,.nilFunc,.nilFunc]
def qgT (s:Int) (v:Value):Prop :=
 (v = .tuple #[.agg lay1.toArray,.bool true]∧s=1)∨(v = .tuple #[.agg lay2.toArray,.bool true]∧s=2)∨(v = .tuple #[.agg lay3.toArray,.bool true]∧s=3) ∨
 (v = .tuple #[.agg lay4.toArray,.bool true]∧s=4)∨(v = .tuple #[.agg lay0.toArray,.bool false]∧¬ (1≤s∧s≤4))
theorem PM {h0:AH} (w:WfH h0) (s:Int):Fn Tryz.prog Xh 190 [.int .u8 s] h0 (fun v h'=>qgT s v∧Hs h0 h' []):=by
 have S:=Hs.start w;refine qL (by first|exact KX.no _ _ _ (by decide) rfl) Tryz.func190 rfl rfl ?_;all_goals (repeat' (first|refine qg ?_|refine qh rfl ?_|refine qi ?_|refine qj ?_|(refine qc 0 ?_;(refine al S ?_;clear S;intro b h S);refine mv ?_;refine qf ?_)|(refine qc 1 ?_;refine mv ?_;refine qf ?_)|(refine qc 2 ?_;(first|(refine cS ?_ ?_<;>intro hc))<;>(refine mv ?_;refine qf ?_))|(refine qc 3 ?_;refine vl ?_;(first|(refine sB S rfl rfl ?_;clear S;intro h S));refine mv ?_;refine qf ?_)|(refine qc 4 ?_;(first|(refine cS ?_ ?_<;>intro hc))<;>(refine mv ?_;refine qf ?_))|(refine qc 5 ?_;refine vl ?_;(first|(refine sB S rfl rfl ?_;clear S;intro h S));refine mv ?_;refine qf ?_)|(refine qc 6 ?_;(first|(refine cS ?_ ?_<;>intro hc))<;>(refine mv ?_;refine qf ?_))|(refine qc 7 ?_;refine vl ?_;(first|(refine sB S rfl rfl ?_;clear S;intro h S));refine mv ?_;refine qf ?_)|(refine qc 8 ?_;(first|(refine cS ?_ ?_<;>intro hc))<;>(refine mv ?_;refine qf ?_))|(refine qc 9 ?_;refine vl ?_;(first|(refine sB S rfl rfl ?_;clear S;intro h S));refine mv ?_;refine qf ?_)|(refine qc 10 ?_;refine vl ?_;(first|(refine sB S rfl rfl ?_;clear S;intro h S));refine mv ?_;refine qf ?_)))
 all_goals (refine qo ⟨_,JI S rfl (by first|exact .here) (by exact rfl) (by exact rfl),?_⟩)
 all_goals (refine ⟨?_,S.drop⟩;unfold qgT)
 ·exact .inl ⟨rfl,by omega⟩
 ·exact .inr (.inl ⟨rfl,by omega⟩)
 ·exact .inr (.inr (.inl ⟨rfl,by omega⟩))
 ·exact .inr (.inr (.inr (.inl ⟨rfl,by omega⟩)))
 ·exact .inr (.inr (.inr (.inr ⟨rfl,by omega⟩)))
def zW (s a b:Int):Int:=if s=1 then Q9 a b else if s=2 then ZV a b else if s=3 then ZP a b else if s=4 then ZB a b else 0
def zl (t:Tab):Int:=zW t.shape t.A t.B
theorem Y1 {h0:AH} (w:WfH h0) (t:Tab):Fn Tryz.prog Xh 133 [J8 t] h0 (fun v h'=>v = .int .i64 (zl t)∧Hs h0 h' []):=by
 have S:=Hs.start w;refine qL (by first|exact KX.no _ _ _ (by decide) rfl) Tryz.func133 rfl rfl ?_;all_goals (repeat' (first|refine qg ?_|(refine qc 0 ?_;(refine bx S ?_;clear S;intro b h S);refine mv ?_;refine qf ?_)|(refine qc 1 ?_;refine vl ?_;refine lB S rfl rfl ?_)))
 (refine qw rfl rfl rfl rfl rfl ((PM S.wf _).mono ?_);rintro _ h ⟨⟨rfl,hs⟩|⟨rfl,hs⟩|⟨rfl,hs⟩|⟨rfl,hs⟩|⟨rfl,hs⟩,x⟩)<;>(have S:=S.qE x;refine mv ?_;refine vl ?_;refine vl ?_;(refine al S ?_;clear S;intro b h S);(first|(refine sB S rfl rfl ?_;clear S;intro h S));refine mv ?_;refine qf ?_)
 all_goals (repeat' (first|refine qg ?_|refine qh rfl ?_|refine qi ?_|(refine qc 2 ?_;refine mv ?_;refine vl ?_;refine qf ?_)|(refine qc 3 ?_;refine mv ?_;refine qf ?_)|(refine qc 4 ?_;refine vl ?_;refine lB S rfl rfl ?_;refine vl ?_;refine lB S rfl rfl ?_;refine vl ?_;refine lB S rfl rfl ?_)))
 ·(refine zK rfl rfl rfl rfl ((vS _ _).mono ?_);rintro _ _ ⟨rfl,rfl⟩)<;>(refine mv ?_;refine qf ?_)
  all_goals (repeat' (fail))
  refine qo ⟨_,rfl,?_⟩;exact ⟨by simp [ji,zl,zW,hs],S.drop⟩
 ·(refine zK rfl rfl rfl rfl ((KI _ _).mono ?_);rintro _ _ ⟨rfl,rfl⟩)<;>(refine mv ?_;refine qf ?_)
  all_goals (repeat' (fail))
  refine qo ⟨_,rfl,?_⟩;exact ⟨by simp [ji,zl,zW,hs],S.drop⟩
 ·(refine zK rfl rfl rfl rfl ((Kq _ _).mono ?_);rintro _ _ ⟨rfl,rfl⟩)<;>(refine mv ?_;refine qf ?_)
  all_goals (repeat' (fail))
  refine qo ⟨_,rfl,?_⟩;exact ⟨by simp [ji,zl,zW,hs],S.drop⟩
 ·(refine zK rfl rfl rfl rfl ((pY _ _).mono ?_);rintro _ _ ⟨rfl,rfl⟩)<;>(refine mv ?_;refine qf ?_)
  all_goals (repeat' (fail))
  refine qo ⟨_,rfl,?_⟩;exact ⟨by simp [ji,zl,zW,hs],S.drop⟩
 ·refine qo ⟨_,rfl,?_⟩;refine ⟨?_,S.drop⟩;simp only [ji,zl,zW];rw [if_neg (by omega),if_neg (by omega),if_neg (by omega),if_neg (by omega)]
def qcb (t:Tab) (x y:Int):Prop:=x≠y∧((t.shape=1∧qg6 t.A t.B (min x y) (max x y))∨(t.shape=2∧qi6 t.A t.B (min x y) (max x y))∨(t.shape=3∧qiq t.A t.B (min x y) (max x y))∨(t.shape=4∧rowB t.A t.B (min x y) (max x y)))
def qgd (t:Tab) (x y:Int):Prop:=x≠y∧((t.shape=1∧qg7 t.A t.B (min x y) (max x y))∨(t.shape=2∧qi7 t.A t.B (min x y) (max x y))∨(t.shape=3∧qir t.A t.B (min x y) (max x y)))
def qiV (t:Tab) (x y:Int):Prop:=qcb t x y∨qgd t x y
def qhX (t:Tab):Prop:=1≤t.shape∧t.shape≤4∧0≤t.A∧t.A≤100∧0≤t.B∧t.B≤100
theorem Qv (t:Tab):0≤zl t∧zl t≤24:=by
 unfold zl zW Q9 ZV ZP ZB;repeat' split
 all_goals omega
end Go.Proofs.Xx
namespace Go.Proofs.Xx
open Go Go.Proofs
variable {Xh:Extern} [KX Xh]
theorem qev {h0:AH} (w:WfH h0) (s:List UInt8) (hs:s.length≤9223372036854775807):Fn Tryz.prog Xh 191 [str s] h0 (fun v h'=>qZ v (Qx s)∧Hs h0 h' []):=by
 have S:=Hs.start w;refine qL (by first|rfl|exact KX.no _ _ _ (by decide) rfl) Tryz.func191 rfl rfl ?_;all_goals (repeat' (first|refine qg ?_|refine qh rfl ?_|refine qi ?_|refine qC ?_|refine qj ?_|refine qX ?_|refine qY ?_|(refine qc 0 ?_;refine mv ?_;refine qf ?_)|(refine qc 1 ?_;refine mv ?_;refine qf ?_)))
 refine qH (σ:=Nat) (fun i h'=>Hs h0 h' []∧i≤s.length∧∀ j,j<i→Zt (s.getD j default)) (fun i=>s.length - i) (fun i=>[(0,str s),(3,.int .i64 i)]) 0 qx ?_ ?_
 ·exact ⟨S,zB0 _,fun j hj=>absurd hj (zB7 _)⟩
 clear S;rintro i h ⟨S,h1,h2⟩;all_goals (repeat' (first|refine qg ?_|refine qh rfl ?_|refine qi ?_|refine qC ?_|refine qj ?_|refine qX ?_|refine qY ?_|(refine qc 2 ?_;refine mv ?_;refine mv ?_;refine tl ?_;(first|refine cT ?_|refine cF ?_|(refine cS ?_ ?_<;>intro hc))<;>(refine qf ?_))|(refine qc 3 ?_;refine mv ?_;(first|refine ad ?_|refine vl ?_);refine mv ?_;refine qf ?_)|(refine qc 4 ?_;refine mv ?_;refine mv ?_;(first|refine ti ?_|refine vl ?_);(first|refine cT ?_|refine cF ?_|(refine cS ?_ ?_<;>intro hc))<;>(refine mv ?_;(first|refine off ?_|refine mv ?_);(first|refine off ?_|refine mv ?_);(first|refine off ?_|(first|refine ti ?_|refine vl ?_));(first|refine off ?_|(first|refine cT ?_|refine cF ?_|(refine cS ?_ ?_<;>intro hc)))<;>(refine vl ?_;refine qf ?_)))|(refine qc 5 ?_;refine mv ?_;refine qf ?_)|(refine qc 6 ?_;refine mv ?_;refine tl ?_;(first|refine cT ?_|refine cF ?_|(refine cS ?_ ?_<;>intro hc))<;>(refine mv ?_;(first|refine off ?_|refine mv ?_);(first|refine off ?_|refine tl ?_);(first|refine off ?_|(first|refine cT ?_|refine cF ?_|(refine cS ?_ ?_<;>intro hc)))<;>(refine vl ?_;refine mv ?_;refine qf ?_)))))
 all_goals (try simp only [zA0] at *)
 ·refine qo ⟨_,rfl,?_⟩;exact ⟨.inr ⟨rfl,fun q=>by have:=q.2.2 i (by omega);unfold Zt at this;simp only [show (default:UInt8)=0 from rfl] at this;omega⟩,S.drop⟩
 ·refine qo ⟨_,rfl,?_⟩;exact ⟨.inr ⟨rfl,fun q=>by have:=q.2.2 i (by omega);unfold Zt at this;simp only [show (default:UInt8)=0 from rfl] at this;omega⟩,S.drop⟩
 ·refine ⟨i+1,?_,?_,qx⟩
  ·show s.length - (i+1)<s.length - i;omega
  ·refine ⟨S,by omega,fun j hj=>?_⟩;rcases zA7 j i with q|q
   ·exact h2 j q
   ·have e:j=i:=by omega
    subst e;unfold Zt;simp only [show (default:UInt8)=0 from rfl];omega
 all_goals (refine qo ⟨_,rfl,?_⟩)
 all_goals refine ⟨?_,S.drop⟩
 ·exact .inl ⟨rfl,by omega,by omega,fun j hj=>h2 j (by omega)⟩
 ·exact .inr ⟨rfl,fun q=>by have:=q.2.1;omega⟩
 ·exact .inr ⟨rfl,fun q=>by have:=q.1;omega⟩
end Go.Proofs.Xx
namespace Go.Proofs.Xx
open Go Go.Proofs
variable {Xh:Extern} [KX Xh]
def WI (n:Int) (l:List Int):Prop:=∀ i,i<l.length→(0≤l.getD i default∧l.getD i default<n)∧(0<i→l.getD (i - 1) default<l.getD i default)
def qdl (t:Tab):Prop:=0≤t.X∧t.X≤1000∧0≤t.Y∧t.Y≤1000
open Classical in
noncomputable def chk (t:Tab):Int:=if ¬ Qx t.name then 4 else if zl t=0 then 10 else if ¬ WI (zl t) t.opn then 11 else if ¬ qdl t then 2 else 0
abbrev TabR (h:AH) (t:Tab):Prop:=zC h t.ov 1 eI t.opn∧t.name.length≤9223372036854775807∧t.opn.length≤9223372036854775807
abbrev qjN (h:AH) (t:Tab):Prop:=zC h t.ov 1 eI t.opn∧t.name.length≤9223372036854775807∧t.opn.length≤9223372036854775807
theorem TabR.toL {h:AH} {t:Tab} (r:TabR h t):qjN h t:=⟨r.1,zD0 r.2.1 (by decide),zD0 r.2.2 (by decide)⟩
theorem qdg {h0:AH} (w:WfH h0) (t:Tab) (r:qjN h0 t):Fn Tryz.prog Xh 134 [J8 t] h0 (fun v h'=>v = .int .i64 (chk t)∧Hs h0 h' []):=by
 have S:=Hs.start w;obtain ⟨hr,hnm,hol⟩:=r;refine qL (by first|exact KX.no _ _ _ (by decide) rfl) Tryz.func134 rfl rfl ?_;all_goals (repeat' (first|refine qg ?_|(refine qc 0 ?_;(refine bx S ?_;clear S;intro b h S);refine mv ?_;refine qf ?_)|(refine qc 1 ?_;refine lB S rfl rfl ?_)))
 (refine qw rfl rfl rfl rfl rfl ((Y1 S.wf t).mono ?_);rintro _ h ⟨rfl,x⟩)<;>(replace S:=S.qE x;clear x;refine mv ?_;refine qf ?_)
 all_goals (repeat' (first|refine qg ?_|refine qj ?_|(refine qc 2 ?_;refine mv ?_;refine qf ?_)|(refine qc 3 ?_;refine vl ?_;refine lB S rfl rfl ?_)))
 (refine qw rfl rfl rfl rfl rfl ((qev S.wf t.name hnm).mono ?_);rintro _ h ⟨⟨rfl,hq⟩|⟨rfl,hq⟩,x⟩)<;>(replace S:=S.qE x;clear x;refine vl ?_;refine mv ?_;refine qf ?_)
 all_goals (repeat' (first|refine qg ?_|refine qh rfl ?_|refine qi ?_|refine qj ?_|(refine qc 4 ?_;refine mv ?_;refine qf ?_)|(refine qc 5 ?_;refine mv ?_;(first|(refine cS ?_ ?_<;>intro hc))<;>(refine mv ?_;refine qf ?_))|(refine qc 6 ?_;refine mv ?_;refine qf ?_)|(refine qc 7 ?_;refine vl ?_;refine lB S rfl rfl ?_;refine jf S ?_;refine mv ?_;refine qf ?_)))
 ·refine qo ⟨_,rfl,?_⟩;exact ⟨by unfold chk;rw [if_neg (by simpa using hq),if_pos hc];rfl,S.drop⟩
 ·refine qH (σ:=Nat×Int) (fun (i,la) h'=>Hs h0 h' [.blk b (J8 t).cells.toList 93]∧i≤t.opn.length∧(∀ j,j<i→(0≤t.opn.getD j default∧t.opn.getD j default<zl t)∧(0<j→t.opn.getD (j - 1) default<t.opn.getD j default))∧(la=if i=0 then -1 else t.opn.getD (i - 1) default)) (fun (i,la)=>t.opn.length - i) (fun (i,la)=>[(1,.pointer (some ⟨b,0,none⟩)),(3,.int .i64 (zl t)),(4,.int .i64 la),(18,t.ov),(19,.int .i64 t.opn.length),(20,.int .i64 i)]) (0,-1) qx ?_ ?_
  ·exact ⟨S,zB0 _,fun j hj=>absurd hj (zB7 _),rfl⟩
  clear S;rintro ⟨i,la⟩ h ⟨S,h1,h2,h3⟩;all_goals (repeat' (first|refine qg ?_|refine qh rfl ?_|refine qi ?_|refine qC ?_|refine qj ?_|(refine qc 8 ?_;(first|(refine cS ?_ ?_<;>intro hc))<;>(refine qf ?_))|(refine qc 9 ?_;refine jF S ?_;refine jk S ?_;refine mv ?_;refine qf ?_)|(refine qc 10 ?_;refine mv ?_;refine mv ?_;(first|(refine cS ?_ ?_<;>intro hc))<;>(refine mv ?_;(first|refine off ?_|refine mv ?_);(first|refine off ?_|refine mv ?_);(first|refine off ?_|(first|(refine cS ?_ ?_<;>intro hc)))<;>(refine vl ?_;refine qf ?_)))|(refine qc 11 ?_;refine mv ?_;refine qf ?_)|(refine qc 12 ?_;refine mv ?_;refine mv ?_;refine qf ?_)|(refine qc 13 ?_;refine ad ?_;refine mv ?_;refine qf ?_)|(refine qc 14 ?_;refine vl ?_;refine lB S rfl rfl ?_;(first|(refine cS ?_ ?_<;>intro hc))<;>(refine mv ?_;(first|refine off ?_|(refine vl ?_));(first|refine off ?_|(refine lB S rfl rfl ?_));(first|refine off ?_|(first|(refine cS ?_ ?_<;>intro hc)))<;>(refine vl ?_;refine mv ?_;(first|refine off ?_|(refine vl ?_));(first|refine off ?_|(refine lB S rfl rfl ?_));(first|refine off ?_|(first|(refine cS ?_ ?_<;>intro hc)))<;>(refine vl ?_;refine mv ?_;(first|refine off ?_|(refine vl ?_));(first|refine off ?_|(refine lB S rfl rfl ?_));(first|refine off ?_|(first|(refine cS ?_ ?_<;>intro hc)))<;>(refine vl ?_;refine qf ?_)))))|(refine qc 15 ?_;refine mv ?_;refine qf ?_)|(refine qc 16 ?_;refine mv ?_;refine qf ?_)))
  all_goals (try simp only [zA0] at *)
  ·refine qo ⟨_,rfl,?_⟩;refine ⟨?_,S.drop⟩;have:¬ WI (zl t) t.opn:=fun q=>by
    have q1:=q i (by omega);split at h3<;>rename_i hi
    ·subst hi;omega
    ·have:=q1.2 (by omega);omega
   unfold chk;rw [if_neg (by simpa using hq),if_neg (by assumption),if_pos this];rfl
  ·refine qo ⟨_,rfl,?_⟩;refine ⟨?_,S.drop⟩;have:¬ WI (zl t) t.opn:=fun q=>by have q1:=q i (by omega);omega
   unfold chk;rw [if_neg (by simpa using hq),if_neg (by assumption),if_pos this];rfl
  ·refine ⟨(i+1,t.opn.getD i default),?_,?_,qx⟩
   ·show t.opn.length - (i+1)<t.opn.length - i;omega
   ·refine ⟨S,by omega,fun j hj=>?_,by simp⟩;rcases zA7 j i with q|q
    ·exact h2 j q
    ·have e:j=i:=by omega
     subst e;split at h3<;>rename_i hi
     ·exact ⟨by omega,fun q=>by omega⟩
     ·have:=(h2 (j - 1) (by omega)).1;exact ⟨by omega,fun q=>by omega⟩
  all_goals
   have hok:WI (zl t) t.opn:=fun j hj=>h2 j (by omega);refine qo ⟨_,rfl,?_⟩;refine ⟨?_,S.drop⟩;unfold chk;rw [if_neg (by simpa using hq),if_neg (by assumption),if_neg (by simpa using hok)];first
    | (rw [if_pos (by unfold qdl;omega)];rfl)
    | (rw [if_neg (by unfold qdl;omega)];rfl)
 ·refine qo ⟨_,rfl,?_⟩;exact ⟨by unfold chk;rw [if_pos (by simpa using hq)];rfl,S.drop⟩
theorem qcU {h0:AH} (w:WfH h0) (t:Tab) (r:TabR h0 t):Fn Tryz.prog Xh 134 [J8 t] h0 (fun v h'=>v = .int .i64 (chk t)∧Hs h0 h' []):=qdg w t (TabR.toL r)
end Go.Proofs.Xx
namespace Go.Proofs.Xx
open Go Go.Proofs
variable {Xh:Extern} [KX Xh]
def qcf (v:Value) (p:Nat→Prop) (n:Nat):Prop:=(∃ i:Nat,i<n∧v = .int .i64 i∧p i∧∀ j,j<i→¬ p j)∨(v = .int .i64 (-1)∧∀ j,j<n→¬ p j)
theorem Ws {h0:AH} (w:WfH h0) (v:Value) (l:List Tab) (g:Nat) (cap:List Value) (p:Nat→Prop) (hr:zC h0 v 7 eT l) (hl:l.length≤1000)
 (hf:∀ i h,i<l.length→Hs h0 h []→Fn Tryz.prog Xh g (J8 (l.getD i default) :: cap) h (fun v h'=>qZ v (p i)∧Hs h h' [])) :
 Fn Tryz.prog Xh 302 [v,.func (.func g) #[] cap.toArray] h0 (fun r h'=>qcf r p l.length∧Hs h0 h' []):=by
 have S:=Hs.start w;refine qL (by first|exact KX.no _ _ _ (by decide) rfl) Tryz.func302 rfl rfl ?_;all_goals (repeat' (first|refine qg ?_|refine qj ?_|(refine qc 0 ?_;refine mv ?_;refine qf ?_)|(refine qc 1 ?_;refine mv ?_;refine jf S ?_;refine mv ?_;refine qf ?_)))
 refine qH (σ:=Nat) (fun i h'=>Hs h0 h' []∧i≤l.length∧∀ j,j<i→¬ p j) (fun i=>l.length - i) (fun i=>[(0,v),(1,.func (.func g) #[] cap.toArray),(7,.int .i64 l.length),(8,.int .i64 i)]) 0 qx ?_ ?_
 ·exact ⟨S,zB0 _,fun j hj=>absurd hj (zB7 _)⟩
 clear S;rintro i h ⟨S,h1,h2⟩;all_goals (repeat' (first|refine qg ?_|refine qh rfl ?_|refine qi ?_|refine qC ?_|refine qj ?_|(refine qc 2 ?_;(first|(refine cS ?_ ?_<;>intro hc))<;>(refine qf ?_))|(refine qc 3 ?_;refine mv ?_;refine mv ?_;refine qf ?_)|(refine qc 4 ?_;(iterate 3 refine mv ?_);refine jF S ?_;refine jk S ?_)|(refine qc 7 ?_;refine mv ?_;refine qf ?_)))
 ·(refine zK rfl rfl rfl rfl ((hf i _ (by omega) S).mono ?_);rintro _ h ⟨⟨rfl,hq⟩|⟨rfl,hq⟩,x⟩)<;>(replace S:=S.qE x;clear x;refine qf ?_)
  all_goals (repeat' (first|refine qg ?_|refine qh rfl ?_|refine qi ?_|(refine qc 5 ?_;refine mv ?_;refine mv ?_;refine qf ?_)|(refine qc 6 ?_;refine ad ?_;refine mv ?_;refine qf ?_)))
  ·refine qo ⟨_,rfl,?_⟩;exact ⟨.inl ⟨i,by omega,rfl,hq,h2⟩,S⟩
  ·refine ⟨i+1,?_,?_,qx⟩
   ·show l.length - (i+1)<l.length - i;omega
   ·refine ⟨S,by omega,fun j hj=>?_⟩;rcases zA7 j i with q|q
    ·exact h2 j q
    ·have e:j=i:=by omega
     subst e;exact hq
 ·refine qo ⟨_,rfl,?_⟩;exact ⟨.inr ⟨rfl,fun j hj=>h2 j (by omega)⟩,S⟩
theorem yR {h0:AH} (w:WfH h0) (v:Value) (l:List Tab) (g:Nat) (cap:List Value) (p:Nat→Prop) (hr:zC h0 v 7 eT l) (hl:l.length≤1000)
 (hf:∀ i h,i<l.length→Hs h0 h []→Fn Tryz.prog Xh g (J8 (l.getD i default) :: cap) h (fun v h'=>qZ v (p i)∧Hs h h' [])) :
 Fn Tryz.prog Xh 257 [v,.func (.func g) #[] cap.toArray] h0 (fun r h'=>qZ r (∃ i,i<l.length∧p i)∧Hs h0 h' []):=by
 have S:=Hs.start w;refine qL (by first|exact KX.no _ _ _ (by decide) rfl) Tryz.func257 rfl rfl ?_;all_goals (repeat' (first|refine qg ?_|(refine qc 0 ?_;refine mv ?_;refine qf ?_)|(refine qc 1 ?_;refine mv ?_;refine mv ?_)))
 (refine qw rfl rfl rfl rfl rfl ((Ws S.wf v l g cap p hr hl hf).mono ?_);rintro _ h ⟨⟨i,hi,rfl,hq,hn⟩|⟨rfl,hn⟩,x⟩)<;>(replace S:=S.qE x;clear x;(first|refine cT ?_|refine cF ?_)<;>(refine mv ?_;refine qf ?_))
 all_goals (repeat' (fail))
 all_goals (try omega)
 all_goals (refine qo ⟨_,rfl,?_⟩)
 ·exact ⟨.inl ⟨rfl,i,hi,hq⟩,S⟩
 ·exact ⟨.inr ⟨rfl,fun ⟨j,hj,hp⟩=>hn j hj hp⟩,S⟩
end Go.Proofs.Xx
namespace Go.Proofs.Xx
open Go Go.Proofs
variable {Xh:Extern} [KX Xh]
abbrev tb (l:List Tab) (i:Nat):Tab:=l.getD i default
def kH (l:List Tab) (k:Nat):Prop:=∃ j,j<k∧(tb l j).name=(tb l k).name
def Zu (l:List Tab) (k:Nat):Prop:=chk (tb l k)=0∧¬ kH l k
def ChkAll (l:List Tab) (i e:Int):Prop :=
 (16<l.length∧i=0∧e=7)∨(l.length≤16∧((∃ k:Nat,k<l.length∧i=k∧(∀ j,j<k→Zu l j)∧((chk (tb l k)≠0∧e=chk (tb l k))∨(chk (tb l k)=0∧kH l k∧e=5)))∨((∀ j,j<l.length→Zu l j)∧i=0∧e=0)))
structure HallR (h:AH) (v:Value) (l:List Tab):Prop where
 rd:zC h v 7 eT l
 tab:∀ i,i<l.length→TabR h (tb l i)
 len:l.length≤1000
 cap:Q7 v
theorem TabR.ext {h h':AH} {t:Tab} (r:TabR h t) (w:WfH h) (x:Ext h h'):TabR h' t:=⟨r.1.ext w x,r.2⟩
theorem HallR.ext {h h':AH} {v:Value} {l:List Tab} (r:HallR h v l) (w:WfH h) (x:Ext h h'):HallR h' v l:=⟨r.rd.ext w x,fun i hi=>(r.tab i hi).ext w x,r.len,r.cap⟩
def ValidL (l:List Tab):Prop:=l.length≤16∧∀ j,j<l.length→Zu l j
theorem ChkAll.valid {l:List Tab} {i e:Int} (a:ChkAll l i e):e=0↔ValidL l:=by
 rcases a with ⟨h1,h2,h3⟩|⟨h1,⟨k,hk,h2,h3,⟨h4,h5⟩|⟨h4,h5,h6⟩⟩|⟨h2,h3,h4⟩⟩
 ·exact ⟨fun q=>by omega,fun q=>by have:=q.1;omega⟩
 ·exact ⟨fun q=>absurd (h5 ▸ q) h4,fun q=>absurd (q.2 k hk).1 h4⟩
 ·exact ⟨fun q=>by omega,fun q=>absurd h5 (q.2 k hk).2⟩
 ·exact ⟨fun _=>⟨h1,h2⟩,fun _=>h4⟩
theorem ChkAll.uniq {l:List Tab} {i e i' e':Int} (a:ChkAll l i e) (b:ChkAll l i' e'):i=i'∧e=e':=by
 have key:∀ {k k':Nat},(∀ j,j<k→Zu l j)→¬ Zu l k'→k≤k':=fun g n=>Nat.le_of_not_lt fun q=>n (g _ q);have bad:∀ {k:Nat} {e:Int},((chk (tb l k)≠0∧e=chk (tb l k))∨(chk (tb l k)=0∧kH l k∧e=5))→¬ Zu l k:=fun q g=>q.elim (fun q=>q.1 g.1) (fun q=>g.2 q.2.1);rcases a with ⟨h1,h2,h3⟩|⟨h1,⟨k,hk,h2,h3,h4⟩|⟨h2,h3,h4⟩⟩<;>rcases b with ⟨g1,g2,g3⟩|⟨g1,⟨k',hk',g2,g3,g4⟩|⟨g2,g3,g4⟩⟩
 ·exact ⟨by omega,by omega⟩
 ·omega
 ·omega
 ·omega
 ·have e1:=key h3 (bad g4);have e2:=key g3 (bad h4);have:k=k':=by omega
  subst this;refine ⟨by omega,?_⟩;rcases h4 with ⟨h4,h5⟩|⟨h4,h5,h6⟩<;>rcases g4 with ⟨g4,g5⟩|⟨g4,g5,g6⟩
  ·omega
  ·exact absurd g4 h4
  ·exact absurd h4 g4
  ·omega
 ·exact absurd (g2 k hk) (bad h4)
 ·omega
 ·exact absurd (h2 k' hk') (bad g4)
 ·exact ⟨by omega,by omega⟩
def sumT (l:List Tab):Nat→Int
 | 0=>0
 | k+1=>sumT l k+zl (tb l k)
theorem pV {h0:AH} (w:WfH h0) (t u:Tab) (b:Nat) (hb:h0.get b=some (.cells (eT u) 93 none false)):Fn Tryz.prog Xh 258 [J8 t,.pointer (some ⟨b,0,none⟩)] h0 (fun v h'=>qZ v (t.name=u.name)∧Hs h0 h' []):=by
 have S:=Hs.start w;refine qL (by first|exact KX.no _ _ _ (by decide) rfl) Tryz.func258 rfl rfl ?_;all_goals (repeat' (first|refine qg ?_|(refine qc 0 ?_;(refine bx S ?_;clear S;intro b h S);refine mv ?_;refine qf ?_)|(refine qc 1 ?_;refine vl ?_;refine lB S rfl rfl ?_;refine vl ?_;refine lH S ?_;(refine tS ?_ ?_<;>intro hc)<;>(refine mv ?_;refine qf ?_))))
 all_goals (refine qo ⟨_,rfl,?_⟩)
 all_goals (refine ⟨?_,S.drop⟩;unfold qZ)
 ·exact .inl ⟨rfl,hc⟩
 ·exact .inr ⟨rfl,hc⟩
theorem XV {h0:AH} (w:WfH h0) (v:Value) (l:List Tab) (H:HallR h0 v l):Fn Tryz.prog Xh 189 [v] h0 (fun r h'=>∃ i e,r = .tuple #[.int .i64 i,.int .i64 e]∧ChkAll l i e∧Hs h0 h' []):=by
 have S:=Hs.start w;have hl:=H.len;have hr:=H.rd;refine qL (by first|exact KX.no _ _ _ (by decide) rfl) Tryz.func189 rfl rfl ?_;all_goals (repeat' (first|refine qg ?_|refine qh rfl ?_|refine qi ?_|refine qj ?_|(refine qc 0 ?_;refine mv ?_;refine mv ?_;refine qf ?_)|(refine qc 1 ?_;refine mv ?_;refine jf S ?_;(first|(refine cS ?_ ?_<;>intro hc))<;>(refine qf ?_))|(refine qc 2 ?_;refine mv ?_;refine mv ?_;refine qf ?_)|(refine qc 3 ?_;refine mv ?_;refine jf S ?_;refine mv ?_;refine qf ?_)))
 ·refine qo ⟨_,rfl,?_⟩;exact ⟨0,7,rfl,.inl ⟨by omega,rfl,rfl⟩,S⟩
 ·refine qH (σ:=Nat) (fun i h'=>Hs h0 h' []∧i≤l.length∧∀ j,j<i→Zu l j) (fun i=>l.length - i) (fun i=>[(0,v),(10,v),(11,.int .i64 l.length),(12,.int .i64 i)]) 0 qx ?_ ?_
  ·exact ⟨S,zB0 _,fun j hj=>absurd hj (zB7 _)⟩
  clear S;rintro i h ⟨S,h1,h2⟩;all_goals (repeat' (first|refine qg ?_|refine qh rfl ?_|refine qi ?_|refine qC ?_|refine qj ?_|(refine qc 4 ?_;(first|(refine cS ?_ ?_<;>intro hc))<;>(refine qf ?_))|(refine qc 5 ?_;refine mv ?_;refine jF S ?_;refine jk S ?_;(refine al S ?_;clear S;intro b h S);refine mv ?_;(first|(refine sB S rfl rfl ?_;clear S;intro h S));refine qf ?_)|(refine qc 6 ?_;refine lB S rfl rfl ?_)|(refine qc 12 ?_;refine mv ?_;refine mv ?_;refine qf ?_)))
  ·(try simp only [zA0] at *)
   have hi:i<l.length:=by omega
   (refine qw rfl rfl rfl rfl rfl ((qcU S.wf (tb l i) ((H.tab i hi).ext w S.ext)).mono ?_);rintro _ h ⟨rfl,x⟩)<;>(replace S:=S.qE x;clear x;refine mv ?_;refine qf ?_)
   all_goals (repeat' (first|refine qg ?_|refine qh rfl ?_|refine qi ?_|(refine qc 7 ?_;refine mv ?_;(first|(refine cS ?_ ?_<;>intro hc))<;>(refine qf ?_))|(refine qc 8 ?_;(iterate 4 refine mv ?_);refine qf ?_)|(refine qc 9 ?_;refine mv ?_;refine mv ?_)))
   ·refine qo ⟨_,rfl,?_⟩;exact ⟨i,_,rfl,.inr ⟨by omega,.inl ⟨i,hi,rfl,h2,.inl ⟨by simpa using hc,rfl⟩⟩⟩,S.drop⟩
   ·refine su 0 i (hr.ext w S.ext) H.cap ?_;intro vs hrs hcs;(refine vl ?_);have gb:=S.gB (b:=b);have hlen:((l.drop 0).take (i - 0)).length=i:=by simp;omega
    have hget:∀ k,k<i→((l.drop 0).take (i - 0)).getD k default=tb l k:=fun k hk=>by
     unfold tb;simp only [List.drop_zero,Nat.sub_zero,zA2,zC7,if_pos hk]
    have hf:∀ k h',k<((l.drop 0).take (i - 0)).length→Hs h h' []→Fn Tryz.prog Xh 258 (J8 (((l.drop 0).take (i - 0)).getD k default) :: [.pointer (some ⟨b,0,none⟩)]) h' (fun v h''=>qZ v ((tb l k).name=(tb l i).name)∧Hs h' h'' []):=fun k h' hk x=>by
     rw [hget k (by omega)];exact pV x.wf (tb l k) (tb l i) b (x.ext.get S.wf gb)
    (refine qw rfl rfl rfl rfl rfl ((yR S.wf vs _ 258 [.pointer (some ⟨b,0,none⟩)] (fun k=>(tb l k).name=(tb l i).name) hrs (by omega) hf).mono ?_);rintro _ h ⟨⟨rfl,hq⟩|⟨rfl,hq⟩,x⟩)<;>(replace S:=S.qE x;clear x;refine qf ?_)
    all_goals (repeat' (first|refine qg ?_|refine qh rfl ?_|refine qi ?_|(refine qc 10 ?_;(iterate 3 refine mv ?_);refine qf ?_)|(refine qc 11 ?_;refine ad ?_;refine mv ?_;refine qf ?_)))
    ·refine qo ⟨_,rfl,?_⟩;obtain ⟨j,hj,hq⟩:=hq;exact ⟨i,5,rfl,.inr ⟨by omega,.inl ⟨i,hi,rfl,h2,.inr ⟨by simpa using hc,⟨j,by omega,hq⟩,rfl⟩⟩⟩,S.drop⟩
    ·refine ⟨i+1,?_,?_,qx⟩
     ·show l.length - (i+1)<l.length - i;omega
     ·refine ⟨S.drop,by omega,fun j hj=>?_⟩;rcases zA7 j i with q|q
      ·exact h2 j q
      ·obtain rfl:j=i:=by omega
       exact ⟨by simpa using hc,fun ⟨k,hk,he⟩=>hq ⟨k,by omega,he⟩⟩
  ·refine qo ⟨_,rfl,?_⟩;exact ⟨0,0,rfl,.inr ⟨by omega,.inr ⟨fun j hj=>h2 j (by omega),rfl,rfl⟩⟩,S⟩
theorem YT {h0:AH} (w:WfH h0) (v:Value) (l:List Tab) (H:HallR h0 v l):Fn Tryz.prog Xh 132 [v] h0 (fun r h'=>qZ r (ValidL l)∧Hs h0 h' []):=by
 have S:=Hs.start w;refine qL (by first|exact KX.no _ _ _ (by decide) rfl) Tryz.func132 rfl rfl ?_;all_goals (repeat' (first|refine qg ?_|(refine qc 0 ?_;refine mv ?_;refine qf ?_)|(refine qc 1 ?_;refine mv ?_)))
 (refine qw rfl rfl rfl rfl rfl ((XV S.wf v l H).mono ?_);rintro _ h ⟨i,e,rfl,hk,x⟩)<;>(replace S:=S.qE x;clear x;refine mv ?_;refine vl ?_;refine vl ?_;refine mv ?_;refine mv ?_;refine qf ?_)
 all_goals (repeat' (first|refine qg ?_|(refine qc 2 ?_;refine mv ?_;(first|(refine cS ?_ ?_<;>intro hc))<;>(refine mv ?_;refine qf ?_))))
 all_goals (refine qo ⟨_,rfl,?_⟩)
 ·exact ⟨.inl ⟨rfl,hk.valid.1 hc⟩,S⟩
 ·exact ⟨.inr ⟨rfl,fun q=>hc (hk.valid.2 q)⟩,S⟩
end Go.Proofs.Xx
