/-
  The machine's steps over one frame, also in a round of a range over a function.
-/
import Derived.Test.YtnopenpheaihmaaGreatDoorA12
namespace Go.Proofs.Xx
open Go
set_option linter.unusedSimpArgs false
set_option linter.unusedVariables false

/-- A running frame. -/
def fr (fn : FuncId) (ro : Option Nat) (tm : Array Value) (todo : List Item) (ds : List Deferred) : Frame :=
  { fn := fn, tmps := tm, todo := todo, defers := ds, mode := .run, kind := .normal, roundOf := ro }

theorem fr_eval (fn : FuncId) (ro : Option Nat) (tm : Array Value) (todo : List Item) (ds : List Deferred) : (fr fn ro tm todo ds).eval = evC tm := by
  funext o; cases o <;> rfl

section
variable {P : Program} {fn : FuncId} {ro : Option Nat} {tm : Array Value} {k : List Item} {ds : List Deferred} {cs : List Frame} {w : World}

theorem st_skip : step P (lone (fr fn ro tm (.code .skip :: k) ds) cs w) = .next (lone (fr fn ro tm k ds) cs w) := step_lone_go (by simp [stepG, stepG.exec, fr])
theorem st_label {l : Nat} : step P (lone (fr fn ro tm (.code (.label l) :: k) ds) cs w) = .next (lone (fr fn ro tm k ds) cs w) := step_lone_go (by simp [stepG, stepG.exec, fr])
theorem st_inBlock {id : Nat} : step P (lone (fr fn ro tm (.inBlock id :: k) ds) cs w) = .next (lone (fr fn ro tm k ds) cs w) := step_lone_go (by simp [stepG, stepG.exec, fr])
theorem st_inScope {c : Code} : step P (lone (fr fn ro tm (.inScope c :: k) ds) cs w) = .next (lone (fr fn ro tm k ds) cs w) := step_lone_go (by simp [stepG, stepG.exec, fr])
theorem st_seq {x y : Code} : step P (lone (fr fn ro tm (.code (.seq x y) :: k) ds) cs w) = .next (lone (fr fn ro tm (.code x :: .code y :: k) ds) cs w) := step_lone_go (by simp [stepG, stepG.exec, fr])
theorem st_cond {c : Operand} {x y : Code} {b : Bool} (h : evC tm c = .bool b) : step P (lone (fr fn ro tm (.code (.cond c x y) :: k) ds) cs w) = .next (lone (fr fn ro tm (.code (if b then x else y) :: k) ds) cs w) :=
  step_lone_go (by
    have := congrFun (fr_eval fn ro tm (.code (.cond c x y) :: k) ds) c
    simp only [fr] at this
    simp [stepG, stepG.exec, fr, this, h])
theorem st_block {id : Nat} {c : Code} : step P (lone (fr fn ro tm (.code (.block id c) :: k) ds) cs w) = .next (lone (fr fn ro tm (.code c :: .inBlock id :: k) ds) cs w) := step_lone_go (by simp [stepG, stepG.exec, fr])
theorem st_loop {c : Code} : step P (lone (fr fn ro tm (.code (.loop c) :: k) ds) cs w) = .next (lone (fr fn ro tm (.code c :: .inLoop c :: k) ds) cs w) := step_lone_go (by simp [stepG, stepG.exec, fr])
theorem st_inLoop {c : Code} : step P (lone (fr fn ro tm (.inLoop c :: k) ds) cs w) = .next (lone (fr fn ro tm (.code c :: .inLoop c :: k) ds) cs w) := step_lone_go (by simp [stepG, stepG.exec, fr])
theorem st_scope {c : Code} : step P (lone (fr fn ro tm (.code (.scope c) :: k) ds) cs w) = .next (lone (fr fn ro tm (.code c :: .inScope c :: k) ds) cs w) := step_lone_go (by simp [stepG, stepG.exec, fr])
theorem st_exit {id : Nat} {k' : List Item} (h : exitTo id k = some k') : step P (lone (fr fn ro tm (.code (.exit id) :: k) ds) cs w) = .next (lone (fr fn ro tm k' ds) cs w) := step_lone_go (by simp [stepG, stepG.exec, fr, h])
theorem st_region {id : Nat} {ops : Array Oper} : step P (lone (fr fn ro tm (.code (.region id ops false) :: k) ds) cs w) = .next (lone (fr fn ro tm (.inRegion ops (List.range ops.size) :: k) ds) cs w) := step_lone_go (by simp [stepG, stepG.exec, fr])
theorem st_region_draw {id : Nat} {ops : Array Oper} : step P (lone (fr fn ro tm (.code (.region id ops true) :: k) ds) cs w) =
    .next (lone (fr fn ro tm (.inRegion ops (Region.schedule (P.follows .mixedOrders) ops (w.tape w.drawn (.order fn id))) :: k) ds) cs { w with drawn := w.drawn + 1 }) :=
  step_lone_go (by simp [stepG, stepG.exec, fr, choose, Sem.run, Question.forced, Question.cut])
theorem st_region_end {ops : Array Oper} : step P (lone (fr fn ro tm (.inRegion ops [] :: k) ds) cs w) = .next (lone (fr fn ro tm k ds) cs w) := step_lone_go (by simp [stepG, stepG.exec, fr])

/-- What an operation leaves in the frame. -/
def putC (tm : Array Value) (d : Option Tmp) (v : Value) : Array Value := match d with | some d => tm.setIfInBounds d v | none => tm

theorem fr_finish {ops : Array Oper} {i : Nat} {rest : List Nat} (v : Value) : (fr fn ro tm (.inRegion ops (i :: rest) :: k) ds).finish v = fr fn ro (putC tm ((ops[i]?).bind (·.dst)) v) (.inRegion ops rest :: k) ds := by
  unfold Frame.finish fr putC
  simp only
  cases (ops[i]?).bind (·.dst) <;> rfl

theorem st_op_skip {ops : Array Oper} {i : Nat} {rest : List Nat} (h : ((ops[i]?).map (Region.wanted · (yielded ops tm))).getD false = false) :
    step P (lone (fr fn ro tm (.inRegion ops (i :: rest) :: k) ds) cs w) = .next (lone (fr fn ro (putC tm ((ops[i]?).bind (·.dst)) undef) (.inRegion ops rest :: k) ds) cs w) := by
  refine step_lone_go ?_
  rw [← fr_finish]
  simp [stepG, stepG.exec, fr, h]

def isDefer : Op → Bool
  | .defer _ => true
  | _ => false

theorem st_op_value {ops : Array Oper} {i : Nat} {rest : List Nat} {o : Oper} {v : Value} {w' : World} (ho : ops[i]? = some o) (hw : Region.wanted o (yielded ops tm) = true) (hd : isDefer o.op = false)
    (hr : (execOp (evC tm) o).run P w = .ok (.value v) w') :
    step P (lone (fr fn ro tm (.inRegion ops (i :: rest) :: k) ds) cs w) = .next (lone (fr fn ro (putC tm o.dst v) (.inRegion ops rest :: k) ds) cs w') := by
  refine step_lone_go ?_
  have h1 := fr_finish (fn := fn) (ro := ro) (tm := tm) (k := k) (ds := ds) (ops := ops) (i := i) (rest := rest) v
  have h2 := fr_eval fn ro tm (.inRegion ops (i :: rest) :: k) ds
  simp only [ho, Option.bind_some] at h1
  rw [← h1]
  simp only [fr] at h2 ⊢
  simp only [stepG, stepG.exec, ho, Option.map_some, hw, Option.getD_some, if_true, stepG.oper, Frame.oper?]
  have h3 : ∀ (x : GStep) (y : Call → GStep), (match ro, o.op with | some l, .defer c => y c | _, _ => x) = x := by
    intro x y
    cases hop : o.op <;> first | (cases ro <;> rfl) | (rw [hop] at hd; cases hd)
  cases ro with
  | none => simp [stepG.apply, h2, hr]
  | some l =>
    cases hop : o.op <;> first | (rw [hop] at hd; cases hd; done) | simp [stepG.apply, h2, hr]

end
end Go.Proofs.Xx
