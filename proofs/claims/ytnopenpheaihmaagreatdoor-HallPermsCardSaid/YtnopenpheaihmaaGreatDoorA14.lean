/-
  The machine's steps at calls, rounds and returns.
-/
import Derived.Test.YtnopenpheaihmaaGreatDoorA13
namespace Go.Proofs.Xx
open Go
set_option linter.unusedSimpArgs false
set_option linter.unusedVariables false

section
variable {P : Program} {fn : FuncId} {ro : Option Nat} {tm : Array Value} {k : List Item} {ds : List Deferred} {cs : List Frame} {w : World}

theorem st_op_unit {ops : Array Oper} {i : Nat} {rest : List Nat} {o : Oper} {w' : World} (ho : ops[i]? = some o) (hw : Region.wanted o (yielded ops tm) = true) (hd : isDefer o.op = false)
    (hr : (execOp (evC tm) o).run P w = .ok .skip w') :
    step P (lone (fr fn ro tm (.inRegion ops (i :: rest) :: k) ds) cs w) = .next (lone (fr fn ro (putC tm o.dst undef) (.inRegion ops rest :: k) ds) cs w') := by
  refine step_lone_go ?_
  have h1 := fr_finish (fn := fn) (ro := ro) (tm := tm) (k := k) (ds := ds) (ops := ops) (i := i) (rest := rest) undef
  have h2 := fr_eval fn ro tm (.inRegion ops (i :: rest) :: k) ds
  simp only [ho, Option.bind_some] at h1
  rw [← h1]
  simp only [fr] at h2 ⊢
  simp only [stepG, stepG.exec, ho, Option.map_some, hw, Option.getD_some, if_true, stepG.oper, Frame.oper?]
  cases ro with
  | none => simp [stepG.apply, h2, hr]
  | some l =>
    cases hop : o.op <;> first | (rw [hop] at hd; cases hd; done) | simp [stepG.apply, h2, hr]

theorem st_op_enter {ops : Array Oper} {i : Nat} {rest : List Nat} {o : Oper} {w' : World} {g : FuncId} {args : Array Value} (ho : ops[i]? = some o) (hw : Region.wanted o (yielded ops tm) = true) (hd : isDefer o.op = false)
    (hr : (execOp (evC tm) o).run P w = .ok (.enter g args) w') :
    step P (lone (fr fn ro tm (.inRegion ops (i :: rest) :: k) ds) cs w) = .next (lone (Frame.enter P g args .normal) (fr fn ro tm (.inRegion ops (i :: rest) :: k) ds :: cs) w') := by
  refine step_lone_go ?_
  have h2 := fr_eval fn ro tm (.inRegion ops (i :: rest) :: k) ds
  simp only [fr] at h2 ⊢
  simp only [stepG, stepG.exec, ho, Option.map_some, hw, Option.getD_some, if_true, stepG.oper, Frame.oper?]
  cases ro with
  | none => simp [stepG.apply, h2, hr]
  | some l =>
    cases hop : o.op <;> first | (rw [hop] at hd; cases hd; done) | simp [stepG.apply, h2, hr]

theorem st_op_round {ops : Array Oper} {i : Nat} {rest : List Nat} {o : Oper} {w' : World} {l : Nat} {g : FuncId} {t : Array Value} {asg bo : Code} (ho : ops[i]? = some o) (hw : Region.wanted o (yielded ops tm) = true) (hd : isDefer o.op = false)
    (hr : (execOp (evC tm) o).run P w = .ok (.round l g t asg bo) w') :
    step P (lone (fr fn ro tm (.inRegion ops (i :: rest) :: k) ds) cs w) = .next (lone (fr g (some l) t [.code asg, .beginRound, .code bo] []) (fr fn ro tm (.inRegion ops (i :: rest) :: k) ds :: cs) w') := by
  refine step_lone_go ?_
  have h2 := fr_eval fn ro tm (.inRegion ops (i :: rest) :: k) ds
  simp only [fr] at h2 ⊢
  simp only [stepG, stepG.exec, ho, Option.map_some, hw, Option.getD_some, if_true, stepG.oper, Frame.oper?]
  cases ro with
  | none => simp [stepG.apply, h2, hr, Frame.round]
  | some l =>
    cases hop : o.op <;> first | (rw [hop] at hd; cases hd; done) | simp [stepG.apply, h2, hr, Frame.round]

theorem st_beginRound {l : Nat} {w' : World} (hr : (Instr.beginRound l).run P w = .ok () w') :
    step P (lone (fr fn (some l) tm (.beginRound :: k) ds) cs w) = .next (lone (fr fn (some l) tm k ds) cs w') :=
  step_lone_go (by simp [stepG, stepG.exec, fr, stepG.apply, hr, Frame.finish])

/-- A round ends by itself, or by a jump: the frame that called yield has its answer. -/
theorem st_leave_nil {l : Nat} {w' : World} {v : Value} {c : Frame} (hr : (Instr.endRound l none).run P w = .ok v w') :
    step P (lone (fr fn (some l) tm [] ds) (c :: cs) w) = .next (lone (c.finish v) cs w') :=
  step_lone_go (by simp [stepG, stepG.exec, fr, hr, doReturn])
theorem st_leave_ret {l : Nat} {w' : World} {v : Value} {c : Frame} (hr : (Instr.endRound l (some .ret)).run P w = .ok v w') :
    step P (lone (fr fn (some l) tm (.code .ret :: k) ds) (c :: cs) w) = .next (lone (c.finish v) cs w') :=
  step_lone_go (by simp [stepG, stepG.exec, fr, hr, doReturn])
theorem st_leave_exit {l id : Nat} {w' : World} {v : Value} {c : Frame} (he : exitTo id k = none) (hr : (Instr.endRound l (some (.exit id))).run P w = .ok v w') :
    step P (lone (fr fn (some l) tm (.code (.exit id) :: k) ds) (c :: cs) w) = .next (lone (c.finish v) cs w') :=
  step_lone_go (by simp [stepG, stepG.exec, fr, he, hr, doReturn])

/-- A call ends. -/
def gone (fn : FuncId) (tm : Array Value) (todo : List Item) (ds : List Deferred) : Frame := { fn := fn, tmps := tm, todo := todo, defers := ds, mode := .returning, kind := .normal, roundOf := none }
theorem st_ret : step P (lone (fr fn none tm (.code .ret :: k) ds) cs w) = .next (lone (gone fn tm (.code .ret :: k) ds) cs w) := step_lone_go (by simp [stepG, stepG.exec, fr, gone])
theorem st_end : step P (lone (fr fn none tm [] ds) cs w) = .next (lone (gone fn tm [] ds) cs w) := step_lone_go (by simp [stepG, stepG.exec, fr, gone])
theorem st_mark {r : Nat} {w' : World} (hr : (Instr.takeDeferred r).run P w = .ok [] w') : step P (lone (gone fn tm k ({ target := .collected r, args := #[] } :: ds)) cs w) = .next (lone (gone fn tm k ds) cs w') :=
  step_lone_go (by simp [stepG, unwind, gone, hr])
theorem st_return {c : Frame} {f : Func} {v : Value} {w' : World} (hf : P.funcs[fn]? = some f) (hr : (results f tm).run P w = .ok v w') : step P (lone (gone fn tm k []) (c :: cs) w) = .next (lone (c.finish v) cs w') :=
  step_lone_go (by simp [stepG, unwind, gone, hf, hr, doReturn])

/-- A range over a function begins, and ends. -/
theorem st_rangeFunc {f : Operand} {ps : Array Tmp} {asg bo : Code} {g : FuncId} {first captured args : Array Value} {w1 w2 : World} {l r : Nat}
    (he : (Instr.enterLoop fn tm ps asg bo none).run P w = .ok (l, [{ target := .collected r, args := #[] }]) w1) (hf : evC tm f = .func (.func g) first captured)
    (hc : (callFunc g (first ++ #[.func (.yield l) #[] #[]] ++ captured)).run P w1 = .ok (.enter g args) w2) :
    step P (lone (fr fn none tm (.code (.rangeFunc f ps asg bo) :: k) ds) cs w) =
      .next (lone (Frame.enter P g args .normal) (fr fn none tm (.inRangeFunc l :: k) ({ target := .collected r, args := #[] } :: ds) :: cs) w2) := by
  refine step_lone_go ?_
  have h2 := fr_eval fn none tm (.inRangeFunc l :: k) ({ target := .collected r, args := #[] } :: ds)
  simp only [fr] at h2 ⊢
  simp [stepG, stepG.exec, he, stepG.apply, resolve, h2, hf, Deferred.ofValue, invoke]
  have h9 : first ++ #[Value.func (.yield l) #[] #[]] ++ captured = first.push (.func (.yield l) #[] #[]) ++ captured := by apply Array.ext'; simp
  rw [h9] at hc
  simp [evC, hc]

theorem st_rangeFunc_value {f : Operand} {ps : Array Tmp} {asg bo : Code} {g : FuncId} {first captured : Array Value} {v : Value} {w1 w2 : World} {l r : Nat}
    (he : (Instr.enterLoop fn tm ps asg bo none).run P w = .ok (l, [{ target := .collected r, args := #[] }]) w1) (hf : evC tm f = .func (.func g) first captured)
    (hc : (callFunc g (first ++ #[.func (.yield l) #[] #[]] ++ captured)).run P w1 = .ok (.value v) w2) :
    step P (lone (fr fn none tm (.code (.rangeFunc f ps asg bo) :: k) ds) cs w) =
      .next (lone (fr fn none tm (.endRangeFunc l :: k) ({ target := .collected r, args := #[] } :: ds)) cs w2) := by
  refine step_lone_go ?_
  have h2 := fr_eval fn none tm (.inRangeFunc l :: k) ({ target := .collected r, args := #[] } :: ds)
  simp only [fr] at h2 ⊢
  simp [stepG, stepG.exec, he, stepG.apply, resolve, h2, hf, Deferred.ofValue, invoke]
  have h9 : first ++ #[Value.func (.yield l) #[] #[]] ++ captured = first.push (.func (.yield l) #[] #[]) ++ captured := by apply Array.ext'; simp
  rw [h9] at hc
  simp [evC, hc, Frame.finish]

theorem fr_finish_range {l : Nat} (v : Value) : (fr fn ro tm (.inRangeFunc l :: k) ds).finish v = fr fn ro tm (.endRangeFunc l :: k) ds := rfl
theorem st_endRange {l : Nat} {j : Option Code} {w' : World} (hr : (Instr.endLoop l).run P w = .ok j w') :
    step P (lone (fr fn ro tm (.endRangeFunc l :: k) ds) cs w) = .next (lone (fr fn ro tm ((j.map Item.code).toList ++ k) ds) cs w') :=
  step_lone_go (by simp [stepG, stepG.exec, fr, hr])
end
end Go.Proofs.Xx
