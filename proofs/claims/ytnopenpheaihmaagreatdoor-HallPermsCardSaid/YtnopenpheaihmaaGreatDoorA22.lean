/-
  A call whose checked run has come to an end: what the machine's call gives.
-/
import Derived.Test.YtnopenpheaihmaaGreatDoorA21
import Derived.Calls
import Derived.Laws.Externs
namespace Go.Proofs.Xx
open Go Go.RowKit
set_option linter.unusedSimpArgs false
set_option linter.unusedVariables false

section
variable {P : Program}

theorem callA_calls [Glob] {X : Extern} {run : Runner} (hR : RunOk P run) {f : FuncId} {args : List Value} {h h' : AH} {v : Value} (hc : callA P X run f args h = some (v, h')) (hXn : X f args h = none)
    {fn : Func} {body : Code} (hfn : P.funcs[f]? = some fn) (hb : fn.body = some body) {B : Bs} {e : Emb} {w : World} {args' : List Value} (r : Rel B e h w) (hargs : VRs e args args') :
    ∃ e' v' w', Rel B e' h' w' ∧ Turn e h w e' h' w' ∧ VR e' v v' ∧ Calls P f args'.toArray w (fun en w'' => en = .returned v' ∧ w'' = w') := by
  unfold callA at hc
  rw [hXn, hfn] at hc
  simp only [hb] at hc
  have hlen := hargs.length
  have hent : Frame.enter P f args'.toArray .normal = fr f none (args'.toArray ++ Array.replicate (fn.ntmps - args'.length) undef) [.code body] [] := by
    simp [Frame.enter, fr, hfn, hb]
  have T : TR e (args.length + (fn.ntmps - args.length)) (enterArgs 0 args .e) (args'.toArray ++ Array.replicate (fn.ntmps - args'.length) undef) := by
    refine enterArgs_sound ⟨by simp [hlen], fun k u hk => by rw [Tr.get_e] at hk; cases hk⟩ hargs (by omega) fun j hj => ?_
    rw [Nat.zero_add, Array.getElem?_append_left (by simpa using hj)]
    simp
  split at hc
  · cases hc
  rotate_left
  · cases hc
  rename_i x t h1 hx hrun
  split at hc
  rotate_left
  · cases hc
  rename_i vs hvs
  cases hc
  obtain ⟨e1, w1, tm1, dn, r1, u1, T1, m1, -, a1⟩ := hR _ _ _ _ _ _ _ _ hrun B e w _ f none r T (fun _ => rfl)
  obtain ⟨rs, d1, d2, d3⟩ := m1.ex
  obtain ⟨w2, b2, st2⟩ := unwind_marks (P := P) (N := w.heap.size) (e := e1) (fn := f) (tm := tm1) rs w1 d2 d3
  have r2 := r1.beside b2 r.base
  obtain ⟨vs', p1, p2⟩ := resultsA_sound (P := P) r2 T1 hvs
  have main : ∀ cs, ∃ todo, Steps P (lone (fr f none (args'.toArray ++ Array.replicate (fn.ntmps - args'.length) undef) [.code body] []) cs w) (lone (gone f tm1 todo dn) cs w1) := by
    cases x with
    | norm =>
      refine fun cs => ⟨[], ?_⟩
      have := a1 [] [] cs
      rw [List.append_nil] at this
      exact Steps.trans this (.one st_end)
    | exit id => exact (hx id rfl).elim
    | ret =>
      refine fun cs => ?_
      obtain ⟨k', hk⟩ := a1 [] [] cs
      rw [List.append_nil] at hk
      exact ⟨_, Steps.trans hk (.one st_ret)⟩
  refine ⟨e1, _, w2, r2, u1.beside b2, oneOrTuple_sound p2, fun cs => ?_⟩
  obtain ⟨todo, hst⟩ := main cs
  refine ⟨_, w2, gone f tm1 todo [], ⟨rfl, rfl⟩, ?_, rfl, rfl, rfl, rfl, fn, hfn, ?_⟩
  · rw [hent]
    rw [d1] at hst
    exact Steps.trans hst (st2 todo cs)
  · rw [show (gone f tm1 todo []).tmps = tm1 from rfl, results_eq, Sem.run_bind, Array.mapM_eq_mapM_toList, Sem.run_map, p1]
    rfl

theorem Rel.empty [Glob] {B : Bs} {e : Emb} {h : AH} {w : World} (r : Rel B e h w) : Rel B (fun _ => none) ⟨.e, 0, 0⟩ w :=
  ⟨fun b L q => (by cases q), fun b _ => Tr.get_e b, fun b L q => (by cases q), fun b L o q => (by cases q), fun b L o b' L' o' q => (by cases q), fun b L o q => (by cases q), r.base, r.keep, r.glob⟩

/-- What X tells, and that function f, called without arguments, returns v. -/
def withKnown (X : Extern) (f : FuncId) (v : Bool) : Extern := fun g args h => match Nat.beq g f, args with
  | true, [] => some (.bool v, h)
  | _, _ => X g args h
/-- A function without arguments whose run from the empty memory ends leaves everything as it was, but for new blocks. -/
theorem withKnown_ok [Glob] {X X1 : Extern} {run : Runner} (hX : XOk P X) (hC : CallOk P (callA P X1 run)) {f : FuncId} {h' : AH} {v : Bool} (hc : callA P X1 run f [] ⟨.e, 0, 0⟩ = some (.bool v, h')) : XOk P (withKnown X f v) := by
  intro g args h u h1 hx B e w args' r hargs
  unfold withKnown at hx
  split at hx
  · rename_i hg
    cases hx
    have := Nat.eq_of_beq_eq_true hg
    subst this
    have := hargs.nil_inv
    subst this
    obtain ⟨e1, v1, w1, r1, u1, hv, hs⟩ := hC _ _ _ _ _ hc _ _ w [] r.empty .nil
    cases hv
    have hk : ∀ k, k < w.heap.size → w1.heap[k]? = w.heap[k]? := fun k hk => u1.keep k hk fun b L q => by cases q
    refine ⟨e, .bool v, w1, ?_, ?_, .bool v, hs⟩
    · exact ⟨r.dom, r.wf, fun b L q => Nat.lt_of_lt_of_le (r.rng b L q) u1.size, fun b L o q1 q2 => (r.obj b L o q1 q2).world (hk _ (r.rng b L q1)), r.inj, r.own, Nat.le_trans r.base u1.size, fun k q => (hk k (by have := r.base; omega)).trans (r.keep k q), r.glob⟩
    · exact ⟨e.le_refl, Nat.le_refl _, Nat.le_refl _, fun _ _ q _ => q, fun b L q n => (by rw [n] at q; cases q), u1.size, fun k q _ => hk k q, fun _ _ _ => rfl, u1.os, u1.tape, u1.output⟩
  · exact hX _ _ _ _ _ hx B e w args' r hargs

/-- internal/abi.NoEscape, as function number n. -/
def externNoEscape (n : Nat) : Extern := fun f args h => match Nat.beq f n, args with
  | true, [x] => some (x, h)
  | _, _ => none
theorem externNoEscape_ok [Glob] {n : Nat} {fn : Func} (hfn : P.funcs[n]? = some fn) (hname : (fn.name == "runtime.NumGoroutine") = false) (hb : fn.body.isNone = true) (hn : Extern.findNext fn = none)
    (he : Extern.find fn = some Extern.AbiNoEscape.same) : XOk P (externNoEscape n) := by
  intro f args h v h' hx B e w args' r hargs
  unfold externNoEscape at hx
  split at hx
  · rename_i x hf
    cases hx
    have := Nat.eq_of_beq_eq_true hf
    subst this
    obtain ⟨x', r', rfl, hx', hr'⟩ := hargs.cons_inv
    have := hr'.nil_inv; subst this
    refine ⟨e, x', w, r, Turn.refl _ _ _, hx', .inl ?_⟩
    rw [run_callFunc_extern hfn hname hb hn he]
    rfl
  · cases hx
end
end Go.Proofs.Xx
