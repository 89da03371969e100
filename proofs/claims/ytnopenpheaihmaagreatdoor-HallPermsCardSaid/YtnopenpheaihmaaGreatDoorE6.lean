/-
  HallPerms: its contract, for the row.
-/
import Derived.Test.YtnopenpheaihmaaGreatDoorC6
import Derived.Test.YtnopenpheaihmaaGreatDoorD4
namespace Go.Proofs.Xx
open Go
set_option linter.unusedSimpArgs false
set_option linter.unusedVariables false

/-- A slice of ints among the arguments. -/
theorem AR.ofInts {P : Program} {t e : TypeId} {h : AH} {n : Nat} {r : List Value} (ht : P.underlying t = some (.slice e)) (he : P.underlying e = some (.int .i64)) (hc : P.cellsOf e = 1) (a : AR P h n t r) :
    ∃ l : List Int, Rd h (absV P t r) 1 l.length (ints l) ∧ l.length ≤ maxLen := by
  cases n with
  | zero => exact a.elim
  | succ n =>
    unfold AR at a
    rw [ht] at a
    unfold absV
    rw [ht]
    split at a
    all_goals (first | exact a.elim | (rename_i q _; cases q; done) | (rename_i q; cases q; done) | skip)
    rename_i e' v q
    cases q
    obtain ⟨k, c, h1, h2, h3⟩ := a
    rw [hc] at h1
    have hlen := h1.length
    have : ∃ l : List Int, c = ints l := by
      refine ⟨c.map fun x => match x with | .int _ n => n | _ => 0, List.ext_getElem? fun i => ?_⟩
      by_cases hi : i < c.length
      · have h4 := h3 i (by omega)
        rw [hc, Nat.mul_one] at h4
        have hone : (c.drop i).take 1 = [c[i]] := by rw [List.drop_eq_getElem_cons hi]; rfl
        rw [hone] at h4
        cases n with
        | zero => exact h4.elim
        | succ n =>
          unfold AR at h4
          rw [he] at h4
          rw [List.getElem?_eq_getElem hi]
          simp only [ints, List.map_map, List.getElem?_map, List.getElem?_eq_getElem hi, Option.map_some, Function.comp]
          generalize c[i] = x at h4 ⊢
          cases x <;> first | (exact h4.elim) | skip
          rename_i k' m
          obtain ⟨rfl, -⟩ := h4
          rfl
      · rw [List.getElem?_eq_none (by omega), List.getElem?_eq_none (by simp [ints]; omega)]
    obtain ⟨l, rfl⟩ := this
    rw [ints_length] at hlen
    refine ⟨l, ?_, by omega⟩
    rw [show l.length = k by omega]
    exact h1

theorem hallPerms_core (h : AH) (us : List Value) (w : WfH h) (a : ArgsR Tryz.prog h Tryz.f8.params.toList us) : Fn Tryz.prog Xh 8 us h (fun x _ => x = .bool true) := by
  rw [show Tryz.f8.params.toList = [23, 23] by kernel_rfl] at a
  obtain ⟨n0, r0, us, rfl, a0, a⟩ := a.cons_inv
  obtain ⟨n1, r1, us, rfl, a1, a⟩ := a.cons_inv
  obtain rfl := a.nil_inv
  obtain ⟨p, rp, -⟩ := AR.ofInts und23 (by kernel_rfl) (by kernel_rfl) a0
  obtain ⟨q, rq, -⟩ := AR.ofInts und23 (by kernel_rfl) (by kernel_rfl) a1
  exact (hallPerms_true w rp rq).mono fun _ _ hh => hh.1
end Go.Proofs.Xx
