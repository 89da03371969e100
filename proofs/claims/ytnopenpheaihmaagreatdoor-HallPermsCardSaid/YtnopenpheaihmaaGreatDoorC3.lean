/-
  slices.Equal, slices.Clone of ints.
-/
import Derived.Test.YtnopenpheaihmaaGreatDoorC2
import Derived.Test.YtnopenpheaihmaaGreatDoorB7
namespace Go.Proofs.Xx
open Go Go.Proofs
set_option linter.unusedSimpArgs false
set_option linter.unusedVariables false

theorem take_snoc_eq {a b : List Int} {i : Nat} (ha : i < a.length) (hb : i < b.length) (h : a.take i = b.take i) (hx : a[i] = b[i]) : a.take (i + 1) = b.take (i + 1) := by
  rw [List.take_succ_eq_append_getElem ha, List.take_succ_eq_append_getElem hb, h, hx]

theorem equal_ints {h : AH} {v u : Value} {a b : List Int} (ra : RdI h v a) (rb : RdI h u b) (hl : a.length < 2^30) (hl2 : b.length < 2^30) :
    Fn Tryz.prog Xh 59 [v, u] h (fun x h' => x = .bool (decide (a = b)) ∧ h' = h) := by
  refine Fn_K rfl Tryz.func59 rfl rfl ?_
  refine K_seq (K_region (KO_val rfl rfl rfl (KO_nil ?_)))
  refine K_seq (K_seq (K_region ?_))
  refine KO_val rfl rfl rfl ?_
  refine KO_len rfl rfl rfl (ra.len und23) rfl ?_
  refine KO_val rfl rfl rfl ?_
  refine KO_len rfl rfl rfl (rb.len und23) rfl ?_
  by_cases hlen : a.length = b.length
  · refine KO_bin rfl rfl rfl rfl (neq_i64 (v := false) (decide_eq_true (by omega))) rfl (KO_nil ?_)
    refine K_cond rfl (K_skip ?_)
    refine K_seq (K_seq (K_region ?_))
    refine KO_val rfl rfl rfl ?_
    refine KO_len rfl rfl rfl (ra.len und23) rfl ?_
    refine KO_val rfl rfl rfl (KO_nil ?_)
    refine K_block ?_
    refine K_loop (fun m L h' => h' = h ∧ ∃ i : Nat, m + i = a.length ∧ a.take i = b.take i ∧ L = [(0, v), (1, u), (12, .int .i64 a.length), (13, .int .i64 i)]) ?_ a.length
      ⟨rfl, 0, rfl, by simp, rfl⟩ (by repeat (first | exact Ks.le_nil _ | refine Ks.le_cons rfl ?_))
    rintro m L h' ⟨rfl, i, him, hi, rfl⟩
    refine K_seq (K_region (KO_val rfl rfl rfl (KO_nil ?_)))
    refine K_seq ?_
    refine K_cond2 rfl (fun hv => ?_) (fun hv => ?_)
    · have hv := of_decide_eq_true hv
      have hia : i < a.length := by omega
      have hib : i < b.length := by omega
      refine K_skip ?_
      refine K_seq (K_block (K_seq (K_region (KO_val rfl rfl rfl (KO_val rfl rfl rfl (KO_nil ?_))))))
      refine K_seq (K_draw ?_)
      obtain ⟨p, hp1, hp2⟩ := ra.at1 und23 sz3 agg3 (ik := .i64) (ints_get (List.getElem?_eq_getElem hia))
      obtain ⟨q, hq1, hq2⟩ := rb.at1 und23 sz3 agg3 (ik := .i64) (ints_get (List.getElem?_eq_getElem hib))
      refine KO_val rfl rfl rfl ?_
      refine KO_val rfl rfl rfl ?_
      refine KO_index rfl rfl rfl rfl hp1 rfl ?_
      refine KO_load rfl rfl rfl hp2 rfl ?_
      refine KO_val rfl rfl rfl ?_
      refine KO_val rfl rfl rfl ?_
      refine KO_index rfl rfl rfl rfl hq1 rfl ?_
      refine KO_load rfl rfl rfl hq2 rfl ?_
      by_cases hx : a[i] = b[i]
      · refine KO_bin rfl rfl rfl rfl (neq_i64 (v := false) (decide_eq_true hx)) rfl (KO_nil ?_)
        refine K_cond rfl (K_skip ?_)
        refine K_region ?_
        refine KO_bin rfl rfl rfl rfl (add_i64 (c := ((i + 1 : Nat) : Int)) (by omega) (by omega) (by omega)) rfl ?_
        refine KO_val rfl rfl rfl (KO_nil ?_)
        refine ⟨m - 1, _, by omega, ⟨rfl, i + 1, by omega, take_snoc_eq hia hib hi hx, rfl⟩, ?_⟩
        repeat (first | exact Ks.le_nil _ | refine Ks.le_cons rfl ?_)
      · refine KO_bin rfl rfl rfl rfl (neq_i64 (v := true) (decide_eq_false hx)) rfl (KO_nil ?_)
        refine K_cond rfl ?_
        refine K_seq (K_region (KO_val rfl rfl rfl (KO_nil ?_)))
        refine K_ret ⟨_, rfl, ?_, rfl⟩
        have : decide (a = b) = false := by
          rw [decide_eq_false_iff_not]
          intro q; subst q; exact hx rfl
        rw [this]; rfl
    · have hv := of_decide_eq_false hv
      refine K_exit ?_
      show K Tryz.prog Xh _ _ _ _ _ _
      refine K_seq (K_region (KO_val rfl rfl rfl (KO_nil ?_)))
      refine K_ret ⟨_, rfl, ?_, rfl⟩
      have : decide (a = b) = true := by
        rw [decide_eq_true_iff]
        rw [List.take_of_length_le (by omega), List.take_of_length_le (by omega)] at hi
        exact hi
      rw [this]; rfl
  · refine KO_bin rfl rfl rfl rfl (neq_i64 (v := true) (decide_eq_false (by omega))) rfl (KO_nil ?_)
    refine K_cond rfl ?_
    refine K_seq (K_region (KO_val rfl rfl rfl (KO_nil ?_)))
    refine K_ret ⟨_, rfl, ?_, rfl⟩
    have : decide (a = b) = false := by
      rw [decide_eq_false_iff_not]
      intro q; subst q; exact hlen rfl
    rw [this]; rfl
end Go.Proofs.Xx
