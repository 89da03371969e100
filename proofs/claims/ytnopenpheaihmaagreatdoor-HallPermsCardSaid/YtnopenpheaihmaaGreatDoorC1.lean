/-
  Facts of this program's types; the reference's permutation check.
-/
import Derived.Test.YtnopenpheaihmaaGreatDoorB6
import Derived.Test.YtnopenpheaihmaaGreatDoorA23
import Derived.KernelRfl
namespace Go.Proofs.Xx
open Go Go.Proofs
set_option linter.unusedSimpArgs false
set_option linter.unusedVariables false

theorem und23 : Tryz.prog.underlying 23 = some (.slice 3) := by kernel_rfl
theorem und56 : Tryz.prog.underlying 56 = some (.slice 4) := by kernel_rfl
theorem sz3 : sizeT Tryz.prog 3 = some 1 := by kernel_rfl
theorem agg3 : isAggT Tryz.prog 3 = some false := by kernel_rfl
theorem sz4 : sizeT Tryz.prog 4 = some 1 := by kernel_rfl
theorem agg4 : isAggT Tryz.prog 4 = some false := by kernel_rfl
theorem el23 : sliceElem Tryz.prog 23 = some 3 := by kernel_rfl
theorem el56 : sliceElem Tryz.prog 56 = some 4 := by kernel_rfl
theorem z3 : zeroCellsT Tryz.prog 3 = some [.int .i64 0] := by kernel_rfl
theorem z4 : zeroCellsT Tryz.prog 4 = some [.bool false] := by kernel_rfl
theorem by3 : bytesT Tryz.prog 3 = some 8 := by kernel_rfl
theorem by4 : bytesT Tryz.prog 4 = some 1 := by kernel_rfl
/-- v reads as the ints l. -/
abbrev RdI (h : AH) (v : Value) (l : List Int) : Prop := Rd h v 1 l.length (ints l)

def refPerm (l : List Int) : Bool := decide (∀ i : Nat, i < l.length → (i : Int) ∈ l)

theorem permutation_ref {h : AH} {v : Value} {l : List Int} (r : RdI h v l) (hl : l.length < 2^62) :
    Fn Tryz.prog Xh 80 [v] h (fun u h' => u = .bool (refPerm l) ∧ h' = h) := by
  refine Fn_K rfl Tryz.func80 rfl rfl ?_
  refine K_seq (K_region (KO_val rfl rfl rfl (KO_nil ?_)))
  refine K_seq (K_seq (K_region (KO_val rfl rfl rfl (KO_nil ?_))))
  refine K_block ?_
  refine K_loop (fun m L h' => h' = h ∧ ∃ i : Nat, m + i = l.length ∧ (∀ k : Nat, k < i → (k : Int) ∈ l) ∧ L = [(0, v), (3, .int .i64 i)]) ?_ l.length ⟨rfl, 0, rfl, by omega, rfl⟩ (Ks.le_cons rfl (Ks.le_cons rfl (Ks.le_nil _)))
  rintro m L h' ⟨rfl, i, him, hi, rfl⟩
  refine K_seq (K_seq (K_region (KO_val rfl rfl rfl (KO_val rfl rfl rfl (KO_len rfl rfl rfl (r.len und23) rfl (KO_val rfl rfl rfl (KO_nil ?_)))))))
  refine K_cond2 rfl (fun hv => ?_) (fun hv => ?_)
  · have hv := of_decide_eq_true hv
    refine K_skip ?_
    refine K_seq (K_block (K_seq (K_region (KO_val rfl rfl rfl (KO_nil ?_)))))
    refine K_seq (K_seq (K_region (KO_val rfl rfl rfl (KO_nil ?_))))
    refine K_block ?_
    refine K_loop (fun m L h'' => h'' = h' ∧ ∃ j : Nat, m + j = l.length ∧ L = [(0, v), (3, .int .i64 i), (4, .bool (decide ((i : Int) ∈ l.take j))), (5, .int .i64 j)]) ?_ l.length ⟨rfl, 0, rfl, rfl⟩ (Ks.le_cons rfl (Ks.le_cons rfl (Ks.le_cons rfl (Ks.le_cons rfl (Ks.le_nil _)))))
    · rintro m2 L h'' ⟨rfl, j, hj, rfl⟩
      refine K_seq (K_seq (K_region ?_))
      iterate 2 refine KO_val rfl rfl rfl ?_
      refine KO_len rfl rfl rfl (r.len und23) rfl ?_
      refine KO_val rfl rfl rfl (KO_nil ?_)
      refine K_cond2 rfl (fun hw => ?_) (fun hw => ?_)
      · have hw := of_decide_eq_true hw
        refine K_skip ?_
        have hjl : j < l.length := by omega
        obtain ⟨p, hp1, hp2⟩ := r.at1 und23 sz3 agg3 (ik := .i64) (ints_get (List.getElem?_eq_getElem hjl))
        refine K_seq (K_block (K_region ?_))
        by_cases hb : (i : Int) ∈ l.take j
        · rw [decide_eq_true hb]
          iterate 2 refine KO_val rfl rfl rfl ?_
          iterate 6 refine KO_off rfl rfl ?_
          iterate 2 refine KO_val rfl rfl rfl ?_
          refine KO_nil ?_
          refine K_region ?_
          refine KO_val rfl rfl rfl ?_
          refine KO_bin rfl rfl rfl rfl (add_i64 (c := ((j + 1 : Nat) : Int)) (by omega) (by omega) (by omega)) rfl ?_
          refine KO_val rfl rfl rfl (KO_nil ?_)
          refine ⟨m2 - 1, _, by omega, ⟨rfl, j + 1, by omega, rfl⟩, Ks.le_cons rfl (Ks.le_cons rfl (Ks.le_cons ?_ (Ks.le_cons rfl (Ks.le_nil _))))⟩
          rw [decide_eq_true (List.take_subset_take_left l (by omega) hb)]; rfl
        · rw [decide_eq_false hb]
          iterate 4 refine KO_val rfl rfl rfl ?_
          refine KO_index rfl rfl rfl rfl hp1 rfl ?_
          refine KO_load rfl rfl rfl hp2 rfl ?_
          iterate 4 refine KO_val rfl rfl rfl ?_
          refine KO_nil ?_
          refine K_region ?_
          refine KO_val rfl rfl rfl ?_
          refine KO_bin rfl rfl rfl rfl (add_i64 (c := ((j + 1 : Nat) : Int)) (by omega) (by omega) (by omega)) rfl ?_
          refine KO_val rfl rfl rfl (KO_nil ?_)
          refine ⟨m2 - 1, _, by omega, ⟨rfl, j + 1, by omega, rfl⟩, Ks.le_cons rfl (Ks.le_cons rfl (Ks.le_cons ?_ (Ks.le_cons rfl (Ks.le_nil _))))⟩
          have : decide ((i : Int) ∈ l.take (j + 1)) = (l[j] == (i : Int)) := by
            rw [List.take_succ_eq_append_getElem hjl, Bool.eq_iff_iff]
            simp only [decide_eq_true_iff, List.mem_append, hb, false_or, List.mem_singleton, beq_iff_eq]
            exact ⟨Eq.symm, Eq.symm⟩
          rw [this]; rfl
      · have hw := of_decide_eq_false hw
        have hjl : j = l.length := by omega
        subst hjl
        rw [List.take_length]
        refine K_exit ?_
        show K Tryz.prog Xh _ _ _ _ _ _
        refine K_seq (K_region ?_)
        iterate 2 refine KO_val rfl rfl rfl ?_
        refine KO_nil ?_
        refine K_cond2 rfl (fun hx => ?_) (fun hx => ?_)
        · refine K_seq (K_region (KO_val rfl rfl rfl (KO_nil ?_)))
          refine K_ret ?_
          refine ⟨_, rfl, ?_, rfl⟩
          have hx : (!decide ((i : Int) ∈ l)) = true := hx
          have : ¬ (i : Int) ∈ l := by simpa using hx
          have : refPerm l = false := by
            unfold refPerm
            rw [decide_eq_false_iff_not]
            intro hall
            exact this (hall i (by omega))
          rw [this]; rfl
        · refine K_skip ?_
          refine K_region ?_
          refine KO_val rfl rfl rfl ?_
          refine KO_bin rfl rfl rfl rfl (add_i64 (c := ((i + 1 : Nat) : Int)) (by omega) (by omega) (by omega)) rfl ?_
          refine KO_val rfl rfl rfl (KO_nil ?_)
          refine ⟨m - 1, _, by omega, ⟨rfl, i + 1, by omega, fun k hk => ?_, rfl⟩, Ks.le_cons rfl (Ks.le_cons rfl (Ks.le_nil _))⟩
          rcases Nat.lt_or_ge k i with q | q
          · exact hi k q
          · obtain rfl : k = i := by omega
            have hx : (!decide ((k : Int) ∈ l)) = false := hx
            simpa using hx
  · have hv := of_decide_eq_false hv
    refine K_exit ?_
    show K Tryz.prog Xh _ _ _ _ _ _
    refine K_seq (K_region (KO_val rfl rfl rfl (KO_nil ?_)))
    refine K_ret ?_
    refine ⟨_, rfl, ?_, rfl⟩
    have : refPerm l = true := by
      unfold refPerm
      rw [decide_eq_true_iff]
      exact fun k hk => hi k (by omega)
    rw [this]; rfl
end Go.Proofs.Xx
