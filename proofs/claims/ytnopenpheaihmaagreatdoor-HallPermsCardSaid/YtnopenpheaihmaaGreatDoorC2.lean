/-
  hall.permutation.
-/
import Derived.Test.YtnopenpheaihmaaGreatDoorC1
namespace Go.Proofs.Xx
open Go Go.Proofs
set_option linter.unusedSimpArgs false
set_option linter.unusedVariables false

def permOk (l : List Int) : Bool := decide ((∀ x ∈ l, 0 ≤ x ∧ x < l.length) ∧ l.Nodup)
def seenL (l : List Int) (i : Nat) : List Value := (List.range l.length).map fun (k : Nat) => Value.bool (decide ((k : Int) ∈ l.take i))
theorem seenL_length (l : List Int) (i : Nat) : (seenL l i).length = l.length := by simp [seenL]
theorem seenL_get {l : List Int} {i k : Nat} (hk : k < l.length) : (seenL l i)[k]? = some (.bool (decide ((k : Int) ∈ l.take i))) := by simp [seenL, hk]
theorem seenL_zero (l : List Int) : zeroRow [.bool false] l.length = seenL l 0 := by
  rw [zeroRow_one]
  apply List.ext_getElem?
  intro k
  by_cases hk : k < l.length
  · rw [seenL_get hk]; simp [hk]
  · rw [List.getElem?_eq_none (by simp; omega), List.getElem?_eq_none (by rw [seenL_length]; omega)]
theorem seenL_set {l : List Int} {i k : Nat} (hi : i < l.length) (hk : k < l.length) (hx : l[i] = (k : Int)) : (seenL l i).set k (.bool true) = seenL l (i + 1) := by
  apply List.ext_getElem?
  intro j
  by_cases hj : j < l.length
  · rw [List.getElem?_set, seenL_get (i := i + 1) hj, List.take_succ_eq_append_getElem hi, hx]
    by_cases hjk : k = j
    · subst hjk; simp [seenL_length, hj]
    · rw [if_neg hjk, seenL_get hj]
      have : ((j : Int) ∈ l.take i ++ [(k : Int)]) ↔ (j : Int) ∈ l.take i := by simp; omega
      simp only [this]
  · rw [List.getElem?_eq_none (by rw [List.length_set, seenL_length]; omega), List.getElem?_eq_none (by rw [seenL_length]; omega)]

theorem nodup_take_succ {l : List Int} {i : Nat} (hi : i < l.length) (h : (l.take i).Nodup) (hn : ¬ l[i] ∈ l.take i) : (l.take (i + 1)).Nodup := by
  rw [List.take_succ_eq_append_getElem hi, List.nodup_append]
  exact ⟨h, by simp, fun a ha b hb q => by simp at hb; subst hb; subst q; exact hn ha⟩

theorem permutation_ok {h : AH} {v : Value} {l : List Int} (w : WfH h) (r : RdI h v l) (hl : l.length < 2^30) :
    Fn Tryz.prog Xh 116 [v] h (fun u h' => u = .bool (permOk l) ∧ Ext h h') := by
  refine Fn_K rfl Tryz.func116 rfl rfl ?_
  refine K_seq (K_region (KO_val rfl rfl rfl (KO_nil ?_)))
  refine K_seq (K_region ?_)
  refine KO_val rfl rfl rfl ?_
  refine KO_len rfl rfl rfl (r.len und23) rfl ?_
  obtain ⟨s, h1, m1, m2, m3⟩ := make_own w el56 z4 by4 (n := l.length) (by omega)
  refine KO_make rfl rfl rfl rfl m1 rfl ?_
  refine KO_val rfl rfl rfl (KO_nil ?_)
  rw [seenL_zero] at m2
  have r1 := r.ext w m3
  refine K_seq (K_seq (K_region ?_))
  refine KO_val rfl rfl rfl ?_
  refine KO_len rfl rfl rfl (r1.len und23) rfl ?_
  refine KO_val rfl rfl rfl (KO_nil ?_)
  refine K_block ?_
  refine K_loop (fun m L h2 => Ext h h2 ∧ ∃ i : Nat, m + i = l.length ∧ Own h2 s h.next 4 1 l.length (seenL l i) ∧ (∀ x ∈ l.take i, 0 ≤ x ∧ x < l.length) ∧ (l.take i).Nodup ∧ L = [(0, v), (3, s), (9, v), (10, .int .i64 l.length), (11, .int .i64 i)]) ?_ l.length
    ⟨m3, 0, rfl, m2, by simp, by simp, rfl⟩ (Ks.le_cons rfl (Ks.le_cons rfl (Ks.le_cons rfl (Ks.le_cons rfl (Ks.le_cons rfl (Ks.le_nil _))))))
  rintro m L h2 ⟨x2, i, him, own, hin, hnd, rfl⟩
  have r2 := r.ext w x2
  refine K_seq (K_region (KO_val rfl rfl rfl (KO_nil ?_)))
  refine K_seq ?_
  refine K_cond2 rfl (fun hv => ?_) (fun hv => ?_)
  · have hv := of_decide_eq_true hv
    have hi : i < l.length := by omega
    refine K_skip ?_
    refine K_seq (K_block (K_seq (K_region ?_)))
    obtain ⟨p, hp1, hp2⟩ := r2.at1 und23 sz3 agg3 (ik := .i64) (ints_get (List.getElem?_eq_getElem hi))
    refine KO_index rfl rfl rfl rfl hp1 rfl ?_
    refine KO_load rfl rfl rfl hp2 rfl ?_
    refine KO_val rfl rfl rfl (KO_nil ?_)
    refine K_seq (K_seq (K_region (KO.mono (R' := fun L' h' => h' = h2 ∧ ∃ B : Bool, (B = true → permOk l = false) ∧ (B = false → 0 ≤ l[i] ∧ l[i] < l.length ∧ ¬ l[i] ∈ l.take i) ∧
      Ks.le [(0, v), (3, s), (5, .int .i64 l[i]), (9, v), (10, .int .i64 l.length), (11, .int .i64 i), (28, .bool B)] L') ?_ ?_)))
    · refine KO_val rfl rfl rfl ?_
      by_cases hx0 : l[i] < 0
      · refine KO_bin rfl rfl rfl rfl (lss_i64 (decide_eq_true hx0)) rfl ?_
        refine KO_val rfl rfl rfl ?_
        iterate 4 refine KO_off rfl rfl ?_
        iterate 2 refine KO_val rfl rfl rfl ?_
        iterate 4 refine KO_off rfl rfl ?_
        refine KO_val rfl rfl rfl (KO_nil ?_)
        refine ⟨rfl, true, fun _ => ?_, (by simp), ?_⟩
        · rw [permOk, decide_eq_false_iff_not]
          rintro ⟨q, -⟩
          have := q l[i] (List.getElem_mem hi); omega
        · repeat (first | exact Ks.le_nil _ | refine Ks.le_cons rfl ?_)
      · refine KO_bin rfl rfl rfl rfl (lss_i64 (decide_eq_false hx0)) rfl ?_
        iterate 3 refine KO_val rfl rfl rfl ?_
        refine KO_len rfl rfl rfl (r2.len und23) rfl ?_
        by_cases hx1 : l[i] ≥ l.length
        · refine KO_bin rfl rfl rfl rfl (geq_i64 (decide_eq_true hx1)) rfl ?_
          iterate 2 refine KO_val rfl rfl rfl ?_
          iterate 4 refine KO_off rfl rfl ?_
          refine KO_val rfl rfl rfl (KO_nil ?_)
          refine ⟨rfl, true, fun _ => ?_, (by simp), ?_⟩
          · rw [permOk, decide_eq_false_iff_not]
            rintro ⟨q, -⟩
            have := q l[i] (List.getElem_mem hi); omega
          · repeat (first | exact Ks.le_nil _ | refine Ks.le_cons rfl ?_)
        · refine KO_bin rfl rfl rfl rfl (geq_i64 (decide_eq_false hx1)) rfl ?_
          iterate 4 refine KO_val rfl rfl rfl ?_
          obtain ⟨k, hk⟩ := Int.eq_ofNat_of_zero_le (show 0 ≤ l[i] by omega)
          have hkl : k < l.length := by omega
          obtain ⟨p2, hq1, hq2⟩ := own.rd.at1 und56 sz4 agg4 (ik := .i64) (seenL_get hkl)
          refine KO_index rfl rfl rfl rfl (by rw [hk]; exact hq1) rfl ?_
          refine KO_load rfl rfl rfl hq2 rfl ?_
          refine KO_val rfl rfl rfl (KO_nil ?_)
          refine ⟨rfl, decide ((k : Int) ∈ l.take i), fun q => ?_, fun q => ?_, ?_⟩
          · have q := of_decide_eq_true q
            rw [permOk, decide_eq_false_iff_not]
            rintro ⟨-, nd⟩
            rw [← List.take_append_drop i l, List.nodup_append] at nd
            refine nd.2.2 _ q (k : Int) ?_ rfl
            rw [← hk, List.drop_eq_getElem_cons hi]; exact List.mem_cons_self
          · have q := of_decide_eq_false q
            rw [← hk] at q
            exact ⟨by omega, by omega, q⟩
          · repeat (first | exact Ks.le_nil _ | refine Ks.le_cons rfl ?_)
    · rintro L' h3 ⟨rfl, B, hB1, hB2, hle⟩
      refine K.le hle ?_
      cases B with
      | true =>
        refine K_cond rfl ?_
        refine K_seq (K_region (KO_val rfl rfl rfl (KO_nil ?_)))
        refine K_ret ?_
        exact ⟨_, rfl, by rw [hB1 rfl]; rfl, x2⟩
      | false =>
        obtain ⟨y1, y2, y3⟩ := hB2 rfl
        refine K_cond rfl ?_
        refine K_skip ?_
        refine K_region ?_
        obtain ⟨k, hk⟩ := Int.eq_ofNat_of_zero_le y1
        have hkl : k < l.length := by omega
        obtain ⟨p2, o1, o2, o3⟩ := own.set und56 sz4 (ik := .i64) hkl (x := .bool true) rfl rfl
        iterate 2 refine KO_val rfl rfl rfl ?_
        refine KO_index rfl rfl rfl rfl (by rw [hk]; exact o1) rfl ?_
        refine KO_store rfl rfl rfl rfl o2 rfl (KO_nil ?_)
        refine K_region ?_
        refine KO_bin rfl rfl rfl rfl (add_i64 (c := ((i + 1 : Nat) : Int)) (by omega) (by omega) (by omega)) rfl ?_
        refine KO_val rfl rfl rfl (KO_nil ?_)
        rw [seenL_set hi hkl hk] at o3 ⊢
        refine ⟨m - 1, _, by omega, ⟨x2.put (Nat.le_refl _) (x2.wf.lt own.obj) _, i + 1, by omega, o3, ?_, nodup_take_succ hi hnd y3, rfl⟩, ?_⟩
        · intro x hx
          rw [List.take_succ_eq_append_getElem hi, List.mem_append] at hx
          rcases hx with hx | hx
          · exact hin x hx
          · simp at hx; subst hx; exact ⟨y1, y2⟩
        · repeat (first | exact Ks.le_nil _ | refine Ks.le_cons rfl ?_)
  · have hv := of_decide_eq_false hv
    have hil : i = l.length := by omega
    subst hil
    rw [List.take_length] at hin hnd
    refine K_exit ?_
    show K Tryz.prog Xh _ _ _ _ _ _
    refine K_seq (K_region (KO_val rfl rfl rfl (KO_nil ?_)))
    refine K_ret ?_
    refine ⟨_, rfl, ?_, x2⟩
    have : permOk l = true := by rw [permOk, decide_eq_true_iff]; exact ⟨hin, hnd⟩
    rw [this]; rfl
end Go.Proofs.Xx
