/-
  Sorting by a key, in place: merging.
-/
import Derived.Test.YtnopenpheaihmaaGreatDoorM9
import Derived.Test.YtnopenpheaihmaaGreatDoorM8
import Derived.Test.YtnopenpheaihmaaGreatDoorM12

namespace Go.Proofs.Xx
open Go Go.Proofs
set_option linter.unusedSimpArgs false
set_option linter.unusedVariables false
set_option maxRecDepth 100000

theorem half_sum (i j : Nat) : ((i : Int) + (j : Int)) / 2 = (((i + j) / 2 : Nat) : Int) := by omega
theorem IsRot.none {a b : Nat} {l : List Int} : IsRot a b b l l := fun k => by
  congr 1; unfold rot; split
  · rfl
  · split
    · omega
    · split
      · omega
      · rfl
theorem IsRot.none2 {a b : Nat} {l : List Int} : IsRot a a b l l := fun k => by
  congr 1; unfold rot; split
  · rfl
  · split
    · omega
    · split
      · omega
      · rfl

set_option maxHeartbeats 2000000 in
theorem symm_ok {h0 : AH} {v : Value} {g : Nat} {cap : List Value} {key : Int → Int} {p : Int → Prop} (C : KeyFn h0 g cap key p) : ∀ (n : Nat) {h : AH} {rs : List Rs} {l : List Int} (a m b : Nat) (S : Hs h0 h (.sl v 3 1 eI l :: rs)) (hn : b - a ≤ n) (hp : ∀ k, a ≤ k → k < b → p (l.getD k default)) (hab : a < m ∧ m < b) (hb : b ≤ l.length) (hl : l.length ≤ 1000000) (M : Mrg key a m b l),
    Fn Tryz.prog Xh 179 [v, .int .i64 a, .int .i64 m, .int .i64 b, cvV g cap] h (fun _ h' => ∃ l', Sw a b l l' ∧ Srt (lexi key) a b l' ∧ Hs h0 h' (.sl v 3 1 eI l' :: rs)) := by
  have W := lexi_ord key
  intro n
  induction n with
  | zero => intro h rs l a m b S hn hp hab; omega
  | succ n ih =>
  intro h rs l a m b S hn hp hab hb hl M
  refine Fn_K rfl Tryz.func179 rfl rfl ?_
  all_goals (repeat' (first | refine K_seq ?_ | refine k_cond rfl ?_ | refine K_skip ?_ | refine K_exit ?_ | refine k_block ?_ | refine K_scope ?_ | (refine K_region (id := 0) ?_; refine mv ?_; refine mv ?_; (first | refine sb ?_ | refine vl ?_); (first | refine cT ?_ | refine cF ?_ | (refine cS ?_ ?_ <;> intro hc)) <;> (refine KO_nil ?_)) | (refine K_region (id := 1) ?_; refine mv ?_; refine mv ?_; refine KO_nil ?_) | (refine K_region (id := 2) ?_; refine mv ?_; refine mv ?_; refine KO_nil ?_) | (refine K_region (id := 12) ?_; refine mv ?_; refine mv ?_; (first | refine sb ?_ | refine vl ?_); (first | refine cT ?_ | refine cF ?_ | (refine cS ?_ ?_ <;> intro hc)) <;> (refine KO_nil ?_)) | (refine K_region (id := 13) ?_; refine mv ?_; refine mv ?_; refine KO_nil ?_) | (refine K_region (id := 14) ?_; refine mv ?_; refine mv ?_; refine KO_nil ?_)))
  · obtain rfl : m = a + 1 := by omega
    refine k_loop (σ := Nat × Nat) (fun (i, j) h' => Hs h0 h' (.sl v 3 1 eI l :: rs) ∧ (a + 1 ≤ i ∧ i ≤ j ∧ j ≤ b) ∧ (∀ k, a + 1 ≤ k → k < i → lexi key (l.getD k default) (l.getD a default)) ∧ ∀ k, j ≤ k → k < b → ¬ lexi key (l.getD k default) (l.getD a default)) (fun (i, j) => j - i) (fun (i, j) => [(0, v), (1, .int .i64 a), (2, .int .i64 (a + 1 : Nat)), (3, .int .i64 b), (4, cvV g cap), (10, .int .i64 i), (11, .int .i64 j)]) (a + 1, b) (by repeat (first | exact Ks.le_nil _ | refine Ks.le_cons rfl ?_ | refine Ks.le_int ?_)) ?_ ?_
    · exact ⟨S, by omega, fun k q1 q2 => by omega, fun k q1 q2 => by omega⟩
    clear S
    rintro ⟨i, j⟩ h ⟨S, h1, h2, h3⟩
    all_goals (repeat' (first | refine K_seq ?_ | refine k_cond rfl ?_ | refine K_skip ?_ | refine K_exit ?_ | refine k_block ?_ | refine K_scope ?_ | (refine K_region (id := 3) ?_; refine mv ?_; refine mv ?_; (first | refine cT ?_ | refine cF ?_ | (refine cS ?_ ?_ <;> intro hc)) <;> (refine KO_nil ?_)) | (refine K_region (id := 4) ?_; refine mv ?_; refine mv ?_; (first | refine ad ?_ | refine vl ?_); (first | refine cW ?_ | refine vl ?_); (first | refine sR1 ?_ | refine sR ?_); (first | refine cI ?_ | refine vl ?_); refine mv ?_; refine KO_nil ?_) | (refine K_draw (id := 5) ?_; refine mv ?_; refine mv ?_; refine mv ?_; (first | refine ixB S ?_ | refine ixS2 S rfl rfl ?_); (first | refine lB S rfl rfl ?_ | refine lES2 S rfl rfl ?_ | refine lEB S ?_ | refine lH S ?_); refine mv ?_; refine mv ?_; (first | refine ixB S ?_ | refine ixS2 S rfl rfl ?_); (first | refine lB S rfl rfl ?_ | refine lES2 S rfl rfl ?_ | refine lEB S ?_ | refine lH S ?_)) | (refine K_region (id := 8) ?_; refine mv ?_; refine mv ?_; refine KO_nil ?_)))
    · have hc := half_sum i j
      obtain ⟨c, hcc⟩ : ∃ c, c = (i + j) / 2 := ⟨_, rfl⟩
      rw [← hcc] at hc
      simp only [hc, Int.toNat_natCast]
      (refine KO_call rfl rfl rfl rfl ((C _ _ _ S.ext (hp c (by omega) (by omega)) (hp a (by omega) (by omega))).mono ?_); rintro _ h ⟨d, rfl, hd, x⟩) <;> (replace S := S.join0 x; clear x; have hd := hd.trans (lexi_key (M.cr a c (by omega) (by omega) (by omega) (by omega))).symm; (first | refine cT ?_ | refine cF ?_ | (refine cS ?_ ?_ <;> intro hc)) <;> (refine KO_nil ?_))
      all_goals (repeat' (first | refine K_seq ?_ | refine k_cond rfl ?_ | refine K_skip ?_ | refine K_exit ?_ | refine k_block ?_ | refine K_scope ?_ | (refine K_region (id := 6) ?_; refine mv ?_; (first | refine ad ?_ | refine vl ?_); refine mv ?_; refine KO_nil ?_) | (refine K_region (id := 7) ?_; refine mv ?_; refine mv ?_; refine KO_nil ?_)))
      · refine ⟨(c + 1, j), ?_, ?_, (by repeat (first | exact Ks.le_nil _ | refine Ks.le_cons rfl ?_ | refine Ks.le_int ?_))⟩
        · show j - (c + 1) < j - i; omega
        · refine ⟨S, by omega, fun k q1 q2 => ?_, h3⟩
          have hcl := hd.1 (by assumption)
          rcases Nat.lt_or_ge k c with q | q
          · rcases Classical.em (lexi key (l.getD k default) (l.getD a default)) with q3 | q3
            · exact q3
            · exact absurd hcl (W.ntr q3 (M.sr k c (by omega) q (by omega)))
          · obtain rfl : k = c := by omega
            exact hcl
      · refine ⟨(i, c), ?_, ?_, (by repeat (first | exact Ks.le_nil _ | refine Ks.le_cons rfl ?_ | refine Ks.le_int ?_))⟩
        · show c - i < j - i; omega
        · refine ⟨S, by omega, h2, fun k q1 q2 => ?_⟩
          have hcl : ¬ lexi key (l.getD c default) (l.getD a default) := fun q => absurd (hd.2 q) (by assumption)
          rcases Nat.lt_or_ge c k with q | q
          · exact W.ntr hcl (M.sr c k (by omega) q (by omega))
          · obtain rfl : k = c := by omega
            exact hcl
    · obtain rfl : i = j := by omega
      refine k_loop (σ := Nat × List Int) (fun (k, c) h' => Hs h0 h' (.sl v 3 1 eI c :: rs) ∧ (a ≤ k ∧ k ≤ i - 1) ∧ Sw a b l c ∧ IsUp a k l c) (fun (k, c) => i - k) (fun (k, c) => [(0, v), (1, .int .i64 a), (2, .int .i64 (a + 1 : Nat)), (3, .int .i64 b), (4, cvV g cap), (10, .int .i64 i), (13, .int .i64 k)]) (a, l) (by repeat (first | exact Ks.le_nil _ | refine Ks.le_cons rfl ?_ | refine Ks.le_int ?_)) ?_ ?_
      · exact ⟨S, by omega, .refl _, .start⟩
      clear S
      rintro ⟨k, c⟩ h ⟨S, k1, k2, k3⟩
      have hcl := k2.len
      all_goals (repeat' (first | refine K_seq ?_ | refine k_cond rfl ?_ | refine K_skip ?_ | refine K_exit ?_ | refine k_block ?_ | refine K_scope ?_ | (refine K_region (id := 9) ?_; refine mv ?_; refine mv ?_; (first | refine sb ?_ | refine vl ?_); (first | refine cT ?_ | refine cF ?_ | (refine cS ?_ ?_ <;> intro hc)) <;> (refine KO_nil ?_)) | (refine K_region (id := 10) ?_; refine mv ?_; (first | refine ad ?_ | refine vl ?_); refine mv ?_; refine KO_nil ?_) | (refine K_draw (id := 11) ?_; refine mv ?_; refine mv ?_; refine mv ?_; refine mv ?_; (first | refine ad ?_ | refine vl ?_); refine mv ?_; refine mv ?_; (first | refine ad ?_ | refine vl ?_); (first | refine ixB S ?_ | refine ixS2 S rfl rfl ?_); (first | refine lB S rfl rfl ?_ | refine lES2 S rfl rfl ?_ | refine lEB S ?_ | refine lH S ?_); refine mv ?_; refine mv ?_; (first | refine ixB S ?_ | refine ixS2 S rfl rfl ?_); (first | refine lB S rfl rfl ?_ | refine lES2 S rfl rfl ?_ | refine lEB S ?_ | refine lH S ?_); (first | refine ixB S ?_ | refine ixS2 S rfl rfl ?_); (first | (refine sB S rfl rfl ?_; clear S; intro h S) | (refine sE2 S rfl rfl ?_; clear S; intro h S)); (first | refine ixB S ?_ | refine ixS2 S rfl rfl ?_); (first | (refine sB S rfl rfl ?_; clear S; intro h S) | (refine sE2 S rfl rfl ?_; clear S; intro h S)); refine KO_nil ?_)))
      · simp only [toNat_succ, Int.toNat_natCast] at S
        refine ⟨(k + 1, swp c k (k + 1)), ?_, ?_, (by repeat (first | exact Ks.le_nil _ | refine Ks.le_cons rfl ?_ | refine Ks.le_int ?_))⟩
        · show i - (k + 1) < i - k; omega
        · exact ⟨S, by omega, k2.step _ _ ⟨by omega, by omega⟩ ⟨by omega, by omega⟩ (by omega), k3.next (by omega) (by omega)⟩
      · obtain rfl : k = i - 1 := by omega
        refine K_ret ⟨_, rfl, ?_⟩
        exact ⟨c, k2, M.up (by omega) h2 h3 k3, S⟩
  · obtain rfl : b = m + 1 := by omega
    refine k_loop (σ := Nat × Nat) (fun (i, j) h' => Hs h0 h' (.sl v 3 1 eI l :: rs) ∧ (a ≤ i ∧ i ≤ j ∧ j ≤ m) ∧ (∀ k, a ≤ k → k < i → ¬ lexi key (l.getD m default) (l.getD k default)) ∧ ∀ k, j ≤ k → k < m → lexi key (l.getD m default) (l.getD k default)) (fun (i, j) => j - i) (fun (i, j) => [(0, v), (1, .int .i64 a), (2, .int .i64 m), (3, .int .i64 (m + 1 : Nat)), (4, cvV g cap), (14, .int .i64 i), (15, .int .i64 j)]) (a, m) (by repeat (first | exact Ks.le_nil _ | refine Ks.le_cons rfl ?_ | refine Ks.le_int ?_)) ?_ ?_
    · exact ⟨S, by omega, fun k q1 q2 => by omega, fun k q1 q2 => by omega⟩
    clear S
    rintro ⟨i, j⟩ h ⟨S, h1, h2, h3⟩
    all_goals (repeat' (first | refine K_seq ?_ | refine k_cond rfl ?_ | refine K_skip ?_ | refine K_exit ?_ | refine k_block ?_ | refine K_scope ?_ | (refine K_region (id := 15) ?_; refine mv ?_; refine mv ?_; (first | refine cT ?_ | refine cF ?_ | (refine cS ?_ ?_ <;> intro hc)) <;> (refine KO_nil ?_)) | (refine K_region (id := 16) ?_; refine mv ?_; refine mv ?_; (first | refine ad ?_ | refine vl ?_); (first | refine cW ?_ | refine vl ?_); (first | refine sR1 ?_ | refine sR ?_); (first | refine cI ?_ | refine vl ?_); refine mv ?_; refine KO_nil ?_) | (refine K_draw (id := 17) ?_; refine mv ?_; refine mv ?_; refine mv ?_; (first | refine ixB S ?_ | refine ixS2 S rfl rfl ?_); (first | refine lB S rfl rfl ?_ | refine lES2 S rfl rfl ?_ | refine lEB S ?_ | refine lH S ?_); refine mv ?_; refine mv ?_; (first | refine ixB S ?_ | refine ixS2 S rfl rfl ?_); (first | refine lB S rfl rfl ?_ | refine lES2 S rfl rfl ?_ | refine lEB S ?_ | refine lH S ?_)) | (refine K_region (id := 20) ?_; refine mv ?_; refine mv ?_; refine KO_nil ?_)))
    · have hc := half_sum i j
      obtain ⟨c, hcc⟩ : ∃ c, c = (i + j) / 2 := ⟨_, rfl⟩
      rw [← hcc] at hc
      simp only [hc, Int.toNat_natCast]
      (refine KO_call rfl rfl rfl rfl ((C _ _ _ S.ext (hp m (by omega) (by omega)) (hp c (by omega) (by omega))).mono ?_); rintro _ h ⟨d, rfl, hd, x⟩) <;> (replace S := S.join0 x; clear x; have hd := hd.trans (lexi_key (M.cr c m (by omega) (by omega) (by omega) (by omega))).symm; (first | refine cT ?_ | refine cF ?_ | (refine cS ?_ ?_ <;> intro hc)) <;> (refine vl ?_; refine KO_nil ?_))
      all_goals (repeat' (first | refine K_seq ?_ | refine k_cond rfl ?_ | refine K_skip ?_ | refine K_exit ?_ | refine k_block ?_ | refine K_scope ?_ | (refine K_region (id := 18) ?_; refine mv ?_; (first | refine ad ?_ | refine vl ?_); refine mv ?_; refine KO_nil ?_) | (refine K_region (id := 19) ?_; refine mv ?_; refine mv ?_; refine KO_nil ?_)))
      · refine ⟨(i, c), ?_, ?_, (by repeat (first | exact Ks.le_nil _ | refine Ks.le_cons rfl ?_ | refine Ks.le_int ?_))⟩
        · show c - i < j - i; omega
        · refine ⟨S, by omega, h2, fun k q1 q2 => ?_⟩
          have hcl := hd.1 (by assumption)
          rcases Nat.lt_or_ge c k with q | q
          · rcases Classical.em (lexi key (l.getD m default) (l.getD k default)) with q3 | q3
            · exact q3
            · exact absurd hcl (W.ntr (M.sl c k (by omega) q (by omega)) q3)
          · obtain rfl : k = c := by omega
            exact hcl
      · refine ⟨(c + 1, j), ?_, ?_, (by repeat (first | exact Ks.le_nil _ | refine Ks.le_cons rfl ?_ | refine Ks.le_int ?_))⟩
        · show j - (c + 1) < j - i; omega
        · refine ⟨S, by omega, fun k q1 q2 => ?_, h3⟩
          have hcl : ¬ lexi key (l.getD m default) (l.getD c default) := fun q => absurd (hd.2 q) (by assumption)
          rcases Nat.lt_or_ge k c with q | q
          · exact W.ntr (M.sl k c (by omega) q (by omega)) hcl
          · obtain rfl : k = c := by omega
            exact hcl
    · obtain rfl : i = j := by omega
      refine k_loop (σ := Nat × List Int) (fun (k, c) h' => Hs h0 h' (.sl v 3 1 eI c :: rs) ∧ (i ≤ k ∧ k ≤ m) ∧ Sw a (m + 1) l c ∧ IsDown m k l c) (fun (k, c) => k) (fun (k, c) => [(0, v), (1, .int .i64 a), (2, .int .i64 m), (3, .int .i64 (m + 1 : Nat)), (4, cvV g cap), (14, .int .i64 i), (17, .int .i64 k)]) (m, l) (by repeat (first | exact Ks.le_nil _ | refine Ks.le_cons rfl ?_ | refine Ks.le_int ?_)) ?_ ?_
      · exact ⟨S, by omega, .refl _, .start⟩
      clear S
      rintro ⟨k, c⟩ h ⟨S, k1, k2, k3⟩
      have hcl := k2.len
      all_goals (repeat' (first | refine K_seq ?_ | refine k_cond rfl ?_ | refine K_skip ?_ | refine K_exit ?_ | refine k_block ?_ | refine K_scope ?_ | (refine K_region (id := 21) ?_; refine mv ?_; refine mv ?_; (first | refine cT ?_ | refine cF ?_ | (refine cS ?_ ?_ <;> intro hc)) <;> (refine KO_nil ?_)) | (refine K_region (id := 22) ?_; refine mv ?_; (first | refine sb ?_ | refine vl ?_); refine mv ?_; refine KO_nil ?_) | (refine K_draw (id := 23) ?_; refine mv ?_; refine mv ?_; refine mv ?_; refine mv ?_; (first | refine sb ?_ | refine vl ?_); refine mv ?_; refine mv ?_; (first | refine sb ?_ | refine vl ?_); (first | refine ixB S ?_ | refine ixS2 S rfl rfl ?_); (first | refine lB S rfl rfl ?_ | refine lES2 S rfl rfl ?_ | refine lEB S ?_ | refine lH S ?_); refine mv ?_; refine mv ?_; (first | refine ixB S ?_ | refine ixS2 S rfl rfl ?_); (first | refine lB S rfl rfl ?_ | refine lES2 S rfl rfl ?_ | refine lEB S ?_ | refine lH S ?_); (first | refine ixB S ?_ | refine ixS2 S rfl rfl ?_); (first | (refine sB S rfl rfl ?_; clear S; intro h S) | (refine sE2 S rfl rfl ?_; clear S; intro h S)); (first | refine ixB S ?_ | refine ixS2 S rfl rfl ?_); (first | (refine sB S rfl rfl ?_; clear S; intro h S) | (refine sE2 S rfl rfl ?_; clear S; intro h S)); refine KO_nil ?_)))
      · simp only [toNat_pred, Int.toNat_natCast] at S
        refine ⟨(k - 1, swp c k (k - 1)), ?_, ?_, (by repeat (first | exact Ks.le_nil _ | refine Ks.le_cons rfl ?_ | refine Ks.le_int ?_))⟩
        · show k - 1 < k; omega
        · exact ⟨S, by omega, k2.step _ _ ⟨by omega, by omega⟩ ⟨by omega, by omega⟩ (by omega), k3.next (by omega) (by omega)⟩
      · obtain rfl : k = i := by omega
        refine K_ret ⟨_, rfl, ?_⟩
        exact ⟨c, k2, M.down (by omega) h2 h3 k3, S⟩
  · obtain ⟨mid, hmid⟩ : ∃ mid, mid = (a + b) / 2 := ⟨_, rfl⟩
    have hc := half_sum a b
    rw [← hmid] at hc
    (try refine K_seq ?_); refine K_region (id := 24) ?_; refine mv ?_; refine mv ?_; (first | refine ad ?_ | refine vl ?_); (first | refine cW ?_ | refine vl ?_); (first | refine sR1 ?_ | refine sR ?_); (first | refine cI ?_ | refine vl ?_); refine mv ?_; refine KO_nil ?_
    simp only [hc]
    (try refine K_seq ?_); refine K_region (id := 25) ?_; refine mv ?_; refine mv ?_; (first | refine ad ?_ | refine vl ?_); refine mv ?_; refine KO_nil ?_
    (try refine K_seq ?_); refine K_region (id := 26) ?_; refine mv ?_; refine mv ?_; refine KO_nil ?_
    refine K_cut (σ := Nat × Nat) (fun (s, r) h' => Hs h0 h' (.sl v 3 1 eI l :: rs) ∧ s = (if m > mid then mid + m - b else a) ∧ r = (if m > mid then mid else m)) (fun (s, r) => [(0, v), (1, .int .i64 a), (2, .int .i64 m), (3, .int .i64 b), (4, cvV g cap), (18, .int .i64 mid), (19, .int .i64 (mid + m : Nat)), (20, .int .i64 s), (21, .int .i64 r)]) ?_ ?_
    · all_goals (repeat' (first | refine K_seq ?_ | refine k_cond rfl ?_ | refine K_skip ?_ | refine K_exit ?_ | refine k_block ?_ | refine K_scope ?_ | (refine K_region (id := 27) ?_; refine mv ?_; refine mv ?_; (first | refine cT ?_ | refine cF ?_ | (refine cS ?_ ?_ <;> intro hc)) <;> (refine KO_nil ?_)) | (refine K_region (id := 28) ?_; refine mv ?_; refine mv ?_; (first | refine sb ?_ | refine vl ?_); refine mv ?_; refine KO_nil ?_) | (refine K_region (id := 29) ?_; refine mv ?_; refine mv ?_; refine KO_nil ?_) | (refine K_region (id := 30) ?_; refine mv ?_; refine mv ?_; refine KO_nil ?_) | (refine K_region (id := 31) ?_; refine mv ?_; refine mv ?_; refine KO_nil ?_)))
      · refine ⟨(mid + m - b, mid), ⟨S, ?_, ?_⟩, ((by repeat (first | exact Ks.le_nil _ | refine Ks.le_cons rfl ?_ | refine Ks.le_int ?_)))⟩ <;> (show _ = ite _ _ _; rw [if_pos (by omega)])
      · refine ⟨(a, m), ⟨S, ?_, ?_⟩, ((by repeat (first | exact Ks.le_nil _ | refine Ks.le_cons rfl ?_ | refine Ks.le_int ?_)))⟩ <;> (show _ = ite _ _ _; rw [if_neg (by omega)])
    clear S
    rintro ⟨s0, r0⟩ h ⟨S, hs0, hr0⟩
    have hsr : s0 ≤ r0 ∧ a ≤ s0 ∧ r0 ≤ m ∧ r0 ≤ mid ∧ mid + m ≤ s0 + b := by
      split at hs0 <;> split at hr0 <;> omega
    skip
    all_goals (repeat' (first | refine K_seq ?_ | refine k_cond rfl ?_ | refine K_skip ?_ | refine K_exit ?_ | refine k_block ?_ | refine K_scope ?_ | (refine K_region (id := 32) ?_; refine mv ?_; (first | refine sb ?_ | refine vl ?_); refine mv ?_; refine KO_nil ?_)))
    refine k_loop (σ := Nat × Nat) (fun (s, r) h' => Hs h0 h' (.sl v 3 1 eI l :: rs) ∧ SrI key a m b mid s r l) (fun (s, r) => r - s) (fun (s, r) => [(0, v), (1, .int .i64 a), (2, .int .i64 m), (3, .int .i64 b), (4, cvV g cap), (18, .int .i64 mid), (19, .int .i64 (mid + m : Nat)), (20, .int .i64 s), (21, .int .i64 r), (22, .int .i64 (mid + m - 1 : Nat))]) (s0, r0) (by repeat (first | exact Ks.le_nil _ | refine Ks.le_cons rfl ?_ | refine Ks.le_int ?_)) ?_ ?_
    · exact ⟨S, by show ite _ _ _ ≤ s0; rw [← hs0]; exact Nat.le_refl _, hsr.1, by show r0 ≤ ite _ _ _; rw [← hr0]; exact Nat.le_refl _, by show ite _ _ _ < s0 → _; rw [← hs0]; omega, by show r0 < ite _ _ _ → _; rw [← hr0]; omega⟩
    clear S
    rintro ⟨s, r⟩ h ⟨S, I⟩
    have i1 := I.lo
    have i2 := I.hi
    have i3 := I.sr
    rw [← hs0] at i1
    rw [← hr0] at i2
    all_goals (repeat' (first | refine K_seq ?_ | refine k_cond rfl ?_ | refine K_skip ?_ | refine K_exit ?_ | refine k_block ?_ | refine K_scope ?_ | (refine K_region (id := 33) ?_; refine mv ?_; refine mv ?_; (first | refine cT ?_ | refine cF ?_ | (refine cS ?_ ?_ <;> intro hc)) <;> (refine KO_nil ?_)) | (refine K_region (id := 34) ?_; refine mv ?_; refine mv ?_; (first | refine ad ?_ | refine vl ?_); (first | refine cW ?_ | refine vl ?_); (first | refine sR1 ?_ | refine sR ?_); (first | refine cI ?_ | refine vl ?_); refine mv ?_; refine KO_nil ?_) | (refine K_draw (id := 35) ?_; refine mv ?_; refine mv ?_; refine mv ?_; refine mv ?_; (first | refine sb ?_ | refine vl ?_); (first | refine ixB S ?_ | refine ixS2 S rfl rfl ?_); (first | refine lB S rfl rfl ?_ | refine lES2 S rfl rfl ?_ | refine lEB S ?_ | refine lH S ?_); refine mv ?_; refine mv ?_; (first | refine ixB S ?_ | refine ixS2 S rfl rfl ?_); (first | refine lB S rfl rfl ?_ | refine lES2 S rfl rfl ?_ | refine lEB S ?_ | refine lH S ?_))))
    · have hc := half_sum s r
      obtain ⟨c, hcc⟩ : ∃ c, c = (s + r) / 2 := ⟨_, rfl⟩
      rw [← hcc] at hc
      have e1 : (((mid + m - 1 : Nat) : Int) - (c : Int)).toNat = mid + m - 1 - c := by omega
      simp only [hc, e1, Int.toNat_natCast]
      (refine KO_call rfl rfl rfl rfl ((C _ _ _ S.ext (hp (mid + m - 1 - c) (by omega) (by omega)) (hp c (by omega) (by omega))).mono ?_); rintro _ h ⟨d, rfl, hd, x⟩) <;> (replace S := S.join0 x; clear x; have hd := hd.trans (lexi_key (M.cr c (mid + m - 1 - c) (by omega) (by omega) (by omega) (by omega))).symm; (first | refine cT ?_ | refine cF ?_ | (refine cS ?_ ?_ <;> intro hc)) <;> (refine vl ?_; refine KO_nil ?_))
      all_goals (repeat' (first | refine K_seq ?_ | refine k_cond rfl ?_ | refine K_skip ?_ | refine K_exit ?_ | refine k_block ?_ | refine K_scope ?_ | (refine K_region (id := 33) ?_; refine mv ?_; refine mv ?_; (first | refine cT ?_ | refine cF ?_ | (refine cS ?_ ?_ <;> intro hc)) <;> (refine KO_nil ?_)) | (refine K_region (id := 34) ?_; refine mv ?_; refine mv ?_; (first | refine ad ?_ | refine vl ?_); (first | refine cW ?_ | refine vl ?_); (first | refine sR1 ?_ | refine sR ?_); (first | refine cI ?_ | refine vl ?_); refine mv ?_; refine KO_nil ?_) | (refine K_draw (id := 35) ?_; refine mv ?_; refine mv ?_; refine mv ?_; refine mv ?_; (first | refine sb ?_ | refine vl ?_); (first | refine ixB S ?_ | refine ixS2 S rfl rfl ?_); (first | refine lB S rfl rfl ?_ | refine lES2 S rfl rfl ?_ | refine lEB S ?_ | refine lH S ?_); refine mv ?_; refine mv ?_; (first | refine ixB S ?_ | refine ixS2 S rfl rfl ?_); (first | refine lB S rfl rfl ?_ | refine lES2 S rfl rfl ?_ | refine lEB S ?_ | refine lH S ?_)) | (refine K_region (id := 36) ?_; refine mv ?_; (first | refine ad ?_ | refine vl ?_); refine mv ?_; refine KO_nil ?_) | (refine K_region (id := 37) ?_; refine mv ?_; refine mv ?_; refine KO_nil ?_) | (refine K_region (id := 38) ?_; refine mv ?_; refine mv ?_; (first | refine sb ?_ | refine vl ?_); refine mv ?_; refine KO_nil ?_) | (refine K_region (id := 39) ?_; refine mv ?_; refine mv ?_; (first | refine cT ?_ | refine cF ?_ | (refine cS ?_ ?_ <;> intro hc)) <;> (refine mv ?_; (first | refine off ?_ | refine mv ?_); (first | refine off ?_ | refine mv ?_); (first | refine off ?_ | (first | refine cT ?_ | refine cF ?_ | (refine cS ?_ ?_ <;> intro hc))) <;> (refine vl ?_; refine KO_nil ?_))) | (refine K_region (id := 40) ?_; refine mv ?_; refine mv ?_; refine mv ?_; refine mv ?_; refine mv ?_; skip) | (refine K_region (id := 41) ?_; refine mv ?_; refine mv ?_; (first | refine cT ?_ | refine cF ?_ | (refine cS ?_ ?_ <;> intro hc)) <;> (refine mv ?_; (first | refine off ?_ | refine mv ?_); (first | refine off ?_ | refine mv ?_); (first | refine off ?_ | (first | refine cT ?_ | refine cF ?_ | (refine cS ?_ ?_ <;> intro hc))) <;> (refine vl ?_; refine KO_nil ?_))) | (refine K_region (id := 42) ?_; refine mv ?_; refine mv ?_; refine mv ?_; refine mv ?_; refine mv ?_; skip) | (refine K_region (id := 43) ?_; refine mv ?_; refine mv ?_; (first | refine cT ?_ | refine cF ?_ | (refine cS ?_ ?_ <;> intro hc)) <;> (refine mv ?_; (first | refine off ?_ | refine mv ?_); (first | refine off ?_ | refine mv ?_); (first | refine off ?_ | (first | refine cT ?_ | refine cF ?_ | (refine cS ?_ ?_ <;> intro hc))) <;> (refine vl ?_; refine KO_nil ?_))) | (refine K_region (id := 44) ?_; refine mv ?_; refine mv ?_; refine mv ?_; refine mv ?_; refine mv ?_; skip)))
      · refine ⟨(s, c), ?_, ?_, (by repeat (first | exact Ks.le_nil _ | refine Ks.le_cons rfl ?_ | refine Ks.le_int ?_))⟩
        · show c - s < r - s; omega
        · exact ⟨S, I.lo, by omega, by have := I.hi; omega, I.low, fun _ => hd.1 (by assumption)⟩
      · refine ⟨(c + 1, r), ?_, ?_, (by repeat (first | exact Ks.le_nil _ | refine Ks.le_cons rfl ?_ | refine Ks.le_int ?_))⟩
        · show r - (c + 1) < r - s; omega
        · refine ⟨S, by have := I.lo; omega, by omega, I.hi, fun _ => ?_, I.high⟩
          rw [show mid + m - (c + 1) = mid + m - 1 - c by omega, Nat.add_sub_cancel]
          exact fun q => absurd (hd.2 q) (by assumption)
    · obtain rfl : s = r := by omega
      (try refine K_seq ?_); refine K_region (id := 38) ?_; refine mv ?_; refine mv ?_; (first | refine sb ?_ | refine vl ?_); refine mv ?_; refine KO_nil ?_
      refine K_cut (σ := List Int) (fun l2 h' => Hs h0 h' (.sl v 3 1 eI l2 :: rs) ∧ Sw a b l l2 ∧ IsRot s m (mid + m - s) l l2) (fun l2 => [(0, v), (1, .int .i64 a), (2, .int .i64 m), (3, .int .i64 b), (4, cvV g cap), (18, .int .i64 mid), (19, .int .i64 (mid + m : Nat)), (20, .int .i64 s), (24, .int .i64 (mid + m - s : Nat))]) ?_ ?_
      · all_goals (repeat' (first | refine K_seq ?_ | refine k_cond rfl ?_ | refine K_skip ?_ | refine K_exit ?_ | refine k_block ?_ | refine K_scope ?_ | (refine K_region (id := 39) ?_; refine mv ?_; refine mv ?_; (first | refine cT ?_ | refine cF ?_ | (refine cS ?_ ?_ <;> intro hc)) <;> (refine mv ?_; (first | refine off ?_ | refine mv ?_); (first | refine off ?_ | refine mv ?_); (first | refine off ?_ | (first | refine cT ?_ | refine cF ?_ | (refine cS ?_ ?_ <;> intro hc))) <;> (refine vl ?_; refine KO_nil ?_)))))
        · have e1 : ((mid + m : Nat) : Int) - (s : Int) = ((mid + m - s : Nat) : Int) := by omega
          refine K_region (id := 40) ?_
          (refine mv ?_; refine mv ?_; refine mv ?_; refine mv ?_; refine mv ?_; skip)
          simp only [e1]
          (refine KO_fn rfl rfl rfl rfl rfl ((rot_ok s m (mid + m - s) S (by omega) (by omega) (by omega)).mono ?_); rintro _ h ⟨l2, g1, g2, S2⟩) <;> (replace S := S2; clear S2; refine KO_nil ?_)
          all_goals (repeat' (first | refine K_seq ?_ | refine k_cond rfl ?_ | refine K_skip ?_ | refine K_exit ?_ | refine k_block ?_ | refine K_scope ?_ | (refine K_region (id := 39) ?_; refine mv ?_; refine mv ?_; (first | refine cT ?_ | refine cF ?_ | (refine cS ?_ ?_ <;> intro hc)) <;> (refine mv ?_; (first | refine off ?_ | refine mv ?_); (first | refine off ?_ | refine mv ?_); (first | refine off ?_ | (first | refine cT ?_ | refine cF ?_ | (refine cS ?_ ?_ <;> intro hc))) <;> (refine vl ?_; refine KO_nil ?_))) | (refine K_region (id := 40) ?_; refine mv ?_; refine mv ?_; refine mv ?_; refine mv ?_; refine mv ?_; skip) | (refine K_region (id := 41) ?_; refine mv ?_; refine mv ?_; (first | refine cT ?_ | refine cF ?_ | (refine cS ?_ ?_ <;> intro hc)) <;> (refine mv ?_; (first | refine off ?_ | refine mv ?_); (first | refine off ?_ | refine mv ?_); (first | refine off ?_ | (first | refine cT ?_ | refine cF ?_ | (refine cS ?_ ?_ <;> intro hc))) <;> (refine vl ?_; refine KO_nil ?_))) | (refine K_region (id := 42) ?_; refine mv ?_; refine mv ?_; refine mv ?_; refine mv ?_; refine mv ?_; skip) | (refine K_region (id := 43) ?_; refine mv ?_; refine mv ?_; (first | refine cT ?_ | refine cF ?_ | (refine cS ?_ ?_ <;> intro hc)) <;> (refine mv ?_; (first | refine off ?_ | refine mv ?_); (first | refine off ?_ | refine mv ?_); (first | refine off ?_ | (first | refine cT ?_ | refine cF ?_ | (refine cS ?_ ?_ <;> intro hc))) <;> (refine vl ?_; refine KO_nil ?_))) | (refine K_region (id := 44) ?_; refine mv ?_; refine mv ?_; refine mv ?_; refine mv ?_; refine mv ?_; skip)))
          exact ⟨l2, ⟨S, g1.mono (by omega) (by omega) hb, g2⟩, ((by repeat (first | exact Ks.le_nil _ | refine Ks.le_cons rfl ?_ | refine Ks.le_int ?_)))⟩
        · refine ⟨l, ⟨S, .refl _, ?_⟩, ((by repeat (first | exact Ks.le_nil _ | refine Ks.le_cons rfl ?_ | refine Ks.le_int ?_)))⟩
          obtain e : mid + m - s = m := by omega
          rw [e]; exact .none
        · refine ⟨l, ⟨S, .refl _, ?_⟩, ((by repeat (first | exact Ks.le_nil _ | refine Ks.le_cons rfl ?_ | refine Ks.le_int ?_)))⟩
          obtain e : s = m := by omega
          rw [e]; exact .none2
      clear S
      rintro l2 h ⟨S, g1, g2⟩
      obtain ⟨z1, M1, M2, z2⟩ := M.search hmid hab I g2
      have hl2 := g1.len
      have hp2 := g1.all hp
      skip
      refine K_cut (σ := List Int) (fun l3 h' => Hs h0 h' (.sl v 3 1 eI l3 :: rs) ∧ Sw a mid l2 l3 ∧ Srt (lexi key) a mid l3) (fun l3 => [(0, v), (1, .int .i64 a), (2, .int .i64 m), (3, .int .i64 b), (4, cvV g cap), (18, .int .i64 mid), (24, .int .i64 (mid + m - s : Nat))]) ?_ ?_
      · all_goals (repeat' (first | refine K_seq ?_ | refine k_cond rfl ?_ | refine K_skip ?_ | refine K_exit ?_ | refine k_block ?_ | refine K_scope ?_ | (refine K_region (id := 41) ?_; refine mv ?_; refine mv ?_; (first | refine cT ?_ | refine cF ?_ | (refine cS ?_ ?_ <;> intro hc)) <;> (refine mv ?_; (first | refine off ?_ | refine mv ?_); (first | refine off ?_ | refine mv ?_); (first | refine off ?_ | (first | refine cT ?_ | refine cF ?_ | (refine cS ?_ ?_ <;> intro hc))) <;> (refine vl ?_; refine KO_nil ?_)))))
        · refine K_region (id := 42) ?_
          (refine mv ?_; refine mv ?_; refine mv ?_; refine mv ?_; refine mv ?_; skip)
          (refine KO_fn rfl rfl rfl rfl rfl ((ih a s mid S (by omega) (fun k q1 q2 => hp2 k q1 (by omega)) (by omega) (by omega) (by omega) M1).mono ?_); rintro _ h ⟨l3, g3, g4, S2⟩) <;> (replace S := S2; clear S2; refine KO_nil ?_)
          all_goals (repeat' (first | refine K_seq ?_ | refine k_cond rfl ?_ | refine K_skip ?_ | refine K_exit ?_ | refine k_block ?_ | refine K_scope ?_ | (refine K_region (id := 41) ?_; refine mv ?_; refine mv ?_; (first | refine cT ?_ | refine cF ?_ | (refine cS ?_ ?_ <;> intro hc)) <;> (refine mv ?_; (first | refine off ?_ | refine mv ?_); (first | refine off ?_ | refine mv ?_); (first | refine off ?_ | (first | refine cT ?_ | refine cF ?_ | (refine cS ?_ ?_ <;> intro hc))) <;> (refine vl ?_; refine KO_nil ?_))) | (refine K_region (id := 42) ?_; refine mv ?_; refine mv ?_; refine mv ?_; refine mv ?_; refine mv ?_; skip) | (refine K_region (id := 43) ?_; refine mv ?_; refine mv ?_; (first | refine cT ?_ | refine cF ?_ | (refine cS ?_ ?_ <;> intro hc)) <;> (refine mv ?_; (first | refine off ?_ | refine mv ?_); (first | refine off ?_ | refine mv ?_); (first | refine off ?_ | (first | refine cT ?_ | refine cF ?_ | (refine cS ?_ ?_ <;> intro hc))) <;> (refine vl ?_; refine KO_nil ?_))) | (refine K_region (id := 44) ?_; refine mv ?_; refine mv ?_; refine mv ?_; refine mv ?_; refine mv ?_; skip)))
          exact ⟨l3, ⟨S, g3, g4⟩, ((by repeat (first | exact Ks.le_nil _ | refine Ks.le_cons rfl ?_ | refine Ks.le_int ?_)))⟩
        · refine ⟨l2, ⟨S, .refl _, ?_⟩, ((by repeat (first | exact Ks.le_nil _ | refine Ks.le_cons rfl ?_ | refine Ks.le_int ?_)))⟩
          obtain e : s = mid := by omega
          rw [e] at M1; exact M1.sl
        · refine ⟨l2, ⟨S, .refl _, ?_⟩, ((by repeat (first | exact Ks.le_nil _ | refine Ks.le_cons rfl ?_ | refine Ks.le_int ?_)))⟩
          obtain e : s = a := by omega
          rw [e] at M1; exact M1.sr
      clear S
      rintro l3 h ⟨S, g3, g4⟩
      have hl3 := g3.len
      have M3 := M2.sw_right g3 (by omega)
      have g13 := g1.trans (g3.mono (by omega) (by omega) (by omega))
      have hp3 := g13.all hp
      skip
      all_goals (repeat' (first | refine K_seq ?_ | refine k_cond rfl ?_ | refine K_skip ?_ | refine K_exit ?_ | refine k_block ?_ | refine K_scope ?_ | (refine K_region (id := 43) ?_; refine mv ?_; refine mv ?_; (first | refine cT ?_ | refine cF ?_ | (refine cS ?_ ?_ <;> intro hc)) <;> (refine mv ?_; (first | refine off ?_ | refine mv ?_); (first | refine off ?_ | refine mv ?_); (first | refine off ?_ | (first | refine cT ?_ | refine cF ?_ | (refine cS ?_ ?_ <;> intro hc))) <;> (refine vl ?_; refine KO_nil ?_))) | (refine K_region (id := 44) ?_; refine mv ?_; refine mv ?_; refine mv ?_; refine mv ?_; refine mv ?_; skip)))
      · (refine KO_fn rfl rfl rfl rfl rfl ((ih mid (mid + m - s) b S (by omega) (fun k q1 q2 => hp3 k (by omega) q2) (by omega) (by omega) (by omega) M3).mono ?_); rintro _ h ⟨l4, g5, g6, S2⟩) <;> (replace S := S2; clear S2; refine KO_nil ?_)
        all_goals (repeat' (first | refine K_seq ?_ | refine k_cond rfl ?_ | refine K_skip ?_ | refine K_exit ?_ | refine k_block ?_ | refine K_scope ?_))
        refine ⟨_, rfl, ?_⟩
        exact ⟨l4, g13.trans (g5.mono (by omega) (by omega) (by omega)), srt_halves z2 g3 g4 g5 g6 (by omega), S⟩
      · refine ⟨_, rfl, ?_⟩
        obtain e : mid + m - s = b := by omega
        rw [e] at M3
        exact ⟨l3, g13, srt_halves z2 g3 g4 (.refl _) M3.sl (by omega), S⟩
      · refine ⟨_, rfl, ?_⟩
        obtain e : mid + m - s = mid := by omega
        rw [e] at M3
        exact ⟨l3, g13, srt_halves z2 g3 g4 (.refl _) M3.sr (by omega), S⟩

theorem stable_ok {h0 h : AH} {rs : List Rs} {v : Value} {l : List Int} {g : Nat} {cap : List Value} {key : Int → Int} {p : Int → Prop} (S : Hs h0 h (.sl v 3 1 eI l :: rs)) (C : KeyFn h0 g cap key p) (hp : ∀ k, 0 ≤ k → k < l.length → p (l.getD k default)) (hl : l.length < 40) (hi : Inc 0 l.length l) :
    Fn Tryz.prog Xh 138 [v, .int .i64 l.length, cvV g cap] h (fun _ h' => ∃ l', Sw 0 l.length l l' ∧ Srt (lexi key) 0 l.length l' ∧ Hs h0 h' (.sl v 3 1 eI l' :: rs)) := by
  obtain ⟨n, hn⟩ : ∃ n, n = l.length := ⟨_, rfl⟩
  rw [← hn] at hi hl hp ⊢
  have M0 : ∀ {l1 l2 : List Int}, Sw 0 20 l l1 → Srt (lexi key) 0 20 l1 → Sw 20 n l1 l2 → Srt (lexi key) 20 n l2 → 20 < n → Mrg key 0 20 n l2 := fun {l1 l2} s1 q1 s2 q2 hn2 => by
    refine ⟨fun i j a1 a2 a3 => ?_, q2, fun x y a1 a2 a3 a4 => ?_⟩
    · rw [s2.out (.inl a3), s2.out (k := i) (.inl (by omega))]; exact q1 i j a1 a2 a3
    · rw [s2.out (.inl a2)]
      obtain ⟨i, i1, i2, i3⟩ := s1.in_ a1 a2
      obtain ⟨j, j1, j2, j3⟩ := s2.in_ a3 a4
      rw [i3, j3, s1.out (.inr j1)]
      exact hi i j i1 (by omega) (by omega)
  refine Fn_K rfl Tryz.func138 rfl rfl ?_
  all_goals (repeat' (first | refine K_seq ?_ | refine k_cond rfl ?_ | refine K_skip ?_ | refine K_exit ?_ | refine k_block ?_ | refine K_scope ?_ | (refine K_region (id := 0) ?_; refine mv ?_; refine KO_nil ?_) | (refine K_region (id := 1) ?_; refine mv ?_; refine mv ?_; refine mv ?_; refine KO_nil ?_)))
  refine k_loop (σ := Nat × List Int) (fun (a, m) h' => Hs h0 h' (.sl v 3 1 eI m :: rs) ∧ ((a = 0 ∧ m = l) ∨ (a = 20 ∧ 20 ≤ n ∧ Sw 0 20 l m ∧ Srt (lexi key) 0 20 m))) (fun (a, m) => 100 - a) (fun (a, m) => [(0, v), (1, .int .i64 n), (2, cvV g cap), (6, .int .i64 20), (7, .int .i64 a), (8, .int .i64 (a + 20 : Nat))]) (0, l) (by repeat (first | exact Ks.le_nil _ | refine Ks.le_cons rfl ?_ | refine Ks.le_int ?_)) ?_ ?_
  · exact ⟨S, .inl ⟨rfl, rfl⟩⟩
  clear S
  rintro ⟨a, m⟩ h ⟨S, hm⟩
  all_goals (repeat' (first | refine K_seq ?_ | refine k_cond rfl ?_ | refine K_skip ?_ | refine K_exit ?_ | refine k_block ?_ | refine K_scope ?_ | (refine K_region (id := 2) ?_; refine mv ?_; refine mv ?_; (first | refine cT ?_ | refine cF ?_ | (refine cS ?_ ?_ <;> intro hc)) <;> (refine KO_nil ?_)) | (refine K_region (id := 3) ?_; refine mv ?_; refine mv ?_; refine mv ?_; refine mv ?_; skip) | (refine K_region (id := 6) ?_; refine mv ?_; refine mv ?_; refine mv ?_; refine mv ?_; skip)))
  · obtain ⟨rfl, rfl⟩ : a = 0 ∧ m = l := by
      rcases hm with hm | hm
      · exact hm
      · omega
    (refine KO_fn rfl rfl rfl rfl rfl ((insK_ok 0 20 S C (fun k q1 q2 => hp k q1 (by omega)) (by omega) (by omega) (by omega) (fun i j q1 q2 q3 => hi i j q1 q2 (by omega))).mono ?_); rintro _ h ⟨l2, g1, g2, S2⟩) <;> (replace S := S2; clear S2; refine KO_nil ?_)
    all_goals (repeat' (first | refine K_seq ?_ | refine k_cond rfl ?_ | refine K_skip ?_ | refine K_exit ?_ | refine k_block ?_ | refine K_scope ?_ | (refine K_region (id := 4) ?_; refine mv ?_; refine mv ?_; refine KO_nil ?_) | (refine K_region (id := 5) ?_; refine mv ?_; refine mv ?_; (first | refine ad ?_ | refine vl ?_); refine mv ?_; refine KO_nil ?_)))
    refine ⟨(20, l2), ?_, ?_, (by repeat (first | exact Ks.le_nil _ | refine Ks.le_cons rfl ?_ | refine Ks.le_int ?_))⟩
    · show 100 - 20 < 100 - 0; omega
    · exact ⟨S, .inr ⟨rfl, by omega, g1, g2⟩⟩
  have fin : ∀ h l2, Hs h0 h (.sl v 3 1 eI l2 :: rs) → Sw 0 n l l2 → (n ≤ 20 → Srt (lexi key) 0 n l2) → (20 < n → Mrg key 0 20 n l2) → ∃ l2', l2 = l2' ∧ Sw 0 n l l2' ∧ (n ≤ 20 → Srt (lexi key) 0 n l2') ∧ (20 < n → Mrg key 0 20 n l2') := fun h l2 _ a b c => ⟨l2, rfl, a, b, c⟩
  have hmp : ∀ k, a ≤ k → k < n → p (m.getD k default) := fun k q1 q2 => by
    rcases hm with ⟨rfl, rfl⟩ | ⟨rfl, h1, h2, h3⟩
    · exact hp k q1 q2
    · rw [h2.out (.inr q1)]; exact hp k (by omega) q2
  have hml : m.length = n := by
    rcases hm with ⟨rfl, rfl⟩ | ⟨rfl, h1, h2, h3⟩
    · exact hn.symm
    · rw [h2.len, hn]
  have hmi : Inc a n m := fun i j q1 q2 q3 => by
    rcases hm with ⟨rfl, rfl⟩ | ⟨rfl, h1, h2, h3⟩
    · exact hi i j q1 q2 q3
    · rw [h2.out (k := j) (.inr (by omega)), h2.out (k := i) (.inr q1)]; exact hi i j (by omega) q2 q3
  (refine KO_fn rfl rfl rfl rfl rfl ((insK_ok a n S C hmp (by omega) (by omega) (by omega) hmi).mono ?_); rintro _ h ⟨l2, g1, g2, S2⟩) <;> (replace S := S2; clear S2; refine KO_nil ?_)
  have hsw : Sw 0 n l l2 := by
    rcases hm with ⟨rfl, rfl⟩ | ⟨rfl, h1, h2, h3⟩
    · exact g1
    · exact (h2.mono (by omega) h1 (by omega)).trans (g1.mono (by omega) (by omega) (by omega))
  have hs1 : n ≤ 20 → Srt (lexi key) 0 n l2 := fun q => by
    rcases hm with ⟨rfl, rfl⟩ | ⟨rfl, h1, h2, h3⟩
    · exact g2
    · obtain rfl : n = 20 := by omega
      intro i j a1 a2 a3
      rw [g1.out (.inl a3), g1.out (k := i) (.inl (by omega))]; exact h3 i j a1 a2 a3
  have hs2 : 20 < n → Mrg key 0 20 n l2 := fun q => by
    rcases hm with ⟨rfl, rfl⟩ | ⟨rfl, h1, h2, h3⟩
    · omega
    · exact M0 h2 h3 g1 g2 q
  clear hm hmp hml hmi g1 g2 fin
  all_goals (repeat' (first | refine K_seq ?_ | refine k_cond rfl ?_ | refine K_skip ?_ | refine K_exit ?_ | refine k_block ?_ | refine K_scope ?_))
  refine k_loop (σ := Nat × List Int) (fun (bs, m) h' => Hs h0 h' (.sl v 3 1 eI m :: rs) ∧ Sw 0 n l m ∧ ((bs = 20 ∧ (n ≤ 20 → Srt (lexi key) 0 n m) ∧ (20 < n → Mrg key 0 20 n m)) ∨ (bs = 40 ∧ Srt (lexi key) 0 n m))) (fun (bs, m) => 100 - bs) (fun (bs, m) => [(0, v), (1, .int .i64 n), (2, cvV g cap), (6, .int .i64 bs)]) (20, l2) (by repeat (first | exact Ks.le_nil _ | refine Ks.le_cons rfl ?_ | refine Ks.le_int ?_)) ?_ ?_
  · exact ⟨S, hsw, .inl ⟨rfl, hs1, hs2⟩⟩
  clear S hsw hs1 hs2
  rintro ⟨bs, m⟩ h ⟨S, hsw, hm⟩
  have hml := hsw.len
  all_goals (repeat' (first | refine K_seq ?_ | refine k_cond rfl ?_ | refine K_skip ?_ | refine K_exit ?_ | refine k_block ?_ | refine K_scope ?_ | (refine K_region (id := 7) ?_; refine mv ?_; refine mv ?_; (first | refine cT ?_ | refine cF ?_ | (refine cS ?_ ?_ <;> intro hc)) <;> (refine KO_nil ?_)) | (refine K_region (id := 8) ?_; refine mv ?_; (first | refine ml ?_ | refine vl ?_); refine mv ?_; refine mv ?_; refine KO_nil ?_)))
  · obtain ⟨rfl, -, hM⟩ : bs = 20 ∧ (n ≤ 20 → Srt (lexi key) 0 n m) ∧ (20 < n → Mrg key 0 20 n m) := by
      rcases hm with hm | hm
      · exact hm
      · omega
    have hM := hM (by omega)
    refine k_loop (σ := Unit) (fun _ h' => Hs h0 h' (.sl v 3 1 eI m :: rs)) (fun _ => 0) (fun _ => [(0, v), (1, .int .i64 n), (2, cvV g cap), (6, .int .i64 20), (7, .int .i64 0), (8, .int .i64 40)]) () (by repeat (first | exact Ks.le_nil _ | refine Ks.le_cons rfl ?_ | refine Ks.le_int ?_)) ?_ ?_
    · exact S
    clear S
    rintro - h S
    all_goals (repeat' (first | refine K_seq ?_ | refine k_cond rfl ?_ | refine K_skip ?_ | refine K_exit ?_ | refine k_block ?_ | refine K_scope ?_ | (refine K_region (id := 9) ?_; refine mv ?_; refine mv ?_; (first | refine cT ?_ | refine cF ?_ | (refine cS ?_ ?_ <;> intro hc)) <;> (refine KO_nil ?_)) | (refine K_region (id := 10) ?_; refine mv ?_; refine mv ?_; refine mv ?_; refine mv ?_; (first | refine ad ?_ | refine vl ?_); refine mv ?_; refine mv ?_) | (refine K_region (id := 13) ?_; refine mv ?_; refine mv ?_; (first | refine ad ?_ | refine vl ?_); refine mv ?_; refine KO_nil ?_) | (refine K_region (id := 14) ?_; refine mv ?_; refine mv ?_; (first | refine cT ?_ | refine cF ?_ | (refine cS ?_ ?_ <;> intro hc)) <;> (refine KO_nil ?_)) | (refine K_region (id := 15) ?_; refine mv ?_; refine mv ?_; refine mv ?_; refine mv ?_; refine mv ?_; skip) | (refine K_region (id := 16) ?_; refine mv ?_; (first | refine ml ?_ | refine vl ?_); refine mv ?_; refine KO_nil ?_)))
    (refine KO_fn rfl rfl rfl rfl rfl ((symm_ok C n 0 20 n S (by omega) (fun k q1 q2 => hsw.all hp k q1 q2) (by omega) (by omega) (by omega) hM).mono ?_); rintro _ h ⟨l3, g1, g2, S2⟩) <;> (replace S := S2; clear S2; refine KO_nil ?_)
    all_goals (repeat' (first | refine K_seq ?_ | refine k_cond rfl ?_ | refine K_skip ?_ | refine K_exit ?_ | refine k_block ?_ | refine K_scope ?_ | (refine K_region (id := 16) ?_; refine mv ?_; (first | refine ml ?_ | refine vl ?_); refine mv ?_; refine KO_nil ?_)))
    refine ⟨(40, l3), ?_, ?_, (by repeat (first | exact Ks.le_nil _ | refine Ks.le_cons rfl ?_ | refine Ks.le_int ?_))⟩
    · show 100 - 40 < 100 - 20; omega
    · exact ⟨S, hsw.trans g1, .inr ⟨rfl, g2⟩⟩
  · refine ⟨_, rfl, ?_⟩
    refine ⟨m, hsw, ?_, S⟩
    rcases hm with ⟨rfl, hm, -⟩ | ⟨-, hm⟩
    · exact hm (by omega)
    · exact hm

theorem sortStable_ok {h0 h : AH} {rs : List Rs} {v : Value} {l : List Int} {g : Nat} {cap : List Value} {key : Int → Int} {p : Int → Prop} (S : Hs h0 h (.sl v 3 1 eI l :: rs)) (C : KeyFn h0 g cap key p) (hp : ∀ k, 0 ≤ k → k < l.length → p (l.getD k default)) (hl : l.length < 40) (hi : Inc 0 l.length l) :
    Fn Tryz.prog Xh 89 [v, cvV g cap] h (fun _ h' => ∃ l', Sw 0 l.length l l' ∧ Srt (lexi key) 0 l.length l' ∧ Hs h0 h' (.sl v 3 1 eI l' :: rs)) := by
  refine Fn_K rfl Tryz.func89 rfl rfl ?_
  all_goals (repeat' (first | refine K_seq ?_ | refine k_cond rfl ?_ | refine K_skip ?_ | refine K_exit ?_ | refine k_block ?_ | refine K_scope ?_ | (refine K_region (id := 0) ?_; refine mv ?_; refine mv ?_; (first | refine lnB S ?_ | refine lnS S rfl rfl ?_); refine mv ?_)))
  (refine KO_fn rfl rfl rfl rfl rfl ((stable_ok S C hp hl hi).mono ?_); rintro _ h ⟨l2, g1, g2, S2⟩) <;> (replace S := S2; clear S2; refine KO_nil ?_)
  all_goals (repeat' (first | refine K_seq ?_ | refine k_cond rfl ?_ | refine K_skip ?_ | refine K_exit ?_ | refine k_block ?_ | refine K_scope ?_))
  refine ⟨_, rfl, ?_⟩
  exact ⟨l2, g1, g2, S⟩
end Go.Proofs.Xx

/-
  Distances are less than the number of places; lists in strict order with the same elements.
-/
namespace Go.Proofs.Xx
set_option linter.unusedVariables false

theorem pigeonS : ∀ (n : Nat) (f : Nat → Nat) (d : Nat), (∀ e, e ≤ d → f e < n) → (∀ e e', e ≤ d → e' ≤ d → f e = f e' → e = e') → d < n
  | 0, f, d, h, _ => absurd (h 0 (Nat.zero_le _)) (Nat.not_lt_zero _)
  | n + 1, f, 0, h, _ => Nat.succ_pos _
  | n + 1, f, d + 1, h, k => by
    refine Nat.succ_lt_succ (pigeonS n (fun e => if f e = n then f (d + 1) else f e) d (fun e he => ?_) fun e e' he he' q => ?_)
    · show (if f e = n then f (d + 1) else f e) < n
      have h1 := h e (by omega)
      have h2 := h (d + 1) (Nat.le_refl _)
      split
      · rename_i e1
        have : f (d + 1) ≠ n := fun q => by have := k e (d + 1) (by omega) (Nat.le_refl _) (e1.trans q.symm); omega
        omega
      · omega
    · have q : (if f e = n then f (d + 1) else f e) = (if f e' = n then f (d + 1) else f e') := q
      split at q <;> split at q
      · exact k e e' (by omega) (by omega) (by omega)
      · have := k (d + 1) e' (Nat.le_refl _) (by omega) q; omega
      · have := k e (d + 1) (by omega) (Nat.le_refl _) q; omega
      · exact k e e' (by omega) (by omega) q
section
variable {N : Int → Int → Prop} {n s : Nat}
/-- On a least walk there is a place at each distance. -/
theorem IsDist.chain {d y : Nat} (h : IsDist N n s d y) (hy : y < n) : ∀ e, e ≤ d → ∃ x, x < n ∧ IsDist N n s e x := by
  induction d generalizing y with
  | zero => intro e he; exact ⟨y, hy, by rw [Nat.le_zero.1 he]; exact h⟩
  | succ d ih =>
    intro e he
    rcases Nat.lt_or_ge e (d + 1) with q | q
    · obtain ⟨x, hx, hw, hn⟩ := h.1
      obtain ⟨e', h1, h2⟩ := hw.least
      have : e' = d := by
        rcases Nat.lt_or_ge e' d with q1 | q1
        · exact absurd (show Wk N n s (e' + 1) y from ⟨x, hx, h2.1, hn⟩) (h.2 (e' + 1) (by omega))
        · omega
      subst this
      exact ih h2 hx e (by omega)
    · have : e = d + 1 := by omega
      subst this; exact ⟨y, hy, h⟩
theorem IsDist.ltS {d y : Nat} (h : IsDist N n s d y) (hy : y < n) : d < n := by
  have ch : ∀ e, ∃ x, e ≤ d → x < n ∧ IsDist N n s e x := fun e => by
    by_cases he : e ≤ d
    · obtain ⟨x, hx⟩ := h.chain hy e he; exact ⟨x, fun _ => hx⟩
    · exact ⟨0, fun q => absurd q he⟩
  obtain ⟨f, hf⟩ := Classical.axiomOfChoice ch
  refine pigeonS n f d (fun e he => (hf e he).1) fun e e' he he' q => ?_
  have h1 := (hf e he).2
  have h2 := (hf e' he').2
  rw [q] at h1
  exact h1.unique h2
theorem DistL.bound {l : List Int} (h : DistL N n s l) (y : Nat) (hy : y < n) : -1 ≤ l.getD y default ∧ l.getD y default < n := by
  rcases h.2 y hy with ⟨h1, -⟩ | ⟨d, h1, h2⟩
  · omega
  · have := h2.ltS hy; omega
end

/-- Two lists in strict order with the same elements are the same. -/
theorem strict_ext {α : Type} {lt : α → α → Prop} (irr : ∀ x, ¬ lt x x) (tr : ∀ {x y z}, lt x y → lt y z → lt x z) : ∀ {l m : List α}, l.Pairwise lt → m.Pairwise lt → (∀ x, x ∈ l ↔ x ∈ m) → l = m
  | [], [], _, _, _ => rfl
  | [], y :: m, _, _, h => by have := (h y).2 (by simp); simp at this
  | x :: l, [], _, _, h => by have := (h x).1 (by simp); simp at this
  | x :: l, y :: m, h1, h2, h => by
    rw [List.pairwise_cons] at h1 h2
    have e : x = y := by
      have a := (h x).1 (by simp)
      have b := (h y).2 (by simp)
      rw [List.mem_cons] at a b
      rcases a with a | a
      · exact a
      · rcases b with b | b
        · exact b.symm
        · exact absurd (tr (h1.1 y b) (h2.1 x a)) (irr x)
    subst e
    congr 1
    refine strict_ext irr tr h1.2 h2.2 fun z => ?_
    have hz := h z
    rw [List.mem_cons, List.mem_cons] at hz
    constructor
    · intro q
      rcases hz.1 (.inr q) with r | r
      · subst r; exact absurd (h1.1 z q) (irr z)
      · exact r
    · intro q
      rcases hz.2 (.inr q) with r | r
      · subst r; exact absurd (h2.1 z q) (irr z)
      · exact r
/-- The order of honour: by key, then by number. -/
def HonL (key : Int → Int) (f n : Int) (out : List Int) : Prop := out.Pairwise (lexi key) ∧ ∀ x, x ∈ out ↔ f ≤ x ∧ x < f + n
theorem HonL.unique {key : Int → Int} {f n : Int} {a b : List Int} (ha : HonL key f n a) (hb : HonL key f n b) : a = b :=
  strict_ext (lexi_ord key).irr (lexi_ord key).tr ha.1 hb.1 fun x => (ha.2 x).trans (hb.2 x).symm
theorem Srt.pairwise {α : Type} [Inhabited α] {lt : α → α → Prop} {l : List α} (h : Srt lt 0 l.length l) : l.Pairwise fun x y => ¬ lt y x := by
  rw [List.pairwise_iff_getElem]
  intro i j hi hj hij
  have := h i j (Nat.zero_le _) hij hj
  rw [List.getD_eq_getElem?_getD, List.getD_eq_getElem?_getD, List.getElem?_eq_getElem hi, List.getElem?_eq_getElem hj] at this
  exact this
theorem HonL.of_sorted {key : Int → Int} {f : Int} {n : Nat} {l out : List Int} (hl : l = (List.range n).map fun k : Nat => f + (k : Int)) (hs : Sw 0 l.length l out) (hq : Srt (lexi key) 0 l.length out) : HonL key f n out := by
  have hlen : l.length = n := by rw [hl]; simp
  have hp := hs.perm
  have hnd : l.Pairwise (· ≠ ·) := by
    rw [hl, List.pairwise_map]
    exact List.pairwise_lt_range.imp fun h => by omega
  have hnd2 : out.Pairwise (· ≠ ·) := hp.symm.pairwise hnd (fun h => h.symm)
  refine ⟨?_, fun x => ?_⟩
  · rw [← hs.len] at hq
    have := (hq.pairwise).and hnd2
    refine this.imp fun ⟨h1, h2⟩ => ?_
    unfold lexi at *
    omega
  · rw [hp.mem_iff, hl, List.mem_map]
    constructor
    · rintro ⟨k, hk, rfl⟩
      have := List.mem_range.1 hk
      omega
    · intro ⟨h1, h2⟩
      exact ⟨(x - f).toNat, List.mem_range.2 (by omega), by omega⟩
end Go.Proofs.Xx

/-
  The order of honour.
-/
namespace Go.Proofs.Xx
open Go Go.Proofs
set_option linter.unusedSimpArgs false
set_option linter.unusedVariables false
set_option maxRecDepth 100000

theorem honCmp_ok {h0 : AH} (w : WfH h0) {bA bF : Nat} {vb : Value} {lv : List Int} {f : Int} (hA : h0.get bA = some (.cells [vb] 23 none false)) (hF : h0.get bF = some (.cells [.int .i64 f] 3 none false)) (rb : RdL h0 vb 1 eI lv)
    (hv : ∀ i, i < lv.length → 0 ≤ lv.getD i default ∧ lv.getD i default ≤ 1000) (hlv : lv.length ≤ 1000) (hf : 0 ≤ f ∧ f ≤ 1000000) :
    KeyFn h0 90 [.pointer (some ⟨bA, 0, none⟩), .pointer (some ⟨bF, 0, none⟩)] (fun x => lv.getD (x - f).toNat default) (fun x => f ≤ x ∧ x < f + lv.length) := by
  intro h x y ex hx hy
  have hA := ex.get w hA
  have hF := ex.get w hF
  have rb := rb.ext w ex
  have w2 := ex.wf
  clear w ex
  have S := Hs.start w2
  have b1 := hv (x - f).toNat (by omega)
  have b2 := hv (y - f).toNat (by omega)
  refine Fn_K rfl Tryz.func90 rfl rfl ?_
  all_goals (repeat' (first | refine K_seq ?_ | refine k_cond rfl ?_ | refine K_skip ?_ | refine K_exit ?_ | refine k_block ?_ | refine K_scope ?_ | (refine K_region (id := 0) ?_; refine mv ?_; refine KO_nil ?_) | (refine K_draw (id := 1) ?_; (first | refine lB S rfl rfl ?_ | refine lES2 S rfl rfl ?_ | refine lEB S ?_ | refine lH S ?_); refine mv ?_; (first | refine lB S rfl rfl ?_ | refine lES2 S rfl rfl ?_ | refine lEB S ?_ | refine lH S ?_); (first | refine sb ?_ | refine vl ?_); (first | refine ixB S ?_ | refine ixS2 S rfl rfl ?_); (first | refine lB S rfl rfl ?_ | refine lES2 S rfl rfl ?_ | refine lEB S ?_ | refine lH S ?_); (first | refine lB S rfl rfl ?_ | refine lES2 S rfl rfl ?_ | refine lEB S ?_ | refine lH S ?_); refine mv ?_; (first | refine lB S rfl rfl ?_ | refine lES2 S rfl rfl ?_ | refine lEB S ?_ | refine lH S ?_); (first | refine sb ?_ | refine vl ?_); (first | refine ixB S ?_ | refine ixS2 S rfl rfl ?_); (first | refine lB S rfl rfl ?_ | refine lES2 S rfl rfl ?_ | refine lEB S ?_ | refine lH S ?_); (first | refine sb ?_ | refine vl ?_); refine mv ?_; refine KO_nil ?_)))
  refine K_ret ⟨_, rfl, ?_⟩
  exact ⟨_, rfl, by show _ ↔ lv.getD (x - f).toNat default < lv.getD (y - f).toNat default; omega, S⟩

theorem lvl_len (n : Nat) (l : List Int) : (lvl n l).length = l.length := List.length_map ..
theorem lvl_get (n : Nat) (l : List Int) (i : Nat) (h : i < l.length) : (lvl n l).getD i default = if l.getD i default < 0 then (n : Int) else l.getD i default := by
  simp [lvl, List.getD_eq_getElem?_getD, List.getElem?_map, List.getElem?_eq_getElem h]
theorem lvl_bound {N : Int → Int → Prop} {n s : Nat} {l : List Int} (d : DistL N n s l) (i : Nat) (h : i < n) : 0 ≤ (lvl n l).getD i default ∧ (lvl n l).getD i default ≤ n := by
  have := d.bound i h
  rw [lvl_get n l i (by rw [d.1]; exact h)]
  split <;> omega

/-- The first n seats of a table whose first seat is f. -/
def ups (f : Int) (n : Nat) : List Int := (List.range n).map fun k : Nat => f + (k : Int)
theorem ups_len (f : Int) (n : Nat) : (ups f n).length = n := by simp [ups]
theorem ups_get (f : Int) {n k : Nat} (h : k < n) : (ups f n).getD k default = f + k := by
  simp [ups, List.getD_eq_getElem?_getD, List.getElem?_map, List.getElem?_range h]
def HonR (l : List Tab) (t : Int) (out : List Int) : Prop :=
  (∃ (i n : Nat) (ld : List Int), t = i ∧ i < l.length ∧ ValidL l ∧ tsize (tb l i) = n ∧ DistL (nearP (tb l i)) n (tHon (tb l i)).toNat ld ∧ HonL (fun x => (lvl n ld).getD (x - sumT l i).toNat default) (sumT l i) n out) ∨ (¬ (0 ≤ t ∧ t < l.length ∧ ValidL l) ∧ out = [])
theorem HonR.unique {l : List Tab} {t : Int} {a b : List Int} (ha : HonR l t a) (hb : HonR l t b) : a = b := by
  rcases ha with ⟨i, n, ld, rfl, h1, h2, h3, h4, h5⟩ | ⟨h1, rfl⟩ <;> rcases hb with ⟨i', n', ld', e, g1, g2, g3, g4, g5⟩ | ⟨g1, rfl⟩
  · obtain rfl : i = i' := by omega
    obtain rfl : n = n' := by omega
    obtain rfl := h4.unique g4
    exact h5.unique g5
  · exact absurd ⟨by omega, by omega, h2⟩ g1
  · exact absurd ⟨by omega, by omega, g2⟩ h1
  · rfl

theorem ValidL.tabS {l : List Tab} (h : ValidL l) {i : Nat} (hi : i < l.length) : TabS (tb l i) := by
  have := (h.2 i hi).1
  have h2 := tsize_le (tb l i)
  refine TabS.of _ ?_
  unfold chk at this
  split at this
  · omega
  · split at this
    · omega
    · omega

theorem honour_ok {h0 : AH} (w : WfH h0) (v : Value) (l : List Tab) (H : HallR h0 v l) (t : Int) : Fn Tryz.prog Xh 34 [v, .int .i64 t] h0 (fun r h' => ∃ out, HonR l t out ∧ out.length ≤ 1000 ∧ Hs h0 h' [.sl r 3 1 eI out]) := by
  have S := Hs.start w
  have hl := H.len
  have hr := H.rd
  by_cases ht0 : t < 0
  · refine Fn_K rfl Tryz.func34 rfl rfl ?_
    all_goals (repeat' (first | refine K_seq ?_ | refine k_cond rfl ?_ | refine K_skip ?_ | refine K_exit ?_ | refine k_block ?_ | refine K_scope ?_ | (refine K_region (id := 0) ?_; refine mv ?_; refine KO_nil ?_) | (refine K_region (id := 1) ?_; refine mv ?_; (first | refine cT ?_ | refine cF ?_ | (refine cS ?_ ?_ <;> intro hc)) <;> (refine mv ?_; (first | refine off ?_ | refine mv ?_); (first | refine off ?_ | refine mv ?_); (first | refine off ?_ | (first | refine lnB S ?_ | refine lnS S rfl rfl ?_)); (first | refine off ?_ | (first | refine cT ?_ | refine cF ?_ | (refine cS ?_ ?_ <;> intro hc))) <;> (refine vl ?_; refine mv ?_; (first | refine off ?_ | refine mv ?_); (first | (refine off ?_; (first | refine off ?_ | refine vl ?_); refine vl ?_; refine KO_nil ?_) | skip)))) | (refine K_region (id := 2) ?_; refine mv ?_; refine KO_nil ?_) | (refine K_region (id := 3) ?_; refine mv ?_; refine mv ?_; (first | refine ixB S ?_ | refine ixS2 S rfl rfl ?_); (first | refine lB S rfl rfl ?_ | refine lES2 S rfl rfl ?_ | refine lEB S ?_ | refine lH S ?_))))
    all_goals (try omega)
    refine K_ret ⟨_, rfl, ?_⟩
    exact ⟨[], .inr ⟨by omega, rfl⟩, by simp, S.nilS⟩
  obtain ⟨i, rfl⟩ := Int.eq_ofNat_of_zero_le (show 0 ≤ t by omega)
  refine Fn_K rfl Tryz.func34 rfl rfl ?_
  all_goals (repeat' (first | refine K_seq ?_ | refine k_cond rfl ?_ | refine K_skip ?_ | refine K_exit ?_ | refine k_block ?_ | refine K_scope ?_ | (refine K_region (id := 0) ?_; refine mv ?_; refine KO_nil ?_) | (refine K_region (id := 1) ?_; refine mv ?_; (first | refine cT ?_ | refine cF ?_ | (refine cS ?_ ?_ <;> intro hc)) <;> (refine mv ?_; (first | refine off ?_ | refine mv ?_); (first | refine off ?_ | refine mv ?_); (first | refine off ?_ | (first | refine lnB S ?_ | refine lnS S rfl rfl ?_)); (first | refine off ?_ | (first | refine cT ?_ | refine cF ?_ | (refine cS ?_ ?_ <;> intro hc))) <;> (refine vl ?_; refine mv ?_; (first | refine off ?_ | refine mv ?_); (first | (refine off ?_; (first | refine off ?_ | refine vl ?_); refine vl ?_; refine KO_nil ?_) | skip)))) | (refine K_region (id := 2) ?_; refine mv ?_; refine KO_nil ?_) | (refine K_region (id := 3) ?_; refine mv ?_; refine mv ?_; (first | refine ixB S ?_ | refine ixS2 S rfl rfl ?_); (first | refine lB S rfl rfl ?_ | refine lES2 S rfl rfl ?_ | refine lEB S ?_ | refine lH S ?_))))
  all_goals (try omega)
  · refine K_ret ⟨_, rfl, ?_⟩
    exact ⟨[], .inr ⟨by omega, rfl⟩, by simp, S.nilS⟩
  · (refine KO_fn rfl rfl rfl rfl rfl ((valid_ok S.wf v l H).mono ?_); rintro _ h ⟨⟨rfl, hq⟩ | ⟨rfl, hq⟩, x⟩) <;> (replace S := S.join0 x; clear x; (first | refine off ?_ | refine vl ?_); refine vl ?_; refine KO_nil ?_)
    all_goals (repeat' (first | refine K_seq ?_ | refine k_cond rfl ?_ | refine K_skip ?_ | refine K_exit ?_ | refine k_block ?_ | refine K_scope ?_ | (refine K_region (id := 2) ?_; refine mv ?_; refine KO_nil ?_) | (refine K_region (id := 3) ?_; refine mv ?_; refine mv ?_; (first | refine ixB S ?_ | refine ixS2 S rfl rfl ?_); (first | refine lB S rfl rfl ?_ | refine lES2 S rfl rfl ?_ | refine lEB S ?_ | refine lH S ?_))))
    · have hi : i < l.length := by omega
      have hts := hq.tabS hi
      have t1 := tsize_le (tb l i)
      have t2 := hts.pos
      have b1 := sumT_le l i
      obtain ⟨n, hn⟩ := Int.eq_ofNat_of_zero_le t1.1
      (try simp only [Int.toNat_natCast] at *)
      (refine KO_fn rfl rfl rfl rfl rfl ((levels_ok S.wf (tb l i) n hts.b hn (by omega) (by omega)).mono ?_); rintro vb h ⟨ld, hd, x⟩) <;> (replace S := S.join1 x; clear x; obtain ⟨sb, rfl⟩ := (Rd.of_sl S .here).isSl; (refine al S ?_; clear S; intro b h S); (first | (refine sB S rfl rfl ?_; clear S; intro h S) | (refine sE2 S rfl rfl ?_; clear S; intro h S)); refine KO_nil ?_)
      have hdl := hd.1
      have hll := lvl_len n ld
      all_goals (repeat' (first | refine K_seq ?_ | refine k_cond rfl ?_ | refine K_skip ?_ | refine K_exit ?_ | refine k_block ?_ | refine K_scope ?_ | (refine K_region (id := 4) ?_; refine mv ?_; refine mv ?_)))
      obtain ⟨bA, hnm⟩ : ∃ x, x = b := ⟨_, rfl⟩; subst hnm
      have H2 := H.ext w S.ext
      obtain ⟨f, hf⟩ : ∃ f, f = sumT l i := ⟨_, rfl⟩
      have ef : firstV l i = f := by unfold firstV; rw [if_pos ⟨by omega, by omega, hq⟩, Int.toNat_natCast, hf]
      rw [← hf] at b1
      (refine KO_fn rfl rfl rfl rfl rfl ((first_ok S.wf v l H2 i).mono ?_); rintro _ h ⟨rfl, x⟩) <;> (replace S := S.join0 x; clear x; rw [ef]; (refine al S ?_; clear S; intro b h S); (first | (refine sB S rfl rfl ?_; clear S; intro h S) | (refine sE2 S rfl rfl ?_; clear S; intro h S)); refine KO_nil ?_)
      obtain ⟨bF, hnm⟩ : ∃ x, x = b := ⟨_, rfl⟩; subst hnm
      have w1 := S.wf
      have hA : h.get bA = some (.cells [sb.val] 23 none false) := S.gB (b := bA)
      have hF : h.get bF = some (.cells [.int .i64 f] 3 none false) := S.gB (b := bF)
      have rb : RdL h sb.val 1 eI (lvl n ld) := Rd.of_sl S (.there (.there .here))
      have T := S
      replace S := Hs.start w1
      obtain ⟨hB, hnm⟩ : ∃ x, x = h := ⟨_, rfl⟩; subst hnm
      have hfb : f ≤ 1000000 := by omega
      have hKF := honCmp_ok w1 hA hF rb (fun j hj => by have := lvl_bound hd j (by omega); omega) (by omega) ⟨b1.1, hfb⟩
      all_goals (repeat' (first | refine K_seq ?_ | refine k_cond rfl ?_ | refine K_skip ?_ | refine K_exit ?_ | refine k_block ?_ | refine K_scope ?_ | (refine K_region (id := 5) ?_; (first | refine lB S rfl rfl ?_ | refine lES2 S rfl rfl ?_ | refine lEB S ?_ | refine lH S ?_); (first | refine lnB S ?_ | refine lnS S rfl rfl ?_))))
      refine m_make (z := 1) (by_ := 8) (enc := eI) (y0 := 0) S rfl rfl rfl rfl rfl rfl rfl rfl rfl (by intro _; rfl) (by first | omega | grind) rfl rfl ?_; clear S; intro v h S; refine mv ?_; refine KO_nil ?_
      rw [hll, hdl, Int.toNat_natCast] at S
      obtain ⟨vo, hnm⟩ : ∃ x, x = v := ⟨_, rfl⟩; subst hnm
      all_goals (repeat' (first | refine K_seq ?_ | refine k_cond rfl ?_ | refine K_skip ?_ | refine K_exit ?_ | refine k_block ?_ | refine K_scope ?_ | (refine K_region (id := 6) ?_; refine mv ?_; (first | refine lnB S ?_ | refine lnS S rfl rfl ?_); refine mv ?_; refine KO_nil ?_)))
      refine k_loop (σ := Nat × List Int) (fun (k, m) h' => Hs hB h' [.sl vo 3 1 eI m] ∧ k ≤ n ∧ m.length = n ∧ ∀ j, j < k → m.getD j default = f + j) (fun (k, m) => n - k) (fun (k, m) => [(5, .pointer (some ⟨bA, 0, none⟩)), (6, .pointer (some ⟨bF, 0, none⟩)), (7, vo), (34, .int .i64 n), (35, .int .i64 k)]) (0, List.replicate n 0) (by repeat (first | exact Ks.le_nil _ | refine Ks.le_cons rfl ?_ | refine Ks.le_int ?_)) ?_ ?_
      · exact ⟨S, Nat.zero_le _, by simp, fun j hj => by omega⟩
      clear S
      rintro ⟨k, m⟩ h2 ⟨S, g1, g2, g3⟩
      all_goals (repeat' (first | refine K_seq ?_ | refine k_cond rfl ?_ | refine K_skip ?_ | refine K_exit ?_ | refine k_block ?_ | refine K_scope ?_ | (refine K_region (id := 7) ?_; (first | refine cT ?_ | refine cF ?_ | (refine cS ?_ ?_ <;> intro hc)) <;> (refine KO_nil ?_)) | (refine K_region (id := 8) ?_; refine mv ?_; refine mv ?_; refine KO_nil ?_) | (refine K_region (id := 9) ?_; refine mv ?_; refine mv ?_; (first | refine lB S rfl rfl ?_ | refine lES2 S rfl rfl ?_ | refine lEB S ?_ | refine lH S ?_); refine mv ?_; (first | refine ad ?_ | refine vl ?_); (first | refine ixB S ?_ | refine ixS2 S rfl rfl ?_); (first | (refine sB S rfl rfl ?_; clear S; intro h S) | (refine sE2 S rfl rfl ?_; clear S; intro h S)); refine KO_nil ?_) | (refine K_region (id := 10) ?_; (first | refine ad ?_ | refine vl ?_); refine mv ?_; refine KO_nil ?_) | (refine K_region (id := 11) ?_; refine mv ?_; refine vl ?_)))
      · (try simp only [Int.toNat_natCast] at *)
        refine ⟨(k + 1, m.set k (f + k)), ?_, ?_, (by repeat (first | exact Ks.le_nil _ | refine Ks.le_cons rfl ?_ | refine Ks.le_int ?_))⟩
        · show n - (k + 1) < n - k; omega
        · refine ⟨S, by omega, by simpa using g2, fun j hj => ?_⟩
          rw [getD_set _ _ (by omega)]
          split
          · rename_i e; subst e; rfl
          · exact g3 j (by omega)
      · obtain rfl : k = n := by omega
        obtain rfl : m = ups f k := ext_getD (by rw [g2, ups_len]) fun j hj => by rw [g3 j (by omega), ups_get f (by omega)]
        have hul := ups_len f k
        have hp1 : ∀ j, 0 ≤ j → j < (ups f k).length → f ≤ (ups f k).getD j default ∧ (ups f k).getD j default < f + (lvl k ld).length := fun j _ hj => by rw [ups_get f (by omega)]; constructor <;> omega
        have hi1 : Inc 0 (ups f k).length (ups f k) := fun x y q1 q2 q3 => by rw [ups_get f (by omega), ups_get f (by omega)]; omega
        (refine KO_fn rfl rfl rfl rfl rfl ((sortStable_ok S hKF hp1 (by omega) hi1).mono ?_); rintro _ h ⟨out, k1, k2, S2⟩) <;> (replace S := S2; clear S2; refine KO_nil ?_)
        all_goals (repeat' (first | refine K_seq ?_ | refine k_cond rfl ?_ | refine K_skip ?_ | refine K_exit ?_ | refine k_block ?_ | refine K_scope ?_ | (refine K_region (id := 12) ?_; refine mv ?_; refine mv ?_; refine KO_nil ?_)))
        refine K_ret ⟨_, rfl, ?_⟩
        refine ⟨out, .inl ⟨i, k, ld, rfl, hi, hq, hn, hd, ?_⟩, by rw [k1.len]; omega, T.drop.join1 S⟩
        rw [← hf]
        exact HonL.of_sorted rfl k1 k2
    · refine K_ret ⟨_, rfl, ?_⟩
      exact ⟨[], .inr ⟨fun q => hq q.2.2, rfl⟩, by simp, S.nilS⟩

/-- The order of honour as far as it is told: levels below d, and d among the first k. -/
def HonPre (key : Int → Int) (f : Int) (n : Nat) (d : Int) (k : Nat) (out : List Int) : Prop := out.Pairwise (lexi key) ∧ ∀ x, x ∈ out ↔ ∃ j : Nat, j < n ∧ x = f + j ∧ (key x < d ∨ (key x = d ∧ j < k))
theorem HonPre.take {key : Int → Int} {f : Int} {n : Nat} {d : Int} {k : Nat} {out : List Int} (h : HonPre key f n d k out) (hk : k < n) (hq : key (f + k) = d) : HonPre key f n d (k + 1) (out ++ [f + k]) := by
  refine ⟨List.pairwise_append.2 ⟨h.1, by simp, fun a ha b hb => ?_⟩, fun x => ?_⟩
  · obtain ⟨j, h1, h2, h3⟩ := (h.2 a).1 ha
    rw [List.mem_singleton] at hb
    subst hb
    unfold lexi
    omega
  · rw [List.mem_append, List.mem_singleton, h.2]
    constructor
    · rintro (⟨j, h1, h2, h3⟩ | h1)
      · exact ⟨j, h1, h2, by omega⟩
      · exact ⟨k, hk, h1, by rw [h1]; omega⟩
    · rintro ⟨j, h1, h2, h3⟩
      rcases Nat.lt_trichotomy j k with q | q | q
      · exact .inl ⟨j, h1, h2, by omega⟩
      · subst q; exact .inr h2
      · exact .inl ⟨j, h1, h2, by omega⟩
theorem HonPre.pass {key : Int → Int} {f : Int} {n : Nat} {d : Int} {k : Nat} {out : List Int} (h : HonPre key f n d k out) (hq : key (f + k) ≠ d) : HonPre key f n d (k + 1) out := by
  refine ⟨h.1, fun x => ?_⟩
  rw [h.2]
  constructor
  · rintro ⟨j, h1, h2, h3⟩; exact ⟨j, h1, h2, by omega⟩
  · rintro ⟨j, h1, h2, h3⟩
    refine ⟨j, h1, h2, ?_⟩
    rcases h3 with h3 | ⟨h3, h4⟩
    · exact .inl h3
    · rcases Nat.lt_or_ge j k with q | q
      · exact .inr ⟨h3, q⟩
      · obtain rfl : j = k := by omega
        rw [h2] at h3; exact absurd h3 hq
theorem HonPre.level {key : Int → Int} {f : Int} {n : Nat} {d : Int} {out : List Int} (h : HonPre key f n d n out) : HonPre key f n (d + 1) 0 out := by
  refine ⟨h.1, fun x => ?_⟩
  rw [h.2]
  constructor
  · rintro ⟨j, h1, h2, h3⟩; exact ⟨j, h1, h2, by omega⟩
  · rintro ⟨j, h1, h2, h3⟩; exact ⟨j, h1, h2, by omega⟩
theorem HonPre.done {key : Int → Int} {f : Int} {n : Nat} {d : Int} {out : List Int} (h : HonPre key f n d 0 out) (hb : ∀ j : Nat, j < n → key (f + j) < d) : HonL key f n out := by
  refine ⟨h.1, fun x => ?_⟩
  rw [h.2]
  constructor
  · rintro ⟨j, h1, h2, h3⟩; omega
  · intro ⟨h1, h2⟩
    refine ⟨(x - f).toNat, by omega, by omega, .inl ?_⟩
    have := hb (x - f).toNat (by omega)
    rwa [show f + ((x - f).toNat : Int) = x by omega] at this

end Go.Proofs.Xx

/-
  Levels, near seats, the order of honour.
-/
namespace Go.Proofs.Xx
set_option linter.unusedVariables false

section
variable {N : Int → Int → Prop} {n s : Nat} {ld : List Int}
/-- The level of a place. -/
def lev (n : Nat) (ld : List Int) (k : Nat) : Int := if ld.getD k default < 0 then (n : Int) else ld.getD k default
end

/-! ### the order of honour, by index -/
section
variable {key : Int → Int} {f : Int} {n : Nat} {out : List Int}
theorem HonL.at_ (h : HonL key f n out) {i j : Nat} (hij : i < j) (hj : j < out.length) : lexi key (out.getD i default) (out.getD j default) := by
  have := List.pairwise_iff_getElem.1 h.1 i j (by omega) hj hij
  rw [List.getD_eq_getElem?_getD, List.getD_eq_getElem?_getD, List.getElem?_eq_getElem hj, List.getElem?_eq_getElem (show i < out.length by omega)]
  exact this
theorem HonL.mem_ (h : HonL key f n out) {i : Nat} (hi : i < out.length) : f ≤ out.getD i default ∧ out.getD i default < f + n := by
  refine (h.2 _).1 ?_
  rw [List.getD_eq_getElem?_getD, List.getElem?_eq_getElem hi]
  exact List.getElem_mem hi
theorem HonL.inj (h : HonL key f n out) {i j : Nat} (hi : i < out.length) (hj : j < out.length) (e : out.getD i default = out.getD j default) : i = j := by
  have irr := (lexi_ord key).irr
  rcases Nat.lt_trichotomy i j with q | q | q
  · have := h.at_ q hj; rw [e] at this; exact absurd this (irr _)
  · exact q
  · have := h.at_ q hi; rw [e] at this; exact absurd this (irr _)
theorem HonL.pos_ (h : HonL key f n out) {k : Nat} (hk : k < n) : ∃ i, i < out.length ∧ out.getD i default = f + k := by
  have := (h.2 (f + k)).2 ⟨by omega, by omega⟩
  obtain ⟨i, hi, e⟩ := List.getElem_of_mem this
  refine ⟨i, hi, ?_⟩
  rw [List.getD_eq_getElem?_getD, List.getElem?_eq_getElem hi]; exact e
theorem HonL.len (h : HonL key f n out) : out.length = n := by
  refine Nat.le_antisymm ?_ ?_
  · refine pigeon n out.length (fun i => (out.getD i default - f).toNat) (fun k hk => ?_) fun i j hi hj e => ?_
    · have := h.mem_ hk; show (out.getD k default - f).toNat < n; omega
    · have a := h.mem_ hi
      have b := h.mem_ hj
      have e : (out.getD i default - f).toNat = (out.getD j default - f).toNat := e
      exact h.inj hi hj (by omega)
  · have ch : ∀ k, ∃ i, k < n → i < out.length ∧ out.getD i default = f + k := fun k => by
      by_cases hk : k < n
      · obtain ⟨i, hi⟩ := h.pos_ hk; exact ⟨i, fun _ => hi⟩
      · exact ⟨0, fun q => absurd q hk⟩
    obtain ⟨g, hg⟩ := Classical.axiomOfChoice ch
    refine pigeon out.length n g (fun k hk => (hg k hk).1) fun i j hi hj e => ?_
    have a := (hg i hi).2
    have b := (hg j hj).2
    rw [e] at a
    omega
/-- The first in the order of honour is the only one with the key 0. -/
theorem HonL.zero (h : HonL key f n out) {s : Nat} (hs : s < n) (hz : ∀ k : Nat, k < n → (key (f + k) = 0 ↔ k = s)) (hb : ∀ k : Nat, k < n → 0 ≤ key (f + k)) {i : Nat} (hi : i < out.length) : key (out.getD i default) = 0 ↔ i = 0 := by
  have at' : ∀ {i : Nat}, i < out.length → ∃ k : Nat, k < n ∧ out.getD i default = f + k := fun {i} hi => by
    have := h.mem_ hi
    exact ⟨(out.getD i default - f).toNat, by omega, by omega⟩
  obtain ⟨j, hj, ej⟩ := h.pos_ hs
  have k0 : key (out.getD j default) = 0 := by rw [ej]; exact (hz s hs).2 rfl
  have uniq : ∀ {i : Nat}, i < out.length → key (out.getD i default) = 0 → i = j := fun {i} hi e => by
    obtain ⟨k, hk, ek⟩ := at' hi
    rw [ek] at e
    have := (hz k hk).1 e
    subst this
    exact h.inj hi hj (by rw [ek, ej])
  have j0 : j = 0 := by
    rcases Nat.eq_zero_or_pos j with q | q
    · exact q
    · exfalso
      have hl := h.at_ q hj
      obtain ⟨k, hk, ek⟩ := at' (show 0 < out.length by omega)
      have := hb k hk
      rw [← ek] at this
      unfold lexi at hl
      have e0 : key (out.getD 0 default) = 0 := by omega
      have := uniq (show 0 < out.length by omega) e0
      omega
  constructor
  · intro q; rw [uniq hi q, j0]
  · intro q; rw [q, ← j0]; exact k0
end
end Go.Proofs.Xx

/-
  HallLevels: the order of honour goes by levels.
-/
namespace Go.Proofs.Xx
open Go Go.Proofs
set_option linter.unusedSimpArgs false
set_option linter.unusedVariables false
set_option maxRecDepth 100000

theorem lvl_lev {n : Nat} {ld : List Int} {k : Nat} (h : k < ld.length) : (lvl n ld).getD k default = lev n ld k := by rw [lvl_get n ld k h]; rfl
theorem LevR.is {l : List Tab} {a d : Int} {i k n : Nat} {ld : List Int} (h : LevR l a d) (w : WhereI l a i k) (hn : tsize (tb l i) = n) (D : DistL (nearP (tb l i)) n (tHon (tb l i)).toNat ld) : d = lev n ld k := by
  have hnn : (tsize (tb l i)).toNat = n := by omega
  rcases h with ⟨i', k', ld', w', D', e⟩ | ⟨-, h⟩
  · obtain ⟨rfl, rfl⟩ := w.unique w'
    rw [hnn] at D' e
    obtain rfl := D.unique D'
    rw [e, lvl_lev]
    have := w.2.2.1
    rw [D.1]; omega
  · exact absurd w (h _ _)
theorem NbR.is {l : List Tab} {a : Int} {i k n : Nat} {out : List Int} (h : NbR l a out) (w : WhereI l a i k) (hn : tsize (tb l i) = n) : out = nbUp (nearP (tb l i)) k a n := by
  have hnn : (tsize (tb l i)).toNat = n := by omega
  rcases h with ⟨i', k', w', e⟩ | ⟨-, h⟩
  · obtain ⟨rfl, rfl⟩ := w.unique w'
    rw [e, hnn]
  · exact absurd w (h _ _)
theorem DistR.is {l : List Tab} {a b d : Int} {f : Bool} {i k m n : Nat} (h : DistR l a b d f) (w1 : WhereI l a i k) (w2 : WhereI l b i m) (hn : tsize (tb l i) = n) : f = true ↔ ∃ e, Wk (nearP (tb l i)) n k e m := by
  have hnn : (tsize (tb l i)).toNat = n := by omega
  rcases h with ⟨rfl, i', k', m', e, q1, q2, -, q3⟩ | ⟨rfl, -, q⟩
  · obtain ⟨rfl, rfl⟩ := w1.unique q1
    obtain ⟨-, rfl⟩ := w2.unique q2
    rw [hnn] at q3
    exact ⟨fun _ => ⟨e, q3.1⟩, fun _ => rfl⟩
  · refine ⟨fun q => (by cases q), fun ⟨e, he⟩ => ?_⟩
    obtain ⟨e', -, h2⟩ := he.least
    exact absurd (by rw [hnn]; exact h2) (q i k m e' w1 w2)
theorem HonR.is {l : List Tab} {i n : Nat} {out : List Int} (h : HonR l i out) (hi : i < l.length) (hv : ValidL l) (hn : tsize (tb l i) = n) : ∃ ld, DistL (nearP (tb l i)) n (tHon (tb l i)).toNat ld ∧ HonL (fun x => (lvl n ld).getD (x - sumT l i).toNat default) (sumT l i) n out := by
  rcases h with ⟨i', n', ld, e, h1, h2, h3, h4, h5⟩ | ⟨h1, -⟩
  · obtain rfl : i = i' := by omega
    obtain rfl : n = n' := by omega
    exact ⟨ld, h4, h5⟩
  · exact absurd ⟨by omega, by omega, hv⟩ h1
end Go.Proofs.Xx

/-
  Blocks of places that reach each other.
-/
namespace Go.Proofs.Xx
set_option linter.unusedVariables false

section
variable {N : Int → Int → Prop} {n : Nat}
def Rch (N : Int → Int → Prop) (n k m : Nat) : Prop := ∃ d, Wk N n k d m
theorem Rch.refl (k : Nat) : Rch N n k k := ⟨0, rfl⟩
theorem Wk.trans {s y : Nat} {d : Nat} (h : Wk N n s d y) : ∀ {e z : Nat}, Wk N n y e z → Wk N n s (d + e) z
  | 0, z, g => by
    have : z = y := g
    subst this; exact h
  | e + 1, z, ⟨x, hx, g, hn⟩ => ⟨x, hx, Wk.trans h g, hn⟩
theorem Wk.symm (hN : ∀ x y, N x y → N y x) {s : Nat} (hs : s < n) : ∀ {d y : Nat}, y < n → Wk N n s d y → Wk N n y d s
  | 0, y, hy, h => Eq.symm (show y = s from h)
  | d + 1, y, hy, ⟨x, hx, h, hn⟩ => by
    have h1 : Wk N n y 1 x := ⟨y, hy, rfl, hN _ _ hn⟩
    have := Wk.trans h1 (Wk.symm hN hs hx h)
    rwa [Nat.add_comm] at this
theorem Rch.trans {a b c : Nat} (h : Rch N n a b) (g : Rch N n b c) : Rch N n a c := by
  obtain ⟨d, h⟩ := h
  obtain ⟨e, g⟩ := g
  exact ⟨d + e, h.trans g⟩
theorem Rch.symm (hN : ∀ x y, N x y → N y x) {a b : Nat} (ha : a < n) (hb : b < n) (h : Rch N n a b) : Rch N n b a := by
  obtain ⟨d, h⟩ := h
  exact ⟨d, h.symm hN ha hb⟩
theorem DistL.rch {s : Nat} {l : List Int} (h : DistL N n s l) {y : Nat} (hy : y < n) : 0 ≤ l.getD y default ↔ Rch N n s y := by
  rcases h.2 y hy with ⟨h1, h2⟩ | ⟨d, h1, h2⟩
  · exact ⟨fun q => by omega, fun ⟨d, q⟩ => absurd q (h2 d)⟩
  · exact ⟨fun _ => ⟨d, h2.1⟩, fun _ => by omega⟩

open Classical in
/-- What k reaches among the first m. -/
noncomputable def blkPre (N : Int → Int → Prop) (n : Nat) (f : Int) (k : Nat) : Nat → List Int
  | 0 => []
  | m + 1 => if Rch N n k m then blkPre N n f k m ++ [f + (m : Int)] else blkPre N n f k m
theorem blkPre_len (f : Int) (k : Nat) : ∀ m, (blkPre N n f k m).length ≤ m
  | 0 => Nat.le_refl _
  | m + 1 => by
    have := blkPre_len f k m
    unfold blkPre
    split
    · simp; omega
    · omega
def leastP (N : Int → Int → Prop) (n k : Nat) : Prop := ∀ m, m < n → Rch N n k m → k ≤ m
open Classical in
/-- The blocks whose least place is among the first m. -/
noncomputable def blksPre (N : Int → Int → Prop) (n : Nat) (f : Int) : Nat → List (List Int)
  | 0 => []
  | m + 1 => if leastP N n m then blksPre N n f m ++ [blkPre N n f m n] else blksPre N n f m
theorem blksPre_len (f : Int) : ∀ m, (blksPre N n f m).length ≤ m
  | 0 => Nat.le_refl _
  | m + 1 => by
    have := blksPre_len f m
    unfold blksPre
    split
    · simp; omega
    · omega
end
end Go.Proofs.Xx

/-
  Lists of lists; the blocks of a table.
-/
namespace Go.Proofs.Xx
open Go Go.Proofs
set_option linter.unusedSimpArgs false
set_option linter.unusedVariables false
set_option maxRecDepth 100000

/-- The values vs read as the lists ls. -/
def LLs (vs : List Value) (ls : List (List Int)) (h : AH) (fp : Fp) : Prop := vs.length = ls.length ∧ ∀ j, j < ls.length → RdL h (vs.getD j default) 1 eI (ls.getD j default)
def RLL (h : AH) (v : Value) (ls : List (List Int)) : Prop := ∃ vs, RdL h v 1 eV vs ∧ vs.length = ls.length ∧ ∀ j, j < ls.length → RdL h (vs.getD j default) 1 eI (ls.getD j default)
theorem RLL.ext {h h' : AH} {v : Value} {ls : List (List Int)} (r : RLL h v ls) (w : WfH h) (x : Ext h h') : RLL h' v ls := by
  obtain ⟨vs, h1, h2, h3⟩ := r
  exact ⟨vs, h1.ext w x, h2, fun j hj => (h3 j hj).ext w x⟩
theorem RLL.nil {h : AH} : RLL h (.slice none 0 0) [] := ⟨[], Rd.none_ h 1, rfl, fun j hj => absurd hj (Nat.not_lt_zero _)⟩
theorem LLs.nil (h : AH) (fp : Fp) : LLs [] [] h fp := ⟨rfl, fun j hj => absurd hj (Nat.not_lt_zero _)⟩
/-- A list of one's own is put behind the lists that are read. -/
theorem Hs.pushLL {h0 h : AH} {rs : List Rs} {b : Value} {e : TypeId} {l : List Int} {vs : List Value} {ls : List (List Int)} (S : Hs h0 h (.sl b e 1 eI l :: .any (LLs vs ls) :: rs)) : Hs h0 h (.any (LLs (vs ++ [b]) (ls ++ [l])) :: rs) :=
  S.merge fun f1 f2 k1 k2 h'' hh => by
    have k2 := k2 h'' fun b hb => hh b (.inr hb)
    have k1 := k1.local fun b hb => hh b (.inl hb)
    refine ⟨by simp [k2.1], fun j hj => ?_⟩
    rw [List.length_append, List.length_cons, List.length_nil] at hj
    rcases Nat.lt_or_ge j ls.length with q | q
    · rw [getD_snoc1 _ _ (by rw [k2.1]; exact q), getD_snoc1 _ _ q]; exact k2.2 j q
    · rw [getD_snoc2 _ _ (by rw [k2.1]; omega), getD_snoc2 _ _ (by omega)]
      rcases k1 with ⟨rfl, rfl⟩ | ⟨b', o, cc, slk, g1, g2, g3, g4, g5⟩
      · exact Rd.none_ _ 1
      · exact .inr ⟨b', o, _, cc, e, slk, false, g1, g2, g4⟩
theorem RLL.of {h0 h : AH} {rs : List Rs} {v : Value} {e : TypeId} {vs : List Value} {ls : List (List Int)} (S : Hs h0 h rs) (a : At rs (.sl v e 1 eV vs)) (b : At rs (.any (LLs vs ls))) : RLL h v ls := by
  obtain ⟨fp, k⟩ := S.anyP b
  exact ⟨vs, Rd.of_sl S a, k.1, k.2⟩

def BlkR (l : List Tab) (t : Int) (ls : List (List Int)) : Prop :=
  (∃ i n : Nat, t = i ∧ i < l.length ∧ ValidL l ∧ tsize (tb l i) = n ∧ ls = blksPre (nearP (tb l i)) n (sumT l i) n) ∨ (¬ (0 ≤ t ∧ t < l.length ∧ ValidL l) ∧ ls = [])
theorem BlkR.unique {l : List Tab} {t : Int} {a b : List (List Int)} (ha : BlkR l t a) (hb : BlkR l t b) : a = b := by
  rcases ha with ⟨i, n, rfl, h1, h2, h3, rfl⟩ | ⟨h1, rfl⟩ <;> rcases hb with ⟨i', n', e, g1, g2, g3, rfl⟩ | ⟨g1, rfl⟩
  · obtain rfl : i = i' := by omega
    obtain rfl : n = n' := by omega
    rfl
  · exact absurd ⟨by omega, by omega, h2⟩ g1
  · exact absurd ⟨by omega, by omega, g2⟩ h1
  · rfl
theorem blksPre_in (N : Int → Int → Prop) (n : Nat) (f : Int) : ∀ (m j : Nat), j < (blksPre N n f m).length → ((blksPre N n f m).getD j default).length ≤ n
  | 0, j, h => by simp [blksPre] at h
  | m + 1, j, h => by
    have ih := blksPre_in N n f m j
    unfold blksPre at h ⊢
    split at h
    · rename_i hq
      rw [if_pos hq]
      rw [List.length_append, List.length_cons, List.length_nil] at h
      rcases Nat.lt_or_ge j (blksPre N n f m).length with q | q
      · rw [getD_snoc1 _ _ q]; exact ih q
      · rw [getD_snoc2 _ _ (by omega)]; exact blkPre_len f m n
    · rename_i hq
      rw [if_neg hq]; exact ih h
theorem BlkR.bound {l : List Tab} {t : Int} {ls : List (List Int)} (h : BlkR l t ls) : ls.length ≤ 24 ∧ ∀ j, j < ls.length → (ls.getD j default).length ≤ 24 := by
  rcases h with ⟨i, n, rfl, h1, h2, h3, rfl⟩ | ⟨h1, rfl⟩
  · have := tsize_le (tb l i)
    have b1 := blksPre_len (N := nearP (tb l i)) (n := n) (sumT l i) n
    exact ⟨by omega, fun j hj => by have := blksPre_in _ _ _ _ _ hj; omega⟩
  · exact ⟨by simp, fun j hj => by simp at hj⟩
theorem nearP_symm (t : Tab) (x y : Int) (h : nearP t x y) : nearP t y x := by
  rcases h with h | h
  · exact .inl ((besideP_symm t x y).1 h)
  · exact .inr ((acrossP_symm t x y).1 h)

theorem blocks_ok {h0 : AH} (w : WfH h0) (v : Value) (l : List Tab) (H : HallR h0 v l) (t : Int) : Fn Tryz.prog Xh 46 [v, .int .i64 t] h0 (fun r h' => ∃ ls, BlkR l t ls ∧ RLL h' r ls ∧ Hs h0 h' []) := by
  have S := Hs.start w
  have hl := H.len
  have hr := H.rd
  by_cases ht0 : t < 0
  · refine Fn_K rfl Tryz.func46 rfl rfl ?_
    all_goals (repeat' (first | refine K_seq ?_ | refine k_cond rfl ?_ | refine K_skip ?_ | refine K_exit ?_ | refine k_block ?_ | refine K_scope ?_ | (refine K_region (id := 0) ?_; refine mv ?_; refine KO_nil ?_) | (refine K_region (id := 1) ?_; refine mv ?_; (first | refine cT ?_ | refine cF ?_ | (refine cS ?_ ?_ <;> intro hc)) <;> (refine mv ?_; (first | refine off ?_ | refine mv ?_); (first | refine off ?_ | refine mv ?_); (first | refine off ?_ | (first | refine lnB S ?_ | refine lnS S rfl rfl ?_)); (first | refine off ?_ | (first | refine cT ?_ | refine cF ?_ | (refine cS ?_ ?_ <;> intro hc))) <;> (refine vl ?_; refine mv ?_; (first | refine off ?_ | refine mv ?_); (first | (refine off ?_; (first | refine off ?_ | refine vl ?_); refine vl ?_; refine KO_nil ?_) | skip)))) | (refine K_region (id := 2) ?_; refine mv ?_; refine KO_nil ?_) | (refine K_region (id := 3) ?_; refine mv ?_; refine mv ?_)))
    all_goals (try omega)
    refine K_ret ⟨_, rfl, ?_⟩
    exact ⟨[], .inr ⟨by omega, rfl⟩, .nil, S⟩
  obtain ⟨i, rfl⟩ := Int.eq_ofNat_of_zero_le (show 0 ≤ t by omega)
  refine Fn_K rfl Tryz.func46 rfl rfl ?_
  all_goals (repeat' (first | refine K_seq ?_ | refine k_cond rfl ?_ | refine K_skip ?_ | refine K_exit ?_ | refine k_block ?_ | refine K_scope ?_ | (refine K_region (id := 0) ?_; refine mv ?_; refine KO_nil ?_) | (refine K_region (id := 1) ?_; refine mv ?_; (first | refine cT ?_ | refine cF ?_ | (refine cS ?_ ?_ <;> intro hc)) <;> (refine mv ?_; (first | refine off ?_ | refine mv ?_); (first | refine off ?_ | refine mv ?_); (first | refine off ?_ | (first | refine lnB S ?_ | refine lnS S rfl rfl ?_)); (first | refine off ?_ | (first | refine cT ?_ | refine cF ?_ | (refine cS ?_ ?_ <;> intro hc))) <;> (refine vl ?_; refine mv ?_; (first | refine off ?_ | refine mv ?_); (first | (refine off ?_; (first | refine off ?_ | refine vl ?_); refine vl ?_; refine KO_nil ?_) | skip)))) | (refine K_region (id := 2) ?_; refine mv ?_; refine KO_nil ?_) | (refine K_region (id := 3) ?_; refine mv ?_; refine mv ?_)))
  all_goals (try omega)
  · refine K_ret ⟨_, rfl, ?_⟩
    exact ⟨[], .inr ⟨by omega, rfl⟩, .nil, S⟩
  · (refine KO_fn rfl rfl rfl rfl rfl ((valid_ok S.wf v l H).mono ?_); rintro _ h ⟨⟨rfl, hq⟩ | ⟨rfl, hq⟩, x⟩) <;> (replace S := S.join0 x; clear x; (first | refine off ?_ | refine vl ?_); refine vl ?_; refine KO_nil ?_)
    all_goals (repeat' (first | refine K_seq ?_ | refine k_cond rfl ?_ | refine K_skip ?_ | refine K_exit ?_ | refine k_block ?_ | refine K_scope ?_ | (refine K_region (id := 2) ?_; refine mv ?_; refine KO_nil ?_) | (refine K_region (id := 3) ?_; refine mv ?_; refine mv ?_)))
    · have hi : i < l.length := by omega
      have hts := hq.tabS hi
      have t1 := tsize_le (tb l i)
      have t2 := hts.pos
      have b1 := sumT_le l i
      obtain ⟨n, hn⟩ := Int.eq_ofNat_of_zero_le t1.1
      (try simp only [Int.toNat_natCast] at *)
      obtain ⟨f, hf⟩ : ∃ f, f = sumT l i := ⟨_, rfl⟩
      have ef : firstV l i = f := by unfold firstV; rw [if_pos ⟨by omega, by omega, hq⟩, Int.toNat_natCast, hf]
      rw [← hf] at b1
      (refine KO_fn rfl rfl rfl rfl rfl ((first_ok S.wf v l (H.ext w S.ext) i).mono ?_); rintro _ h ⟨rfl, x⟩) <;> (replace S := S.join0 x; clear x; rw [ef]; refine mv ?_; refine KO_nil ?_)
      all_goals (repeat' (first | refine K_seq ?_ | refine k_cond rfl ?_ | refine K_skip ?_ | refine K_exit ?_ | refine k_block ?_ | refine K_scope ?_ | (refine K_region (id := 4) ?_; refine mv ?_; refine mv ?_; (first | refine ixB S ?_ | refine ixS2 S rfl rfl ?_); (first | refine lB S rfl rfl ?_ | refine lES2 S rfl rfl ?_ | refine lEB S ?_ | refine lH S ?_))))
      (try simp only [Int.toNat_natCast] at *)
      (refine KO_fn rfl rfl rfl rfl rfl ((size_ok S.wf (tb l i)).mono ?_); rintro _ h ⟨rfl, x⟩) <;> (replace S := S.join0 x; clear x; rw [hn])
      refine m_make (z := 1) (by_ := 1) (enc := eB) (y0 := false) S rfl rfl rfl rfl rfl rfl rfl rfl rfl (by intro _; rfl) (by first | omega | grind) rfl rfl ?_; clear S; intro v h S; refine mv ?_; refine KO_nil ?_
      simp only [Int.toNat_natCast] at S
      obtain ⟨vd, hnm⟩ : ∃ x, x = v := ⟨_, rfl⟩; subst hnm
      obtain ⟨N, hN⟩ : ∃ N, N = nearP (tb l i) := ⟨_, rfl⟩
      have hsym : ∀ x y, N x y → N y x := by rw [hN]; exact nearP_symm _
      all_goals (repeat' (first | refine K_seq ?_ | refine k_cond rfl ?_ | refine K_skip ?_ | refine K_exit ?_ | refine k_block ?_ | refine K_scope ?_ | (refine K_region (id := 5) ?_; refine mv ?_; refine KO_nil ?_) | (refine K_region (id := 6) ?_; refine mv ?_; (first | refine lnB S ?_ | refine lnS S rfl rfl ?_); refine mv ?_; refine KO_nil ?_)))
      refine k_loop (σ := Nat × List Bool × List Value × Value) (fun (k, dn, vs, vo) h' => Hs h0 h' [.sl vd 4 1 eB dn, .sl vo 23 1 eV vs, .any (LLs vs (blksPre N n f k))] ∧ k ≤ n ∧ dn.length = n ∧ vs.length ≤ k ∧ ∀ m, m < n → (dn.getD m default = true ↔ ∃ k', k' < k ∧ Rch N n k' m)) (fun (k, dn, vs, vo) => n - k) (fun (k, dn, vs, vo) => [(0, v), (1, .int .i64 i), (5, .int .i64 f), (6, vd), (7, vo), (35, .int .i64 n), (36, .int .i64 k)]) (0, List.replicate n false, [], .slice none 0 0) (by repeat (first | exact Ks.le_nil _ | refine Ks.le_cons rfl ?_ | refine Ks.le_int ?_)) ?_ ?_
      · refine ⟨?_, Nat.zero_le _, by simp, by simp, fun m hm => ⟨fun q => ?_, fun ⟨k', q, _⟩ => by omega⟩⟩
        · have S2 := (S.anyS (p := LLs [] (blksPre N n f 0)) fun h' => LLs.nil h' _).nilS (α := Value) (e := 23) (z := 1) (enc := eV)
          exact S2.front (.there (.there .here))
        · exfalso
          simp [List.getD_eq_getElem?_getD, List.getElem?_replicate, hm] at q
      clear S
      rintro ⟨k, dn, vs, vo⟩ h ⟨S, h1, h2, h3, h4⟩
      all_goals (repeat' (first | refine K_seq ?_ | refine k_cond rfl ?_ | refine K_skip ?_ | refine K_exit ?_ | refine k_block ?_ | refine K_scope ?_ | (refine K_region (id := 7) ?_; (first | refine cT ?_ | refine cF ?_ | (refine cS ?_ ?_ <;> intro hc)) <;> (refine KO_nil ?_)) | (refine K_region (id := 8) ?_; refine mv ?_; refine mv ?_; refine KO_nil ?_)))
      · have hk : k < n := by omega
        have h4k := h4 k hk
        (repeat (refine K_seq ?_)); refine K_region (id := 9) ?_; refine mv ?_; refine mv ?_; (first | refine ixB S ?_ | refine ixS2 S rfl rfl ?_); (first | refine lB S rfl rfl ?_ | refine lES2 S rfl rfl ?_ | refine lEB S ?_ | refine lH S ?_); refine KO_nil ?_
        refine K_cond2 rfl ?_ ?_ <;> intro hb <;> simp only [Int.toNat_natCast] at hb
        rotate_left
        · rw [hb] at h4k
          have hleast : leastP N n k := fun m hm hr => Nat.le_of_not_lt fun q => by
            have := h4k.2 ⟨m, q, hr.symm hsym hk hm⟩
            cases this
          all_goals (repeat' (first | refine K_seq ?_ | refine k_cond rfl ?_ | refine K_skip ?_ | refine K_exit ?_ | refine k_block ?_ | refine K_scope ?_ | (refine K_region (id := 10) ?_; refine mv ?_; refine KO_nil ?_) | (refine K_region (id := 11) ?_; refine mv ?_; refine mv ?_; (first | refine ixB S ?_ | refine ixS2 S rfl rfl ?_); (first | refine lB S rfl rfl ?_ | refine lES2 S rfl rfl ?_ | refine lEB S ?_ | refine lH S ?_); refine mv ?_)))
          (refine KO_fn rfl rfl rfl rfl rfl ((steps_ok S.wf (tb l i) k n hts.b hn (by omega) hk).mono ?_); rintro vdi h ⟨dl, hdl, x⟩) <;> (replace S := S.join1 x; clear x; (first | refine lnB S ?_ | refine lnS S rfl rfl ?_); refine mv ?_; refine KO_nil ?_)
          rw [← hN] at hdl
          have hdlen := hdl.1
          all_goals (repeat' (first | refine K_seq ?_ | refine k_cond rfl ?_ | refine K_skip ?_ | refine K_exit ?_ | refine k_block ?_ | refine K_scope ?_ | (refine K_region (id := 7) ?_; (first | refine cT ?_ | refine cF ?_ | (refine cS ?_ ?_ <;> intro hc)) <;> (refine KO_nil ?_)) | (refine K_region (id := 8) ?_; refine mv ?_; refine mv ?_; refine KO_nil ?_) | (refine K_region (id := 9) ?_; refine mv ?_; refine mv ?_; (first | refine ixB S ?_ | refine ixS2 S rfl rfl ?_); (first | refine lB S rfl rfl ?_ | refine lES2 S rfl rfl ?_ | refine lEB S ?_ | refine lH S ?_); refine KO_nil ?_) | (refine K_region (id := 10) ?_; refine mv ?_; refine KO_nil ?_) | (refine K_region (id := 11) ?_; refine mv ?_; refine mv ?_; (first | refine ixB S ?_ | refine ixS2 S rfl rfl ?_); (first | refine lB S rfl rfl ?_ | refine lES2 S rfl rfl ?_ | refine lEB S ?_ | refine lH S ?_); refine mv ?_) | (refine K_region (id := 19) ?_; (first | refine ad ?_ | refine vl ?_); refine mv ?_; refine KO_nil ?_) | (refine K_region (id := 20) ?_; refine mv ?_; refine mv ?_; refine KO_nil ?_)))
          refine k_loop (σ := Nat × List Bool × Value) (fun (m, d2, vb) h' => Hs h0 h' [.sl vb 3 1 eI (blkPre N n f k m), .sl vdi 3 1 eI dl, .sl vd 4 1 eB d2, .sl vo 23 1 eV vs, .any (LLs vs (blksPre N n f k))] ∧ m ≤ n ∧ d2.length = n ∧ ∀ y, y < n → (d2.getD y default = true ↔ dn.getD y default = true ∨ (y < m ∧ Rch N n k y))) (fun (m, d2, vb) => n - m) (fun (m, d2, vb) => [(0, v), (1, .int .i64 i), (5, .int .i64 f), (6, vd), (7, vo), (8, .int .i64 k), (9, vb), (35, .int .i64 n), (36, .int .i64 k), (48, vdi), (49, .int .i64 n), (50, .int .i64 m)]) (0, dn, .slice none 0 0) (by repeat (first | exact Ks.le_nil _ | refine Ks.le_cons rfl ?_ | refine Ks.le_int ?_)) ?_ ?_
          · exact ⟨S.nilS, Nat.zero_le _, h2, fun y hy => ⟨.inl, fun q => q.elim id fun q => by omega⟩⟩
          clear S
          rintro ⟨m, d2, vb⟩ h ⟨S, g1, g2, g3⟩
          obtain ⟨sb, rfl⟩ := (Rd.of_sl S .here).isSl
          have hbl := blkPre_len (N := N) (n := n) f k m
          all_goals (repeat' (first | refine K_seq ?_ | refine k_cond rfl ?_ | refine K_skip ?_ | refine K_exit ?_ | refine k_block ?_ | refine K_scope ?_ | (refine K_region (id := 12) ?_; (first | refine cT ?_ | refine cF ?_ | (refine cS ?_ ?_ <;> intro hc)) <;> (refine KO_nil ?_)) | (refine K_region (id := 13) ?_; refine mv ?_; (first | refine ixB S ?_ | refine ixS2 S rfl rfl ?_); (first | refine lB S rfl rfl ?_ | refine lES2 S rfl rfl ?_ | refine lEB S ?_ | refine lH S ?_); refine mv ?_; refine mv ?_; refine KO_nil ?_) | (refine K_region (id := 14) ?_; refine mv ?_; (first | refine cT ?_ | refine cF ?_ | (refine cS ?_ ?_ <;> intro hc)) <;> (refine KO_nil ?_)) | (refine K_region (id := 15) ?_; refine mv ?_; refine mv ?_; (first | refine ixB S ?_ | refine ixS2 S rfl rfl ?_); (first | (refine sB S rfl rfl ?_; clear S; intro h S) | (refine sE2 S rfl rfl ?_; clear S; intro h S)); refine KO_nil ?_) | (refine K_region (id := 16) ?_; refine mv ?_; refine mv ?_; refine mv ?_; (first | refine ad ?_ | refine vl ?_); (refine one 1 S ?_; clear S; intro u h S)) | (refine K_region (id := 17) ?_; (first | refine ad ?_ | refine vl ?_); refine mv ?_; refine KO_nil ?_) | (refine K_region (id := 18) ?_; refine mv ?_; refine mv ?_; (refine one 1 S ?_; clear S; intro u h S))))
          · simp only [Int.toNat_natCast] at hc S
            have hm : m < n := by omega
            have hrc := (hdl.rch hm).1 (by assumption)
            refine app  S rfl rfl ?_; clear S; intro v h S; refine mv ?_; refine KO_nil ?_
            all_goals (repeat' (first | refine K_seq ?_ | refine k_cond rfl ?_ | refine K_skip ?_ | refine K_exit ?_ | refine k_block ?_ | refine K_scope ?_ | (refine K_region (id := 17) ?_; (first | refine ad ?_ | refine vl ?_); refine mv ?_; refine KO_nil ?_)))
            refine ⟨(m + 1, d2.set m true, v), ?_, ?_, (by repeat (first | exact Ks.le_nil _ | refine Ks.le_cons rfl ?_ | refine Ks.le_int ?_))⟩
            · show n - (m + 1) < n - m; omega
            · refine ⟨?_, by omega, by simpa using g2, fun y hy => ?_⟩
              · have e : blkPre N n f k (m + 1) = blkPre N n f k m ++ [f + (m : Int)] := by rw [blkPre, if_pos hrc]
                rw [e]; exact S
              · rw [getD_set _ _ (by omega)]
                split
                · rename_i e; subst e; exact ⟨fun _ => .inr ⟨by omega, hrc⟩, fun _ => rfl⟩
                · rw [g3 y hy]
                  exact ⟨fun q => q.imp id fun q => ⟨by omega, q.2⟩, fun q => q.imp id fun q => ⟨by omega, q.2⟩⟩
          · (try simp only [Int.toNat_natCast] at hc)
            have hm : m < n := by omega
            have hrc : ¬ Rch N n k m := fun q => hc ((hdl.rch hm).2 q)
            refine ⟨(m + 1, d2, sb.val), ?_, ?_, (by repeat (first | exact Ks.le_nil _ | refine Ks.le_cons rfl ?_ | refine Ks.le_int ?_))⟩
            · show n - (m + 1) < n - m; omega
            · refine ⟨?_, by omega, g2, fun y hy => ?_⟩
              · have e : blkPre N n f k (m + 1) = blkPre N n f k m := by rw [blkPre, if_neg hrc]
                rw [e]; exact S
              · rw [g3 y hy]
                refine ⟨fun q => q.imp id fun q => ⟨by omega, q.2⟩, fun q => q.imp id fun q => ⟨?_, q.2⟩⟩
                rcases Nat.lt_or_ge y m with a | a
                · exact a
                · obtain rfl : y = m := by omega
                  exact absurd q.2 hrc
          · obtain rfl : m = n := by omega
            refine app  S rfl rfl ?_; clear S; intro v h S; refine mv ?_; refine KO_nil ?_
            all_goals (repeat' (first | refine K_seq ?_ | refine k_cond rfl ?_ | refine K_skip ?_ | refine K_exit ?_ | refine k_block ?_ | refine K_scope ?_ | (refine K_region (id := 19) ?_; (first | refine ad ?_ | refine vl ?_); refine mv ?_; refine KO_nil ?_)))
            refine ⟨(k + 1, d2, vs ++ [sb.val], v), ?_, ?_, (by repeat (first | exact Ks.le_nil _ | refine Ks.le_cons rfl ?_ | refine Ks.le_int ?_))⟩
            · show m - (k + 1) < m - k; omega
            · refine ⟨?_, by omega, g2, by simp; omega, fun y hy => ?_⟩
              · have e : blksPre N m f (k + 1) = blksPre N m f k ++ [blkPre N m f k m] := by rw [blksPre, if_pos hleast]
                rw [e]
                have S := ((S.del (.there (.there .here))).front (.there (.there (.there .here)))).front (.there (.there .here))
                exact ((S.pushLL).front (.there .here)).front (.there (.there .here))
              · rw [g3 y hy, h4 y hy]
                constructor
                · rintro (⟨k', q1, q2⟩ | ⟨q1, q2⟩)
                  · exact ⟨k', by omega, q2⟩
                  · exact ⟨k, by omega, q2⟩
                · rintro ⟨k', q1, q2⟩
                  rcases Nat.lt_or_ge k' k with a | a
                  · exact .inl ⟨k', a, q2⟩
                  · obtain rfl : k' = k := by omega
                    exact .inr ⟨hy, q2⟩
        · rw [hb] at h4k
          obtain ⟨k0, q1, q2⟩ := h4k.1 rfl
          have hnl : ¬ leastP N n k := fun q => by have := q k0 (by omega) (q2.symm hsym (by omega) hk); omega
          all_goals (repeat' (first | refine K_seq ?_ | refine k_cond rfl ?_ | refine K_skip ?_ | refine K_exit ?_ | refine k_block ?_ | refine K_scope ?_ | (refine K_region (id := 19) ?_; (first | refine ad ?_ | refine vl ?_); refine mv ?_; refine KO_nil ?_)))
          refine ⟨(k + 1, dn, vs, vo), ?_, ?_, (by repeat (first | exact Ks.le_nil _ | refine Ks.le_cons rfl ?_ | refine Ks.le_int ?_))⟩
          · show n - (k + 1) < n - k; omega
          · refine ⟨?_, by omega, h2, by omega, fun y hy => ?_⟩
            · have e : blksPre N n f (k + 1) = blksPre N n f k := by rw [blksPre, if_neg hnl]
              rw [e]; exact S
            · rw [h4 y hy]
              constructor
              · rintro ⟨k', a, b⟩; exact ⟨k', by omega, b⟩
              · rintro ⟨k', a, b⟩
                rcases Nat.lt_or_ge k' k with a2 | a2
                · exact ⟨k', a2, b⟩
                · obtain rfl : k' = k := by omega
                  exact ⟨k0, q1, q2.trans b⟩
      · obtain rfl : k = n := by omega
        all_goals (repeat' (first | refine K_seq ?_ | refine k_cond rfl ?_ | refine K_skip ?_ | refine K_exit ?_ | refine k_block ?_ | refine K_scope ?_ | (refine K_region (id := 20) ?_; refine mv ?_; refine mv ?_; refine KO_nil ?_)))
        refine K_ret ⟨_, rfl, ?_⟩
        exact ⟨_, .inl ⟨i, k, rfl, hi, hq, hn, rfl⟩, by rw [← hf, ← hN]; exact RLL.of S (.there .here) (.there (.there .here)), S.drop⟩
    · refine K_ret ⟨_, rfl, ?_⟩
      exact ⟨[], .inr ⟨fun q => hq q.2.2, rfl⟩, .nil, S⟩

end Go.Proofs.Xx

/-
  HallRefuses: a hall with a mistake is refused, and nothing is told of it.
-/
namespace Go.Proofs.Xx
open Go Go.Proofs
set_option linter.unusedSimpArgs false
set_option linter.unusedVariables false
set_option maxRecDepth 100000

section
variable {P : Program} {X : Extern} {inR : Bool} {sz : Nat} {L : Ks} {h h0 : AH} {rs : List Rs} {ops : Array Oper} {os : List Oper} {o : Oper} {R : Ks → AH → Prop} {Q : KQ}
/-- An int as a word. -/
theorem cWa {x : Operand} {s dt : TypeId} {k k2 : IntKind} {a : Int} {d : Tmp} (w : ∀ r : Int, 0 ≤ r → r ≤ 18446744073709551615 → KO P X sz ops os (L.put d (.int .u64 r)) h R) (ho : o.op = .convert s dt x := by exact rfl) (hg : guardA ops L.tree o.guard = some true := by exact rfl) (hx : kA L x = some (.int k a) := by exact rfl) (hs : P.underlying s = some (.int k2) := by exact rfl) (hd : P.underlying dt = some (.int .u64) := by exact rfl)
    (hdst : o.dst = some d := by exact rfl) (hds : Nat.blt d sz = true := by exact rfl) : KO P X sz ops (o :: os) L h R :=
  KO_val (v := .int .u64 (IntKind.u64.wrap a)) hg (by rw [ho]; simp only [aOp, tree_le hx, aConvert, hs, hd]) (by simp only [putK, hdst, hds]) (w _ (wrap_u64_in a).1 (wrap_u64_in a).2)
theorem rmW {L' : Ks} {x y : Operand} {ty ty2 : TypeId} {a b : Int} (w : KO P X sz ops os L' h R) (ho : o.op = .binOp .rem ty x y ty2 := by exact rfl) (hg : guardA ops L.tree o.guard = some true := by exact rfl) (hx : kA L x = some (.int .u64 a) := by exact rfl) (hy : kA L y = some (.int .u64 b) := by exact rfl)
    (hb : 0 ≤ a ∧ 0 < b := by omega) (hp : putK sz L o.dst (.int .u64 (a % b)) = some L' := by exact rfl) : KO P X sz ops (o :: os) L h R :=
  KO_bin ho hg hx hy (by
    have h1 : ¬ b = 0 := by omega
    have h2 : a.tmod b = a % b := Int.tmod_eq_emod_of_nonneg hb.1
    simp only [aBin, decide_true, decide_eq_false h1, h2]) hp w
theorem bsn' {ty : TypeId} {n : Nat} {ps : Array (Nat × Operand)} {vs : List (Nat × Value)} {c : List Value} {e : TypeId} {α : Type} {z : Nat} {d : Tmp} (enc : α → List Value) (l : List α) (S : Hs h0 h rs) (w : ∀ u h', Hs h0 h' (.sl u e z enc l :: rs) → KO P X sz ops os (L.put d u) h' R) (ho : o.op = .buildSlice ty n ps := by exact rfl) (hg : guardA ops L.tree o.guard = some true := by exact rfl)
    (hx : kParts L ps.toList = some vs := by exact rfl) (hv : aBuildSlice P ty n vs h = some (.slice (some ⟨h.next, 0, none⟩) n n, h.add (.cells c e none false)) := by exact rfl) (hl : l.length = n := by exact rfl) (hc : c = l.flatMap enc := by exact rfl) (hz : c.length = l.length * z := by exact rfl) (hdst : o.dst = some d := by exact rfl) (hds : Nat.blt d sz = true := by exact rfl) : KO P X sz ops (o :: os) L h R := by
  subst hl
  exact KO_bslice ho hg hx hv (by simp only [putK, hdst, hds]) (w _ _ ((S.add c e).asSl (z := z) enc l hc hz))
end

theorem chk_zero {t : Tab} (h : chk t = 0) : nameP t.name ∧ tsize t ≠ 0 ∧ OpnOk (tsize t) t.opn ∧ XYok t := by
  unfold chk at h
  split at h
  · omega
  · rename_i h1
    split at h
    · omega
    · rename_i h2
      split at h
      · omega
      · rename_i h3
        split at h
        · omega
        · rename_i h4
          exact ⟨Classical.not_not.1 h1, h2, Classical.not_not.1 h3, Classical.not_not.1 h4⟩
theorem chk_name {t : Tab} (h : ¬ nameP t.name) : chk t = 4 := by unfold chk; rw [if_pos h]
theorem chk_shape {t : Tab} (h1 : nameP t.name) (h2 : tsize t = 0) : chk t = 10 := by unfold chk; rw [if_neg (by simpa using h1), if_pos h2]
theorem chk_open {t : Tab} (h1 : nameP t.name) (h2 : tsize t ≠ 0) (h3 : ¬ OpnOk (tsize t) t.opn) : chk t = 11 := by unfold chk; rw [if_neg (by simpa using h1), if_neg h2, if_pos h3]
theorem chk_arg {t : Tab} (h1 : nameP t.name) (h2 : tsize t ≠ 0) (h3 : OpnOk (tsize t) t.opn) (h4 : ¬ XYok t) : chk t = 2 := by unfold chk; rw [if_neg (by simpa using h1), if_neg h2, if_neg (by simpa using h3), if_pos h4]
theorem chk_ok {t : Tab} (h1 : nameP t.name) (h2 : tsize t ≠ 0) (h3 : OpnOk (tsize t) t.opn) (h4 : XYok t) : chk t = 0 := by unfold chk; rw [if_neg (by simpa using h1), if_neg h2, if_neg (by simpa using h3), if_neg (by simpa using h4)]
def badNames : List (List UInt8) := [[], [65], [97, 32, 98], [97, 98, 99, 100, 101, 102, 103, 104, 105, 106, 107, 108, 109], [97, 10]]
theorem badNames_ok (k : Nat) (hk : k < 5) : ¬ nameP (badNames.getD k default) ∧ (badNames.getD k default).length ≤ 13 := by
  have low : ∀ (s : List UInt8) (i : Nat), i < s.length → ¬ lowB (s.getD i default) → ¬ nameP s := fun s i hi hn q => hn (q.2.2 i hi)
  match k, hk with
  | 0, _ => exact ⟨fun q => by have := q.1; simp [badNames] at this, by decide⟩
  | 1, _ => exact ⟨low _ 0 (by decide) (by unfold lowB; decide), by decide⟩
  | 2, _ => exact ⟨low _ 1 (by decide) (by unfold lowB; decide), by decide⟩
  | 3, _ => exact ⟨fun q => by have := q.2.1; simp [badNames] at this, by decide⟩
  | 4, _ => exact ⟨low _ 1 (by decide) (by unfold lowB; decide), by decide⟩

theorem bstr0_ok {h0 h : AH} {rs : List Rs} {bb : Nat} (S : Hs h0 h (.blk bb [.pointer none, .slice none 0 0] 122 :: rs)) : Fn Tryz.prog Xh 112 [.pointer (some ⟨bb, 0, none⟩)] h (fun r h' => r = str [] ∧ Hs h0 h' (.blk bb [.pointer none, .slice none 0 0] 122 :: rs)) := by
  refine Fn_K rfl Tryz.func112 rfl rfl ?_
  all_goals (repeat' (first | refine K_seq ?_ | refine k_cond rfl ?_ | refine K_skip ?_ | refine K_exit ?_ | refine k_block ?_ | refine K_scope ?_ | (refine K_region (id := 0) ?_; refine mv ?_; refine KO_nil ?_)))
  refine K_draw (id := 1) ?_
  refine mv ?_; refine vl ?_; refine vl ?_; refine lB S rfl rfl ?_; refine vl ?_; refine mv ?_; refine vl ?_; refine vl ?_; refine lB S rfl rfl ?_; refine vl ?_; refine vl ?_; refine mv ?_; refine KO_nil ?_
  all_goals (repeat' (first | refine K_seq ?_ | refine k_cond rfl ?_ | refine K_skip ?_ | refine K_exit ?_ | refine k_block ?_ | refine K_scope ?_ | (refine K_region (id := 0) ?_; refine mv ?_; refine KO_nil ?_) | (refine K_draw (id := 1) ?_; refine mv ?_; refine vl ?_; (first | refine vl ?_ | refine fB S ?_ | refine fS S rfl rfl ?_ | refine fA ?_); (first | refine lB S rfl rfl ?_ | refine lES2 S rfl rfl ?_ | refine lEB S ?_ | refine lH S ?_))))
  refine K_ret ⟨_, rfl, ?_⟩
  exact ⟨rfl, S⟩
/-- The format of a hall that is not valid, and of no tables. -/
theorem format0_ok {h0 : AH} (w : WfH h0) (v : Value) (l : List Tab) (H : HallR h0 v l) (hl : ¬ ValidL l ∨ l.length = 0) : Fn Tryz.prog Xh 54 [v] h0 (fun r h' => r = str [] ∧ Hs h0 h' []) := by
  have S := Hs.start w
  have hr := H.rd
  have hn := H.len
  refine Fn_K rfl Tryz.func54 rfl rfl ?_
  all_goals (repeat' (first | refine K_seq ?_ | refine k_cond rfl ?_ | refine K_skip ?_ | refine K_exit ?_ | refine k_block ?_ | refine K_scope ?_ | (refine K_region (id := 0) ?_; refine mv ?_; refine KO_nil ?_) | (refine K_region (id := 1) ?_; refine mv ?_)))
  (refine KO_fn rfl rfl rfl rfl rfl ((valid_ok S.wf v l (H.ext w S.ext)).mono ?_); rintro _ h ⟨⟨rfl, hq⟩ | ⟨rfl, hq⟩, x⟩) <;> (replace S := S.join0 x; clear x; refine vl ?_; refine KO_nil ?_)
  rotate_left
  · all_goals (repeat' (first | refine K_seq ?_ | refine k_cond rfl ?_ | refine K_skip ?_ | refine K_exit ?_ | refine k_block ?_ | refine K_scope ?_ | (refine K_region (id := 2) ?_; refine mv ?_; refine KO_nil ?_) | (refine K_region (id := 3) ?_; (refine al S ?_; clear S; intro b h S); refine KO_nil ?_) | (refine K_region (id := 4) ?_; refine mv ?_; (first | refine lnB S ?_ | refine lnS S rfl rfl ?_); refine mv ?_; refine KO_nil ?_)))
    refine K_ret ⟨_, rfl, ?_⟩
    exact ⟨rfl, S⟩
  have hz : l.length = 0 := hl.resolve_left fun q => q hq
  all_goals (repeat' (first | refine K_seq ?_ | refine k_cond rfl ?_ | refine K_skip ?_ | refine K_exit ?_ | refine k_block ?_ | refine K_scope ?_ | (refine K_region (id := 2) ?_; refine mv ?_; refine KO_nil ?_) | (refine K_region (id := 3) ?_; (refine al S ?_; clear S; intro b h S); refine KO_nil ?_) | (refine K_region (id := 4) ?_; refine mv ?_; (first | refine lnB S ?_ | refine lnS S rfl rfl ?_); refine mv ?_; refine KO_nil ?_)))
  obtain ⟨bb, hnm⟩ : ∃ x, x = b := ⟨_, rfl⟩; subst hnm
  refine k_loop (σ := Unit) (fun _ h' => Hs h0 h' [.blk bb [.pointer none, .slice none 0 0] 122]) (fun _ => 0) (fun _ => [(3, .pointer (some ⟨bb, 0, none⟩)), (14, .int .i64 0), (15, .int .i64 0)]) () (by repeat (first | exact Ks.le_nil _ | refine Ks.le_cons rfl ?_ | refine Ks.le_int ?_)) ?_ ?_
  · exact S
  clear S
  rintro - h S
  all_goals (repeat' (first | refine K_seq ?_ | refine k_cond rfl ?_ | refine K_skip ?_ | refine K_exit ?_ | refine k_block ?_ | refine K_scope ?_ | (refine K_region (id := 5) ?_; (first | refine cT ?_ | refine cF ?_ | (refine cS ?_ ?_ <;> intro hc)) <;> (refine KO_nil ?_))))
  all_goals (repeat' (first | refine K_seq ?_ | refine k_cond rfl ?_ | refine K_skip ?_ | refine K_exit ?_ | refine k_block ?_ | refine K_scope ?_ | (refine K_region (id := 16) ?_; skip)))
  (refine KO_fn rfl rfl rfl rfl rfl ((bstr0_ok S).mono ?_); rintro _ h ⟨rfl, S2⟩) <;> (replace S := S2; clear S2; refine mv ?_; refine KO_nil ?_)
  all_goals (repeat' (first | refine K_seq ?_ | refine k_cond rfl ?_ | refine K_skip ?_ | refine K_exit ?_ | refine k_block ?_ | refine K_scope ?_ | (refine K_region (id := 5) ?_; (first | refine cT ?_ | refine cF ?_ | (refine cS ?_ ?_ <;> intro hc)) <;> (refine KO_nil ?_)) | (refine K_region (id := 6) ?_; (first | refine ixB S ?_ | refine ixS2 S rfl rfl ?_); (first | refine lB S rfl rfl ?_ | refine lES2 S rfl rfl ?_ | refine lEB S ?_ | refine lH S ?_); (refine al S ?_; clear S; intro b h S); (first | (refine sB S rfl rfl ?_; clear S; intro h S) | (refine sE2 S rfl rfl ?_; clear S; intro h S)); refine KO_nil ?_) | (refine K_region (id := 7) ?_; (first | refine vl ?_ | refine fB S ?_ | refine fS S rfl rfl ?_ | refine fA ?_); (first | refine lB S rfl rfl ?_ | refine lES2 S rfl rfl ?_ | refine lEB S ?_ | refine lH S ?_)) | (refine K_region (id := 16) ?_; skip)))
  refine K_ret ⟨_, rfl, ?_⟩
  exact ⟨rfl, S.drop⟩

theorem stayBad_ok {h0 : AH} (w : WfH h0) (t : Tab) (r : TabR h0 t) (hc : chk t ≠ 0) (v : Value) : Fn Tryz.prog Xh 40 [tabV t, v] h0 (fun r h' => r = .slice none 0 0 ∧ Hs h0 h' []) := by
  have S := Hs.start w
  refine Fn_K rfl Tryz.func40 rfl rfl ?_
  all_goals (repeat' (first | refine K_seq ?_ | refine k_cond rfl ?_ | refine K_skip ?_ | refine K_exit ?_ | refine k_block ?_ | refine K_scope ?_ | (refine K_region (id := 0) ?_; (refine bx S ?_; clear S; intro b h S); (refine bx S ?_; clear S; intro b h S); refine mv ?_; refine KO_nil ?_) | (refine K_region (id := 1) ?_; (first | refine lB S rfl rfl ?_ | refine lES2 S rfl rfl ?_ | refine lEB S ?_ | refine lH S ?_))))
  (refine KO_fn rfl rfl rfl rfl rfl ((check_ok S.wf t (r.ext w S.ext)).mono ?_); rintro _ h ⟨rfl, x⟩) <;> (replace S := S.join0 x; clear x; (first | refine cT ?_ | refine cF ?_ | (refine cS ?_ ?_ <;> intro hc)) <;> (refine mv ?_; (first | refine off ?_ | (first | refine lB S rfl rfl ?_ | refine lES2 S rfl rfl ?_ | refine lEB S ?_ | refine lH S ?_)); (first | refine off ?_ | refine vl ?_); (first | (refine off ?_; refine vl ?_; refine KO_nil ?_) | skip)))
  all_goals (repeat' (first | refine K_seq ?_ | refine k_cond rfl ?_ | refine K_skip ?_ | refine K_exit ?_ | refine k_block ?_ | refine K_scope ?_ | (refine K_region (id := 2) ?_; refine mv ?_; refine KO_nil ?_) | (refine K_region (id := 3) ?_; (refine al S ?_; clear S; intro b h S); refine KO_nil ?_) | (refine K_region (id := 4) ?_; (first | refine lB S rfl rfl ?_ | refine lES2 S rfl rfl ?_ | refine lEB S ?_ | refine lH S ?_))))
  refine K_ret ⟨_, rfl, ?_⟩
  exact ⟨rfl, S.drop⟩
theorem turnsBad_ok {h0 : AH} (w : WfH h0) (t : Tab) (r : TabR h0 t) (hc : chk t ≠ 0) : Fn Tryz.prog Xh 39 [tabV t] h0 (fun r h' => ∃ lv : List Value, lv.length = 0 ∧ Hs h0 h' [.sl r 23 1 eV lv]) := by
  have S := Hs.start w
  refine Fn_K rfl Tryz.func39 rfl rfl ?_
  all_goals (repeat' (first | refine K_seq ?_ | refine k_cond rfl ?_ | refine K_skip ?_ | refine K_exit ?_ | refine k_block ?_ | refine K_scope ?_ | (refine K_region (id := 0) ?_; (refine bx S ?_; clear S; intro b h S); refine mv ?_; refine KO_nil ?_) | (refine K_region (id := 1) ?_; (first | refine lB S rfl rfl ?_ | refine lES2 S rfl rfl ?_ | refine lEB S ?_ | refine lH S ?_))))
  (refine KO_fn rfl rfl rfl rfl rfl ((stayBad_ok S.wf t (r.ext w S.ext) hc (.slice none 0 0)).mono ?_); rintro _ h ⟨rfl, x⟩) <;> (replace S := S.join0 x; clear x; refine mv ?_; refine KO_nil ?_)
  all_goals (repeat' (first | refine K_seq ?_ | refine k_cond rfl ?_ | refine K_skip ?_ | refine K_exit ?_ | refine k_block ?_ | refine K_scope ?_))
  refine K_ret ⟨_, rfl, ?_⟩
  exact ⟨[], rfl, S.drop.nilS⟩
end Go.Proofs.Xx
