/-
  Quicksort.
-/
import Derived.Test.YtidmdnenlgjpeaaGreatDoorM12
import Derived.Test.YtidmdnenlgjpeaaGreatDoorM10

namespace Go.Proofs.Xx
open Go Go.Proofs
set_option linter.unusedSimpArgs false
set_option linter.unusedVariables false
set_option linter.unusedSectionVars false
set_option maxRecDepth 100000

variable [Flag]
theorem pdq_o {h0 : AH} {v : Value} : ∀ (n : Nat) {h : AH} {rs : List Rs} {l : List (List UInt8)} (a b lim : Nat) (S : Hs h0 h (.sl v 9 1 eS l :: rs)) (hn : b - a = n) (hab : a ≤ b) (hb : b ≤ l.length) (hl : l.length ≤ 1000000) (hbig : b - a < 250) (hlim : lim ≤ 1000) (hlow : 0 < a → ∀ k, a ≤ k → k < b → ¬ sLt (l.getD k default) (l.getD (a - 1) default)),
    Fn Tryz.prog Xh 125 [v, .int .i64 a, .int .i64 b, .int .i64 lim] h (fun _ h' => ∃ l', Sw a b l l' ∧ Srt sLt a b l' ∧ Hs h0 h' (.sl v 9 1 eS l' :: rs)) := by
  intro n
  induction n using Nat.strongRecOn with
  | _ n ih =>
  intro h rs l a b lim S hn hab hb hl hbig hlim hlow
  have W : WOrd sLt := sLt_ord
  refine Fn_K rfl Tryz.func125 rfl rfl ?_
  all_goals (repeat' (first | refine K_seq ?_ | refine k_cond rfl ?_ | refine K_skip ?_ | refine K_exit ?_ | refine k_block ?_ | refine K_scope ?_ | refine K_label ?_ | (refine K_region (id := 0) ?_; refine mv ?_; refine KO_nil ?_) | (refine K_region (id := 1) ?_; refine mv ?_; refine KO_nil ?_)))
  refine k_loop (σ := Nat × Nat × Nat × Bool × Bool × List (List UInt8)) (fun (a1, b1, lim, wb, wp, m) h' => Hs h0 h' (.sl v 9 1 eS m :: rs) ∧ (a ≤ a1 ∧ a1 ≤ b1 ∧ b1 ≤ b) ∧ lim ≤ 1000 ∧ Sw a b l m ∧ DoneI sLt a b a1 b1 m) (fun (a1, b1, lim, wb, wp, m) => b1 - a1) (fun (a1, b1, lim, wb, wp, m) => [(0, v), (1, .int .i64 a1), (2, .int .i64 b1), (3, .int .i64 lim), (8, .bool wb), (9, .bool wp)]) (a, b, lim, true, true, l) (by repeat (first | exact Ks.le_nil _ | refine Ks.le_cons rfl ?_ | refine Ks.le_int ?_)) ?_ ?_
  · exact ⟨S, by omega, hlim, .refl _, .start⟩
  clear S hlim
  rintro ⟨a1, b1, lim, wb, wp, m⟩ h ⟨S, h1, hlim, h2, D⟩
  have hml := h2.len
  skip
  have low : ∀ m', Sw a1 b1 m m' → 0 < a1 → ∀ k, a1 ≤ k → k < b1 → ¬ sLt (m'.getD k default) (m'.getD (a1 - 1) default) := fun m' s q1 k q2 q3 => by
    rcases Nat.lt_or_ge a a1 with q | q
    · exact (D.sw s h1.1 h1.2.2).low q h1.2.2 k q2 q3
    · obtain rfl : a = a1 := by omega
      have s2 := h2.trans (s.mono (Nat.le_refl _) h1.2.2 (by omega))
      rw [s2.out (k := a - 1) (.inl (by omega))]
      exact s2.all (p := fun y => ¬ sLt y (l.getD (a - 1) default)) (hlow q1) k q2 (by omega)
  have e0 : (b1 : Int) - (a1 : Int) = ((b1 - a1 : Nat) : Int) := by omega
  refine k_block ?_
  (repeat (refine K_seq ?_)); refine K_region (id := 2) ?_; refine mv ?_; refine mv ?_; (first | refine sb ?_ | refine vl ?_); refine mv ?_; refine KO_nil ?_
  simp only [e0]
  (repeat (refine K_seq ?_)); refine K_region (id := 3) ?_; refine mv ?_; (first | refine cT ?_ | refine cF ?_ | (refine cS ?_ ?_ <;> intro hc)) <;> (refine KO_nil ?_)
  · refine k_cond rfl ?_
    all_goals (repeat' (first | refine K_seq ?_ | refine k_cond rfl ?_ | refine K_skip ?_ | refine K_exit ?_ | refine k_block ?_ | refine K_scope ?_ | refine K_label ?_ | (refine K_region (id := 4) ?_; refine mv ?_; refine mv ?_; refine mv ?_; skip)))
    (refine KO_fn rfl rfl rfl rfl rfl ((ins_o a1 b1 S h1.2.1 (by omega) (by omega)).mono ?_); rintro _ h ⟨l2, g1, g2, S2⟩) <;> (replace S := S2; clear S2; refine KO_nil ?_)
    all_goals (repeat' (first | refine K_seq ?_ | refine k_cond rfl ?_ | refine K_skip ?_ | refine K_exit ?_ | refine k_block ?_ | refine K_scope ?_ | refine K_label ?_ | (refine K_region (id := 2) ?_; refine mv ?_; refine mv ?_; (first | refine sb ?_ | refine vl ?_); refine mv ?_; refine KO_nil ?_) | (refine K_region (id := 3) ?_; refine mv ?_; (first | refine cT ?_ | refine cF ?_ | (refine cS ?_ ?_ <;> intro hc)) <;> (refine KO_nil ?_)) | (refine K_region (id := 4) ?_; refine mv ?_; refine mv ?_; refine mv ?_; skip) | (refine K_region (id := 5) ?_; refine mv ?_; (first | refine cT ?_ | refine cF ?_ | (refine cS ?_ ?_ <;> intro hc)) <;> (refine KO_nil ?_)) | (refine K_region (id := 6) ?_; refine mv ?_; refine mv ?_; refine mv ?_; skip) | (refine K_region (id := 7) ?_; refine mv ?_; refine vl ?_; refine KO_nil ?_) | (refine K_region (id := 8) ?_; refine mv ?_; refine mv ?_; refine mv ?_; skip) | (refine K_region (id := 10) ?_; refine mv ?_; refine mv ?_; refine mv ?_; skip)))
    refine K_ret ⟨_, rfl, ?_⟩
    exact ⟨l2, h2.trans (g1.mono h1.1 h1.2.2 (by omega)), (D.sw g1 h1.1 h1.2.2).finish g2, S⟩
  have hbig2 : 12 < b1 - a1 ∧ b1 - a1 < 250 := by omega
  refine k_cond rfl ?_; refine K_skip ?_
  (repeat (refine K_seq ?_)); refine K_region (id := 5) ?_; refine mv ?_; (first | refine cT ?_ | refine cF ?_ | (refine cS ?_ ?_ <;> intro hc)) <;> (refine KO_nil ?_)
  · refine k_cond rfl ?_
    all_goals (repeat' (first | refine K_seq ?_ | refine k_cond rfl ?_ | refine K_skip ?_ | refine K_exit ?_ | refine k_block ?_ | refine K_scope ?_ | refine K_label ?_ | (refine K_region (id := 6) ?_; refine mv ?_; refine mv ?_; refine mv ?_; skip)))
    (refine KO_fn rfl rfl rfl rfl rfl ((heap_o a1 b1 S (by omega) (by omega) (by omega)).mono ?_); rintro _ h ⟨l2, g1, g2, S2⟩) <;> (replace S := S2; clear S2; refine KO_nil ?_)
    all_goals (repeat' (first | refine K_seq ?_ | refine k_cond rfl ?_ | refine K_skip ?_ | refine K_exit ?_ | refine k_block ?_ | refine K_scope ?_ | refine K_label ?_ | (refine K_region (id := 6) ?_; refine mv ?_; refine mv ?_; refine mv ?_; skip) | (refine K_region (id := 7) ?_; refine mv ?_; refine vl ?_; refine KO_nil ?_) | (refine K_region (id := 8) ?_; refine mv ?_; refine mv ?_; refine mv ?_; skip) | (refine K_region (id := 10) ?_; refine mv ?_; refine mv ?_; refine mv ?_; skip)))
    refine K_ret ⟨_, rfl, ?_⟩
    exact ⟨l2, h2.trans (g1.mono h1.1 h1.2.2 (by omega)), (D.sw g1 h1.1 h1.2.2).finish g2, S⟩
  refine k_cond rfl ?_; refine K_skip ?_
  refine K_cut (σ := Nat × List (List UInt8)) (fun (lim, m2) h' => Hs h0 h' (.sl v 9 1 eS m2 :: rs) ∧ lim ≤ 1000 ∧ Sw a1 b1 m m2) (fun (lim, m2) => [(0, v), (1, .int .i64 a1), (2, .int .i64 b1), (3, .int .i64 lim), (8, .bool wb), (9, .bool wp), (10, .int .i64 (b1 - a1 : Nat))]) ?_ ?_
  · cases wb
    · all_goals (repeat' (first | refine K_seq ?_ | refine k_cond rfl ?_ | refine K_skip ?_ | refine K_exit ?_ | refine k_block ?_ | refine K_scope ?_ | refine K_label ?_ | (refine K_region (id := 7) ?_; refine mv ?_; refine vl ?_; refine KO_nil ?_) | (refine K_region (id := 8) ?_; refine mv ?_; refine mv ?_; refine mv ?_; skip)))
      (refine KO_fn rfl rfl rfl rfl rfl ((brk_o a1 b1 S hbig2 (by omega) (by omega)).mono ?_); rintro _ h ⟨l2, g1, S2⟩) <;> (replace S := S2; clear S2; refine KO_nil ?_)
      all_goals (repeat' (first | refine K_seq ?_ | refine k_cond rfl ?_ | refine K_skip ?_ | refine K_exit ?_ | refine k_block ?_ | refine K_scope ?_ | refine K_label ?_ | (refine K_region (id := 9) ?_; refine mv ?_; (first | refine sb ?_ | refine vl ?_); refine mv ?_; refine KO_nil ?_)))
      exact ⟨(lim - 1, l2), ⟨S, by show lim - 1 ≤ 1000; omega, g1⟩, ((by repeat (first | exact Ks.le_nil _ | refine Ks.le_cons rfl ?_ | refine Ks.le_int ?_)))⟩
    · all_goals (repeat' (first | refine K_seq ?_ | refine k_cond rfl ?_ | refine K_skip ?_ | refine K_exit ?_ | refine k_block ?_ | refine K_scope ?_ | refine K_label ?_ | (refine K_region (id := 7) ?_; refine mv ?_; refine vl ?_; refine KO_nil ?_)))
      exact ⟨(lim, m), ⟨S, hlim, .refl _⟩, ((by repeat (first | exact Ks.le_nil _ | refine Ks.le_cons rfl ?_ | refine Ks.le_int ?_)))⟩
  clear S hlim
  rintro ⟨lim, m2⟩ h ⟨S, hlim, g1⟩
  have hm2 := g1.len
  skip
  (repeat (refine K_seq ?_)); refine K_region (id := 10) ?_
  refine mv ?_; refine mv ?_; refine mv ?_; skip
  (refine KO_fn rfl rfl rfl rfl rfl ((piv_o a1 b1 S hbig2 (by omega) (by omega)).mono ?_); rintro _ h ⟨q, t, rfl, hq0, S2⟩) <;> (replace S := S2; clear S2; refine mv ?_; refine vl ?_; refine vl ?_; refine mv ?_; refine mv ?_; refine KO_nil ?_)
  refine K_cut (σ := Nat × Int × List (List UInt8)) (fun (q, t, m3) h' => Hs h0 h' (.sl v 9 1 eS m3 :: rs) ∧ (a1 ≤ q ∧ q < b1) ∧ Sw a1 b1 m2 m3) (fun (q, t, m3) => [(0, v), (1, .int .i64 a1), (2, .int .i64 b1), (3, .int .i64 lim), (8, .bool wb), (9, .bool wp), (10, .int .i64 (b1 - a1 : Nat)), (11, .int .i64 q), (12, .int .i64 t)]) ?_ ?_
  · all_goals (repeat' (first | refine K_seq ?_ | refine k_cond rfl ?_ | refine K_skip ?_ | refine K_exit ?_ | refine k_block ?_ | refine K_scope ?_ | refine K_label ?_ | (refine K_region (id := 11) ?_; refine mv ?_; (first | refine cT ?_ | refine cF ?_ | (refine cS ?_ ?_ <;> intro hc)) <;> (refine KO_nil ?_)) | (refine K_region (id := 12) ?_; refine mv ?_; refine mv ?_; refine mv ?_; skip)))
    · (refine KO_fn rfl rfl rfl rfl rfl ((rev_o a1 b1 S (by omega) (by omega) (by omega)).mono ?_); rintro _ h ⟨l2, k1, S2⟩) <;> (replace S := S2; clear S2; refine KO_nil ?_)
      all_goals (repeat' (first | refine K_seq ?_ | refine k_cond rfl ?_ | refine K_skip ?_ | refine K_exit ?_ | refine k_block ?_ | refine K_scope ?_ | refine K_label ?_ | (refine K_region (id := 13) ?_; refine mv ?_; (first | refine sb ?_ | refine vl ?_); refine mv ?_; refine mv ?_; (first | refine sb ?_ | refine vl ?_); (first | refine sb ?_ | refine vl ?_); refine mv ?_; refine KO_nil ?_) | (refine K_region (id := 14) ?_; refine mv ?_; refine KO_nil ?_)))
      exact ⟨(b1 - 1 - (q - a1), 1, l2), ⟨S, by show a1 ≤ b1 - 1 - (q - a1) ∧ b1 - 1 - (q - a1) < b1; omega, k1⟩, ((by repeat (first | exact Ks.le_nil _ | refine Ks.le_cons rfl ?_ | refine Ks.le_int ?_)))⟩
    · exact ⟨(q, t, m2), ⟨S, hq0, .refl _⟩, ((by repeat (first | exact Ks.le_nil _ | refine Ks.le_cons rfl ?_ | refine Ks.le_int ?_)))⟩
  clear S hq0
  rintro ⟨q, t, m3⟩ h ⟨S, hq0, g2⟩
  have g13 := g1.trans g2
  have D3 := D.sw g13 h1.1 h1.2.2
  have low3 := low m3 g13
  have s3 := h2.trans (g13.mono h1.1 h1.2.2 (by omega))
  have hm3 := g13.len
  skip
  refine K_cut (σ := List (List UInt8)) (fun m3 h' => Hs h0 h' (.sl v 9 1 eS m3 :: rs) ∧ Sw a1 b1 m m3) (fun _ => [(0, v), (1, .int .i64 a1), (2, .int .i64 b1), (3, .int .i64 lim), (8, .bool wb), (9, .bool wp), (10, .int .i64 (b1 - a1 : Nat)), (11, .int .i64 q)]) ?_ ?_
  · cases wb
    · all_goals (repeat' (first | refine K_seq ?_ | refine k_cond rfl ?_ | refine K_skip ?_ | refine K_exit ?_ | refine k_block ?_ | refine K_scope ?_ | refine K_label ?_ | (refine K_region (id := 15) ?_; refine mv ?_; refine mv ?_; (first | refine off ?_ | refine mv ?_); refine vl ?_; refine mv ?_; (first | refine off ?_ | refine mv ?_); (first | refine off ?_ | (first | refine cT ?_ | refine cF ?_ | (refine cS ?_ ?_ <;> intro hc))) <;> (refine vl ?_; refine KO_nil ?_))))
      exact ⟨m3, ⟨S, g13⟩, ((by repeat (first | exact Ks.le_nil _ | refine Ks.le_cons rfl ?_ | refine Ks.le_int ?_)))⟩
    cases wp
    · all_goals (repeat' (first | refine K_seq ?_ | refine k_cond rfl ?_ | refine K_skip ?_ | refine K_exit ?_ | refine k_block ?_ | refine K_scope ?_ | refine K_label ?_ | (refine K_region (id := 15) ?_; refine mv ?_; refine mv ?_; (first | refine off ?_ | refine mv ?_); refine vl ?_; refine mv ?_; (first | refine off ?_ | refine mv ?_); (first | refine off ?_ | (first | refine cT ?_ | refine cF ?_ | (refine cS ?_ ?_ <;> intro hc))) <;> (refine vl ?_; refine KO_nil ?_))))
      exact ⟨m3, ⟨S, g13⟩, ((by repeat (first | exact Ks.le_nil _ | refine Ks.le_cons rfl ?_ | refine Ks.le_int ?_)))⟩
    all_goals (repeat' (first | refine K_seq ?_ | refine k_cond rfl ?_ | refine K_skip ?_ | refine K_exit ?_ | refine k_block ?_ | refine K_scope ?_ | refine K_label ?_ | (refine K_region (id := 15) ?_; refine mv ?_; refine mv ?_; (first | refine off ?_ | refine mv ?_); refine vl ?_; refine mv ?_; (first | refine off ?_ | refine mv ?_); (first | refine off ?_ | (first | refine cT ?_ | refine cF ?_ | (refine cS ?_ ?_ <;> intro hc))) <;> (refine vl ?_; refine KO_nil ?_)) | (refine K_region (id := 16) ?_; refine mv ?_; refine mv ?_; refine mv ?_; skip)))
    · (refine KO_fn rfl rfl rfl rfl rfl ((pins_o a1 b1 S hbig2 (by omega) (by omega) low3).mono ?_); rintro _ h ⟨m4, gp, ⟨rfl, hs⟩ | rfl, S2⟩) <;> (replace S := S2; clear S2; refine KO_nil ?_)
      · all_goals (repeat' (first | refine K_seq ?_ | refine k_cond rfl ?_ | refine K_skip ?_ | refine K_exit ?_ | refine k_block ?_ | refine K_scope ?_ | refine K_label ?_ | (refine K_region (id := 16) ?_; refine mv ?_; refine mv ?_; refine mv ?_; skip)))
        refine K_ret ⟨_, rfl, ?_⟩
        exact ⟨m4, s3.trans (gp.mono h1.1 h1.2.2 (by omega)), (D3.sw gp h1.1 h1.2.2).finish hs, S⟩
      · all_goals (repeat' (first | refine K_seq ?_ | refine k_cond rfl ?_ | refine K_skip ?_ | refine K_exit ?_ | refine k_block ?_ | refine K_scope ?_ | refine K_label ?_ | (refine K_region (id := 16) ?_; refine mv ?_; refine mv ?_; refine mv ?_; skip)))
        exact ⟨m4, ⟨S, g13.trans gp⟩, ((by repeat (first | exact Ks.le_nil _ | refine Ks.le_cons rfl ?_ | refine Ks.le_int ?_)))⟩
    · exact ⟨m3, ⟨S, g13⟩, ((by repeat (first | exact Ks.le_nil _ | refine Ks.le_cons rfl ?_ | refine Ks.le_int ?_)))⟩
  clear S D3 low3 s3 hm3 g13 g2
  rintro m3 h ⟨S, g13⟩
  have D3 := D.sw g13 h1.1 h1.2.2
  have low3 := low m3 g13
  have s3 := h2.trans (g13.mono h1.1 h1.2.2 (by omega))
  have hm3 := g13.len
  skip
  refine K_cut (σ := Unit) (fun _ h' => Hs h0 h' (.sl v 9 1 eS m3 :: rs)) (fun _ => [(0, v), (1, .int .i64 a1), (2, .int .i64 b1), (3, .int .i64 lim), (8, .bool wb), (9, .bool wp), (10, .int .i64 (b1 - a1 : Nat)), (11, .int .i64 q)]) ?_ ?_
  · all_goals (repeat' (first | refine K_seq ?_ | refine k_cond rfl ?_ | refine K_skip ?_ | refine K_exit ?_ | refine k_block ?_ | refine K_scope ?_ | refine K_label ?_ | (refine K_draw (id := 17) ?_; refine mv ?_; (first | refine cT ?_ | refine cF ?_ | (refine cS ?_ ?_ <;> intro hc)) <;> (refine mv ?_; (first | refine off ?_ | refine mv ?_); (first | refine off ?_ | refine mv ?_); (first | refine off ?_ | (first | refine sb ?_ | refine vl ?_)); (first | refine off ?_ | (first | refine ixB S ?_ | refine ixS2 S rfl rfl ?_)); (first | refine off ?_ | (first | refine lB S rfl rfl ?_ | refine lES2 S rfl rfl ?_ | refine lEB S ?_ | refine lH S ?_)); (first | refine off ?_ | refine mv ?_); (first | refine off ?_ | refine mv ?_); (first | refine off ?_ | (first | refine ixB S ?_ | refine ixS2 S rfl rfl ?_)); (first | refine off ?_ | (first | refine lB S rfl rfl ?_ | refine lES2 S rfl rfl ?_ | refine lEB S ?_ | refine lH S ?_)); (first | (refine off ?_; (first | refine off ?_ | refine vl ?_); refine vl ?_; refine KO_nil ?_) | skip)))))
    · simp only [toNat_pred, toNat_succ, toNat_sum, Int.toNat_natCast]
      (refine KO_fn rfl rfl rfl rfl rfl ((less_ok S.wf _ _).mono ?_); rintro _ h ⟨⟨rfl, hq⟩ | ⟨rfl, hq⟩, x⟩) <;> (replace S := S.join0 x; clear x; (first | refine off ?_ | refine vl ?_); refine vl ?_; refine KO_nil ?_)
      · all_goals (repeat' (first | refine K_seq ?_ | refine k_cond rfl ?_ | refine K_skip ?_ | refine K_exit ?_ | refine k_block ?_ | refine K_scope ?_ | refine K_label ?_ | (refine K_region (id := 18) ?_; refine mv ?_; refine mv ?_; refine mv ?_; refine mv ?_; skip)))
        exact ⟨(), S, ((by repeat (first | exact Ks.le_nil _ | refine Ks.le_cons rfl ?_ | refine Ks.le_int ?_)))⟩
      · all_goals (repeat' (first | refine K_seq ?_ | refine k_cond rfl ?_ | refine K_skip ?_ | refine K_exit ?_ | refine k_block ?_ | refine K_scope ?_ | refine K_label ?_ | (refine K_region (id := 18) ?_; refine mv ?_; refine mv ?_; refine mv ?_; refine mv ?_; skip)))
        (refine KO_fn rfl rfl rfl rfl rfl ((peq_o a1 b1 q S hq0 (by omega) (by omega)).mono ?_); rintro _ h ⟨e, m4, rfl, e1, e2, e3, e4, S2⟩) <;> (replace S := S2; clear S2; refine mv ?_; refine KO_nil ?_)
        all_goals (repeat' (first | refine K_seq ?_ | refine k_cond rfl ?_ | refine K_skip ?_ | refine K_exit ?_ | refine k_block ?_ | refine K_scope ?_ | refine K_label ?_ | (refine K_region (id := 19) ?_; refine mv ?_; refine mv ?_; refine KO_nil ?_)))
        refine ⟨(e, b1, lim, wb, wp, m4), ?_, ?_, (by repeat (first | exact Ks.le_nil _ | refine Ks.le_cons rfl ?_ | refine Ks.le_int ?_))⟩
        · show b1 - e < b1 - a1; omega
        · have s4 := low m4 (g13.trans e2) (by omega)
          refine ⟨S, by (try dsimp only); omega, hlim, s3.trans (e2.mono h1.1 h1.2.2 (by omega)), (D3.sw e2 h1.1 h1.2.2).eq_ W (x := m3.getD q default) (show a1 ≤ e ∧ e ≤ b1 by omega) e3 e4 fun k q1 q2 => ?_⟩
          have := s4 k q1 q2
          rw [e2.out (k := a1 - 1) (.inl (by omega))] at this
          exact W.ntr hq this
    · exact ⟨(), S, ((by repeat (first | exact Ks.le_nil _ | refine Ks.le_cons rfl ?_ | refine Ks.le_int ?_)))⟩
  clear S
  rintro - h S
  skip
  all_goals (repeat' (first | refine K_seq ?_ | refine k_cond rfl ?_ | refine K_skip ?_ | refine K_exit ?_ | refine k_block ?_ | refine K_scope ?_ | refine K_label ?_ | (refine K_region (id := 20) ?_; refine mv ?_; refine mv ?_; refine mv ?_; refine mv ?_; skip)))
  (refine KO_fn rfl rfl rfl rfl rfl ((part_o a1 b1 q S hq0 (by omega) (by omega)).mono ?_); rintro _ h ⟨e, f, m4, rfl, e1, e2, e3, S2⟩) <;> (replace S := S2; clear S2; refine mv ?_; refine vl ?_; refine vl ?_; refine mv ?_; refine mv ?_; refine KO_nil ?_)
  have D4 := D3.sw e2 h1.1 h1.2.2
  have s4 := s3.trans (e2.mono h1.1 h1.2.2 (by omega))
  have hm4 := e2.len
  have low4 := low m4 (g13.trans e2)
  skip
  have ee : (e : Int) + 1 = ((e + 1 : Nat) : Int) := by omega
  all_goals (repeat' (first | refine K_seq ?_ | refine k_cond rfl ?_ | refine K_skip ?_ | refine K_exit ?_ | refine k_block ?_ | refine K_scope ?_ | refine K_label ?_ | (refine K_region (id := 21) ?_; refine mv ?_; refine mv ?_; refine KO_nil ?_) | (refine K_region (id := 22) ?_; refine mv ?_; refine mv ?_; (first | refine sb ?_ | refine vl ?_); refine mv ?_; refine mv ?_; (first | refine sb ?_ | refine vl ?_); refine mv ?_; refine mv ?_; refine KO_nil ?_) | (refine K_region (id := 23) ?_; refine mv ?_; (first | refine qu ?_ | refine vl ?_); refine mv ?_; refine KO_nil ?_) | (refine K_region (id := 24) ?_; refine mv ?_; refine mv ?_; (first | refine cT ?_ | refine cF ?_ | (refine cS ?_ ?_ <;> intro hc)) <;> (refine KO_nil ?_)) | (refine K_region (id := 25) ?_; refine mv ?_; refine mv ?_; (first | refine cT ?_ | refine cF ?_ | (refine cS ?_ ?_ <;> intro hc)) <;> (refine mv ?_; refine KO_nil ?_)) | (refine K_region (id := 26) ?_; refine mv ?_; refine mv ?_; refine mv ?_; refine mv ?_; skip) | (refine K_region (id := 28) ?_; refine mv ?_; refine mv ?_; (first | refine cT ?_ | refine cF ?_ | (refine cS ?_ ?_ <;> intro hc)) <;> (refine mv ?_; refine KO_nil ?_))))
  · (refine KO_fn rfl rfl rfl rfl rfl ((ih (e - a1) (by omega) a1 e lim S rfl (by omega) (by omega) (by omega) (by omega) hlim (fun z k q1 q2 => low4 z k q1 (by omega))).mono ?_); rintro _ h ⟨m5, k1, k2, S2⟩) <;> (replace S := S2; clear S2; refine KO_nil ?_)
    all_goals (repeat' (first | refine K_seq ?_ | refine k_cond rfl ?_ | refine K_skip ?_ | refine K_exit ?_ | refine k_block ?_ | refine K_scope ?_ | refine K_label ?_ | (refine K_region (id := 27) ?_; refine mv ?_; (first | refine ad ?_ | refine vl ?_); refine mv ?_; refine KO_nil ?_)))
    refine ⟨(e + 1, b1, lim, true, f, m5), ?_, ?_, (by repeat (first | exact Ks.le_nil _ | refine Ks.le_cons rfl ?_ | refine Ks.le_int ?_))⟩
    · show b1 - (e + 1) < b1 - a1; omega
    · exact ⟨S, by (try dsimp only); omega, hlim, s4.trans (k1.mono h1.1 (by omega) (by omega)), D4.left W e3 (by omega) ⟨h1.1, h1.2.2⟩ k1 k2 (by omega)⟩
  · (refine KO_fn rfl rfl rfl rfl rfl ((ih (e - a1) (by omega) a1 e lim S rfl (by omega) (by omega) (by omega) (by omega) hlim (fun z k q1 q2 => low4 z k q1 (by omega))).mono ?_); rintro _ h ⟨m5, k1, k2, S2⟩) <;> (replace S := S2; clear S2; refine KO_nil ?_)
    all_goals (repeat' (first | refine K_seq ?_ | refine k_cond rfl ?_ | refine K_skip ?_ | refine K_exit ?_ | refine k_block ?_ | refine K_scope ?_ | refine K_label ?_ | (refine K_region (id := 27) ?_; refine mv ?_; (first | refine ad ?_ | refine vl ?_); refine mv ?_; refine KO_nil ?_)))
    refine ⟨(e + 1, b1, lim, false, f, m5), ?_, ?_, (by repeat (first | exact Ks.le_nil _ | refine Ks.le_cons rfl ?_ | refine Ks.le_int ?_))⟩
    · show b1 - (e + 1) < b1 - a1; omega
    · exact ⟨S, by (try dsimp only); omega, hlim, s4.trans (k1.mono h1.1 (by omega) (by omega)), D4.left W e3 (by omega) ⟨h1.1, h1.2.2⟩ k1 k2 (by omega)⟩
  · refine K_region (id := 29) ?_
    (refine mv ?_; refine mv ?_; (first | refine ad ?_ | refine vl ?_); refine mv ?_; refine mv ?_)
    simp only [ee]
    (refine KO_fn rfl rfl rfl rfl rfl ((ih (b1 - (e + 1)) (by omega) (e + 1) b1 lim S rfl (by omega) (by omega) (by omega) (by omega) hlim (fun z k q1 q2 => e3.2 k (by omega) q2)).mono ?_); rintro _ h ⟨m5, k1, k2, S2⟩) <;> (replace S := S2; clear S2; refine KO_nil ?_)
    all_goals (repeat' (first | refine K_seq ?_ | refine k_cond rfl ?_ | refine K_skip ?_ | refine K_exit ?_ | refine k_block ?_ | refine K_scope ?_ | refine K_label ?_ | (refine K_region (id := 30) ?_; refine mv ?_; refine mv ?_; refine KO_nil ?_)))
    refine ⟨(a1, e, lim, true, f, m5), ?_, ?_, (by repeat (first | exact Ks.le_nil _ | refine Ks.le_cons rfl ?_ | refine Ks.le_int ?_))⟩
    · show e - a1 < b1 - a1; omega
    · exact ⟨S, by (try dsimp only); omega, hlim, s4.trans (k1.mono (by omega) h1.2.2 (by omega)), D4.right W e3 (by omega) ⟨h1.1, h1.2.2⟩ k1 k2 (by omega)⟩
  · refine K_region (id := 29) ?_
    (refine mv ?_; refine mv ?_; (first | refine ad ?_ | refine vl ?_); refine mv ?_; refine mv ?_)
    simp only [ee]
    (refine KO_fn rfl rfl rfl rfl rfl ((ih (b1 - (e + 1)) (by omega) (e + 1) b1 lim S rfl (by omega) (by omega) (by omega) (by omega) hlim (fun z k q1 q2 => e3.2 k (by omega) q2)).mono ?_); rintro _ h ⟨m5, k1, k2, S2⟩) <;> (replace S := S2; clear S2; refine KO_nil ?_)
    all_goals (repeat' (first | refine K_seq ?_ | refine k_cond rfl ?_ | refine K_skip ?_ | refine K_exit ?_ | refine k_block ?_ | refine K_scope ?_ | refine K_label ?_ | (refine K_region (id := 30) ?_; refine mv ?_; refine mv ?_; refine KO_nil ?_)))
    refine ⟨(a1, e, lim, false, f, m5), ?_, ?_, (by repeat (first | exact Ks.le_nil _ | refine Ks.le_cons rfl ?_ | refine Ks.le_int ?_))⟩
    · show e - a1 < b1 - a1; omega
    · exact ⟨S, by (try dsimp only); omega, hlim, s4.trans (k1.mono (by omega) h1.2.2 (by omega)), D4.right W e3 (by omega) ⟨h1.1, h1.2.2⟩ k1 k2 (by omega)⟩

theorem sort_o {h0 h : AH} {rs : List Rs} {v : Value} {l : List (List UInt8)} (S : Hs h0 h (.sl v 9 1 eS l :: rs)) (hl : l.length < 250) :
    Fn Tryz.prog Xh 74 [v] h (fun _ h' => ∃ l', Sw 0 l.length l l' ∧ Srt sLt 0 l.length l' ∧ Hs h0 h' (.sl v 9 1 eS l' :: rs)) := by
  have hk : (lenTab.getD l.length 0).toNat < 256 := UInt8.toNat_lt _
  refine Fn_K rfl Tryz.func74 rfl rfl ?_
  all_goals (repeat' (first | refine K_seq ?_ | refine k_cond rfl ?_ | refine K_skip ?_ | refine K_exit ?_ | refine k_block ?_ | refine K_scope ?_ | refine K_label ?_ | (refine K_region (id := 0) ?_; refine mv ?_; (first | refine lnB S ?_ | refine lnS S rfl rfl ?_); refine mv ?_; refine KO_nil ?_) | (refine K_region (id := 1) ?_; refine mv ?_; refine mv ?_; refine mv ?_; (first | refine cW ?_ | refine vl ?_))))
  (refine KO_fn rfl rfl rfl rfl rfl ((len_ok S.wf l.length (by omega)).mono ?_); rintro _ h ⟨rfl, x⟩) <;> (replace S := S.join0 x; clear x)
  (refine KO_fn rfl rfl rfl rfl rfl ((pdq_o l.length 0 l.length (lenTab.getD l.length 0).toNat S rfl (Nat.zero_le _) (Nat.le_refl _) (by omega) (by omega) (by omega) (fun z => by omega)).mono ?_); rintro _ h ⟨l2, g1, g2, S2⟩) <;> (replace S := S2; clear S2; refine KO_nil ?_)
  all_goals (repeat' (first | refine K_seq ?_ | refine k_cond rfl ?_ | refine K_skip ?_ | refine K_exit ?_ | refine k_block ?_ | refine K_scope ?_ | refine K_label ?_))
  refine ⟨_, rfl, ?_⟩
  exact ⟨l2, g1, g2, S⟩

end Go.Proofs.Xx

/-
  A book is asked: names, Find, Tied, With.
-/
namespace Go.Proofs.Xx
open Go Go.Proofs
set_option linter.unusedSimpArgs false
set_option linter.unusedVariables false
set_option linter.unusedSectionVars false
set_option maxRecDepth 100000
set_option maxHeartbeats 4000000

/-- What a map reads as. -/
def MpRd {α : Type} (h : AH) (b : Nat) (enc : α → Value) (l : List (List UInt8 × α)) : Prop := ∃ es clock, h.get b = some (.map es clock) ∧ es.map (fun e => (e.1, e.2.1)) = l.map (fun p => (Value.string ⟨p.1.toArray⟩, enc p.2))
theorem MpRd.ext {α : Type} {h h' : AH} {b : Nat} {enc : α → Value} {l : List (List UInt8 × α)} (r : MpRd h b enc l) (w : WfH h) (x : Ext h h') : MpRd h' b enc l := by
  obtain ⟨es, clock, h1, h2⟩ := r
  exact ⟨es, clock, x.get w h1, h2⟩
section
variable {P : Program} {X : Extern} {sz : Nat} {L : Ks} {h h0 : AH} {rs : List Rs} {ops : Array Oper} {os : List Oper} {o : Oper} {R : Ks → AH → Prop}
/-- A search in a map that is only read. -/
theorem lkR {α : Type} {b : Nat} {enc : α → Value} {l : List (List UInt8 × α)} {m k : Operand} {ty kt et : TypeId} {key : List UInt8} {z : Value} {d : Tmp} {ok : Bool} (r : MpRd h b enc l)
    (w1 : ∀ x, mGet l key = some x → KO P X sz ops os (L.put d (okV ok (enc x) true)) h R)
    (w2 : mGet l key = none → KO P X sz ops os (L.put d (okV ok z false)) h R)
    (ho : o.op = .lookup ty m k ok := by exact rfl) (hg : guardA ops L.tree o.guard = some true := by exact rfl) (hm : kA L m = some (.map (some b)) := by exact rfl) (hk : kA L k = some (str key) := by exact rfl)
    (hu : P.underlying ty = some (.map kt et) := by exact rfl) (hkt : P.underlying kt = some .string := by exact rfl) (hz : zeroV P et = some z := by exact rfl) (hdst : o.dst = some d := by exact rfl) (hds : Nat.blt d sz = true := by exact rfl) : KO P X sz ops (o :: os) L h R := by
  obtain ⟨es, clock, h1, h2⟩ := r
  have hT : mapT P ty (str key) = some (.string, et) := by
    unfold mapT
    simp only [hu, hkt]; rfl
  have hM : aMapOf (.map (some b)) h = some es := by
    unfold aMapOf
    simp only [h1]
  have hF := aFind_mp (enc := enc) (k := key) (i := 0) h2
  cases hq : mGet l key with
  | none =>
    refine KO_val hg (v := okV ok z false) (h' := h) ?_ (show putK sz L o.dst _ = some (L.put d _) by simp only [putK, hdst, hds]) (w2 hq)
    rw [ho]; simp only [aOp, tree_le hm, tree_le hk, aLookup, hT, hM, hF, mGet_none hq, Option.map_none, hz, nextOf]; rfl
  | some x =>
    obtain ⟨i, hi⟩ := mGet_some hq
    refine KO_val hg (v := okV ok (enc x) true) (h' := h) ?_ (show putK sz L o.dst _ = some (L.put d _) by simp only [putK, hdst, hds]) (w1 x hq)
    rw [ho]; simp only [aOp, tree_le hm, tree_le hk, aLookup, hT, hM, hF, hi, Option.map_some, nextOf]; rfl
end
/-- The book at p reads as a roll. -/
structure BkAt (h : AH) (p : Nat) (r : Rl) (s : BkS) : Prop where
  bk : h.get p = some (.cells [s.vg.val, s.vt.val, .map (some s.m)] 86 none false)
  rg : RdL h s.vg.val 9 eG s.gs
  rt : RdL h s.vt.val 3 eTi r.ts
  mp : MpRd h s.m (.int .i64) s.mp
  tg : ∀ i, i < s.gs.length → RdL h (s.gs.getD i default).tv.val 1 eS (s.gs.getD i default).tg
  us : s.gs.map (·.toGu) = r.us
  at_ : AtOk s.mp r.us
def BkRd (h : AH) (p : Nat) (r : Rl) : Prop := ∃ s, BkAt h p r s
theorem BkRd.ext {h h' : AH} {p : Nat} {r : Rl} (b : BkRd h p r) (w : WfH h) (x : Ext h h') : BkRd h' p r := by
  obtain ⟨s, b⟩ := b
  exact ⟨s, x.get w b.bk, b.rg.ext w x, b.rt.ext w x, b.mp.ext w x, fun i hi => (b.tg i hi).ext w x, b.us, b.at_⟩
theorem BkAt.len {h : AH} {p : Nat} {r : Rl} {s : BkS} (b : BkAt h p r s) : s.gs.length = r.us.length := by rw [← b.us]; simp
theorem BkAt.g {h : AH} {p : Nat} {r : Rl} {s : BkS} (b : BkAt h p r s) {i : Nat} (hi : i < s.gs.length) : (s.gs.getD i default).toGu = r.us.getD i default := by rw [← b.us, map_getD hi]
theorem Hs.bkRd {h0 h : AH} {rs : List Rs} {p : Nat} {r : Rl} (S : Hs h0 h (bookR p r :: rs)) : BkRd h p r := by
  obtain ⟨s, ⟨q1, q2⟩, S⟩ := S.unpack
  obtain ⟨fp, k⟩ := Hs.anyP (p := TgsOk s.gs) S (.there (.there (.there (.there .here))))
  obtain ⟨es, clock, m1, m2, -⟩ := mp_get S (.there (.there (.there .here)))
  exact ⟨s, blk_get S .here, Rd.of_sl S (.there .here), Rd.of_sl S (.there (.there .here)), ⟨es, clock, m1, m2⟩, fun i hi => TgsOk.rd k hi, q1, q2⟩
/-- Words in order, each once. -/
def SS (l : List (List UInt8)) : Prop := ∀ i j, i < j → j < l.length → sLt (l.getD i default) (l.getD j default)
theorem nodup_ne {l : List (List UInt8)} (h : l.Nodup) {i j : Nat} (hij : i < j) (hj : j < l.length) : l.getD i default ≠ l.getD j default := by
  rw [List.getD_eq_getElem?_getD, List.getD_eq_getElem?_getD, List.getElem?_eq_getElem hj, List.getElem?_eq_getElem (show i < l.length by omega)]
  exact List.pairwise_iff_getElem.1 h i j (by omega) hj hij
theorem SS.of {l l' : List (List UInt8)} (s : Sw 0 l.length l l') (h : Srt sLt 0 l.length l') (hn : l.Nodup) : SS l' := fun i j hij hj => by
  have hl := s.len
  have hn' : l'.Nodup := s.perm.nodup_iff.2 hn
  have h1 := h i j (Nat.zero_le _) hij (by omega)
  rcases sLe_of h1 with q | q
  · exact absurd q (nodup_ne hn' hij hj)
  · exact q
theorem SS.nodup {l : List (List UInt8)} (h : SS l) : l.Nodup := by
  rw [List.nodup_iff_pairwise_ne, List.pairwise_iff_getElem]
  intro i j hi hj hij
  have := h i j hij hj
  rw [List.getD_eq_getElem?_getD, List.getD_eq_getElem?_getD, List.getElem?_eq_getElem hj, List.getElem?_eq_getElem hi] at this
  exact sLt_ne this
/-- Whom a kind of tie joins to n. -/
def adj (r : Rl) (k : Int) (n x : List UInt8) : Prop := ∃ t ∈ r.ts, t.k = k ∧ ((t.a = n ∧ t.b = x) ∨ (t.b = n ∧ t.a = x))
theorem adj.symm {r : Rl} {k : Int} {n x : List UInt8} (h : adj r k n x) : adj r k x n := by
  obtain ⟨t, h1, h2, h3⟩ := h
  exact ⟨t, h1, h2, h3.elim (fun q => .inr ⟨q.2, q.1⟩) (fun q => .inl ⟨q.2, q.1⟩)⟩
/-- What a tie adds to the list. -/
def witT (k : Int) (n : List UInt8) (t : Ti) : List (List UInt8) := if t.k ≠ k then [] else if t.a = n then [t.b] else if t.b = n then [t.a] else []
theorem mem_wit {r : Rl} (H : RO r) {k : Int} {n x : List UInt8} : x ∈ r.ts.flatMap (witT k n) ↔ adj r k n x := by
  rw [List.mem_flatMap]
  constructor
  · rintro ⟨t, ht, hx⟩
    unfold witT at hx
    split at hx
    · cases hx
    · rename_i hk
      split at hx
      · rename_i ha
        exact ⟨t, ht, Classical.not_not.1 hk, .inl ⟨ha, (List.mem_singleton.1 hx).symm⟩⟩
      · split at hx
        · rename_i hb
          exact ⟨t, ht, Classical.not_not.1 hk, .inr ⟨hb, (List.mem_singleton.1 hx).symm⟩⟩
        · cases hx
  · rintro ⟨t, ht, hk, h⟩
    refine ⟨t, ht, ?_⟩
    unfold witT
    rw [if_neg (by simpa using hk)]
    rcases h with ⟨h1, h2⟩ | ⟨h1, h2⟩
    · rw [if_pos h1]; simp [h2]
    · have := (H.tt t ht).1
      rw [if_neg (fun q => by rw [q, h1] at this; exact sLt_irr _ this), if_pos h1]; simp [h2]
theorem wit_nodup {ts : List Ti} (hs : TS ts) (hlt : ∀ t ∈ ts, sLt t.a t.b) (k : Int) (n : List UInt8) : (ts.flatMap (witT k n)).Nodup := by
  rw [List.Nodup, List.pairwise_flatMap]
  refine ⟨fun t ht => ?_, ?_⟩
  · unfold witT
    split
    · exact List.Pairwise.nil
    · split
      · simp
      · split <;> simp
  · refine List.Pairwise.imp_of_mem ?_ hs
    intro t u ht hu hb x hx y hy
    have l1 := hlt t ht
    have l2 := hlt u hu
    unfold witT at hx hy
    split at hx
    · cases hx
    · split at hy
      · cases hy
      · intro e
        subst e
        split at hx
        · rename_i a1
          have ex := List.mem_singleton.1 hx
          split at hy
          · rename_i a2
            have ey := List.mem_singleton.1 hy
            rcases hb with q | q
            · rw [a1, a2] at q; exact sLt_irr _ q
            · rw [← ex, ← ey] at q; exact sLt_irr _ q.2
          · split at hy
            · rename_i a2
              have ey := List.mem_singleton.1 hy
              rw [a1, ← ex] at l1
              rw [a2, ← ey] at l2
              exact sLt_asymm l1 l2
            · cases hy
        · split at hx
          · rename_i a1
            have ex := List.mem_singleton.1 hx
            split at hy
            · rename_i a2
              have ey := List.mem_singleton.1 hy
              rw [a1, ← ex] at l1
              rw [a2, ← ey] at l2
              exact sLt_asymm l1 l2
            · split at hy
              · rename_i a2
                have ey := List.mem_singleton.1 hy
                rcases hb with q | q
                · rw [← ex, ← ey] at q; exact sLt_irr _ q
                · rw [a1, a2] at q; exact sLt_irr _ q.2
              · cases hy
          · cases hx
theorem wit_len (k : Int) (n : List UInt8) : ∀ ts : List Ti, (ts.flatMap (witT k n)).length ≤ ts.length
  | [] => Nat.le_refl _
  | t :: r => by
    have := wit_len k n r
    rw [List.flatMap_cons, List.length_append, List.length_cons]
    have : (witT k n t).length ≤ 1 := by
      unfold witT
      split
      · simp
      · split
        · simp
        · split <;> simp
    omega
theorem nodup_leM {α : Type} [DecidableEq α] : ∀ {l m : List α}, l.Nodup → (∀ x ∈ l, x ∈ m) → l.length ≤ m.length
  | [], m, _, _ => Nat.zero_le _
  | x :: l, m, h, hs => by
    have hx := hs x (by simp)
    have h2 := List.nodup_cons.1 h
    have := nodup_leM (l := l) (m := m.erase x) h2.2 fun y hy => by
      rw [List.mem_erase_of_ne (show y ≠ x from fun e => h2.1 (by rw [← e]; exact hy))]
      exact hs y (by simp [hy])
    rw [List.length_erase_of_mem hx] at this
    have : 0 < m.length := List.length_pos_of_mem hx
    rw [List.length_cons]; omega
theorem adj_known {r : Rl} (H : RO r) {k : Int} {n x : List UInt8} (h : adj r k n x) : gat r.us n ≠ none ∧ gat r.us x ≠ none ∧ n ≠ x := by
  obtain ⟨t, h1, h2, h3⟩ := h
  obtain ⟨t1, t2, t3, t4⟩ := H.tt t h1
  rcases h3 with ⟨rfl, rfl⟩ | ⟨rfl, rfl⟩
  · exact ⟨t3, t4, sLt_ne t1⟩
  · exact ⟨t4, t3, (sLt_ne t1).symm⟩
theorem gat_name {us : List Gu} {n : List UInt8} (h : gat us n ≠ none) : n ∈ us.map (·.name) := by
  obtain ⟨g, h1, h2⟩ := gat_mem.1 h
  exact List.mem_map.2 ⟨g, h1, h2⟩
theorem wit_le64 {r : Rl} (H : RO r) (k : Int) (n : List UInt8) : (r.ts.flatMap (witT k n)).length ≤ 64 := by
  have := nodup_leM (wit_nodup H.ts (fun t ht => (H.tt t ht).1) k n) (m := r.us.map (·.name)) fun x hx => gat_name (adj_known H ((mem_wit H).1 hx)).2.1
  have := H.l64
  simp at *; omega
variable [Flag]
theorem with_ok {h0 : AH} (w : WfH h0) {p : Nat} {r : Rl} (B : BkRd h0 p r) (H : RO r) (n : List UInt8) (k : Int) : Fn Tryz.prog Xh 27 [.pointer (some ⟨p, 0, none⟩), str n, .int .u8 k] h0 (fun u h' => ∃ l, Hs h0 h' [.sl u 9 1 eS l] ∧ SS l ∧ (∀ x, x ∈ l ↔ adj r k n x) ∧ l.length ≤ 64) := by
  have S := Hs.start w
  obtain ⟨s, B⟩ := B
  have h64 := wit_le64 H k n
  have hb := B.bk
  have hrt := B.rt
  have h256 := H.l256
  refine Fn_K rfl Tryz.func27 rfl rfl ?_
  all_goals (repeat' (first | refine K_seq ?_ | refine k_cond rfl ?_ | refine K_skip ?_ | refine K_exit ?_ | refine k_block ?_ | refine K_scope ?_ | refine K_label ?_ | (refine K_region (id := 0) ?_; refine mv ?_; refine KO_nil ?_) | (refine K_region (id := 1) ?_; refine mv ?_)))
  (refine KO_fn rfl rfl rfl rfl rfl ((bnone_ok S.wf hb).mono ?_); rintro _ h ⟨rfl, x⟩) <;> (replace S := S.join0 x; clear x; refine KO_nil ?_)
  all_goals (repeat' (first | refine K_seq ?_ | refine k_cond rfl ?_ | refine K_skip ?_ | refine K_exit ?_ | refine k_block ?_ | refine K_scope ?_ | refine K_label ?_ | (refine K_region (id := 2) ?_; refine mv ?_; refine KO_nil ?_) | (refine K_region (id := 3) ?_; refine mv ?_; refine KO_nil ?_)))
  have S := S.nilS (e := 9) (z := 1) (enc := eS)
  all_goals (repeat' (first | refine K_seq ?_ | refine k_cond rfl ?_ | refine K_skip ?_ | refine K_exit ?_ | refine k_block ?_ | refine K_scope ?_ | refine K_label ?_ | (refine K_region (id := 4) ?_; refine mv ?_; refine vl ?_; (first | refine vl ?_ | refine fB S ?_ | refine fS S rfl rfl ?_ | refine fA ?_); (first | refine vl ?_ | refine fB S ?_ | refine fS S rfl rfl ?_ | refine fA ?_); (first | refine lB S rfl rfl ?_ | refine lES2 S rfl rfl ?_ | refine lEB S ?_ | refine lH S ?_); (first | refine lnB S ?_ | refine lnS S rfl rfl ?_); refine mv ?_; refine KO_nil ?_)))
  refine k_loop (σ := Nat × Value) (fun (i, v) h' => Hs h0 h' [.sl v 9 1 eS ((r.ts.take i).flatMap (witT k n))] ∧ i ≤ r.ts.length) (fun (i, v) => r.ts.length - i) (fun (i, v) => [(0, .pointer (some ⟨p, 0, none⟩)), (1, str n), (2, .int .u8 k), (7, v), (16, s.vt.val), (17, .int .i64 r.ts.length), (18, .int .i64 i)]) (0, .slice none 0 0) (by repeat (first | exact Ks.le_nil _ | refine Ks.le_cons rfl ?_ | refine Ks.le_int ?_)) ?_ ?_
  · exact ⟨S, Nat.zero_le _⟩
  clear S
  rintro ⟨i, v⟩ h ⟨S, g1⟩
  all_goals (repeat' (first | refine K_seq ?_ | refine k_cond rfl ?_ | refine K_skip ?_ | refine K_exit ?_ | refine K_scope ?_ | refine K_label ?_ | (refine K_region (id := 5) ?_; (first | refine cT ?_ | refine cF ?_ | (refine cS ?_ ?_ <;> intro hc)) <;> (refine KO_nil ?_))))
  · have htl : ((r.ts.take i).flatMap (witT k n)).length ≤ 256 := by
      have := wit_len k n (r.ts.take i)
      simp at this ⊢; omega
    have hts : (r.ts.take (i + 1)).flatMap (witT k n) = (r.ts.take i).flatMap (witT k n) ++ witT k n (r.ts.getD i default) := by
      rw [take_succ_getD (by omega)]; simp
    (repeat (refine K_seq ?_)); first | refine K_join1 (σ := Value) (fun v h' => Hs h0 h' [.sl v 9 1 eS ((r.ts.take (i + 1)).flatMap (witT k n))]) (fun v => [(0, .pointer (some ⟨p, 0, none⟩)), (1, str n), (2, .int .u8 k), (7, v), (16, s.vt.val), (17, .int .i64 r.ts.length), (18, .int .i64 i)]) ?_ ?_ | refine K_cut (σ := Value) (fun v h' => Hs h0 h' [.sl v 9 1 eS ((r.ts.take (i + 1)).flatMap (witT k n))]) (fun v => [(0, .pointer (some ⟨p, 0, none⟩)), (1, str n), (2, .int .u8 k), (7, v), (16, s.vt.val), (17, .int .i64 r.ts.length), (18, .int .i64 i)]) ?_ ?_
    · all_goals (repeat' (first | refine K_seq ?_ | refine k_cond rfl ?_ | refine K_skip ?_ | refine K_exit ?_ | refine k_block ?_ | refine K_scope ?_ | refine K_label ?_))
      all_goals (repeat' (first | refine K_seq ?_ | refine k_cond rfl ?_ | refine K_skip ?_ | refine K_exit ?_ | refine k_block ?_ | refine K_scope ?_ | refine K_label ?_ | (refine K_region (id := 6) ?_; (first | refine ixB S ?_ | refine ixS2 S rfl rfl ?_); (first | refine lB S rfl rfl ?_ | refine lES2 S rfl rfl ?_ | refine lEB S ?_ | refine lH S ?_); (refine al S ?_; clear S; intro b h S); (first | (refine sB S rfl rfl ?_; clear S; intro h S) | (refine sE2 S rfl rfl ?_; clear S; intro h S)); refine KO_nil ?_) | (refine K_region (id := 7) ?_; (first | refine vl ?_ | refine fB S ?_ | refine fS S rfl rfl ?_ | refine fA ?_); (first | refine lB S rfl rfl ?_ | refine lES2 S rfl rfl ?_ | refine lEB S ?_ | refine lH S ?_); refine mv ?_; (first | refine cT ?_ | refine cF ?_ | (refine cS ?_ ?_ <;> intro hc)) <;> (refine mv ?_; refine KO_nil ?_)) | (refine K_region (id := 8) ?_; (first | refine vl ?_ | refine fB S ?_ | refine fS S rfl rfl ?_ | refine fA ?_); (first | refine lB S rfl rfl ?_ | refine lES2 S rfl rfl ?_ | refine lEB S ?_ | refine lH S ?_); refine mv ?_; (refine tS ?_ ?_ <;> intro hc) <;> (refine mv ?_; refine KO_nil ?_)) | (refine K_region (id := 9) ?_; refine mv ?_; (first | refine vl ?_ | refine fB S ?_ | refine fS S rfl rfl ?_ | refine fA ?_); (first | refine lB S rfl rfl ?_ | refine lES2 S rfl rfl ?_ | refine lEB S ?_ | refine lH S ?_); (refine one 1 S ?_; clear S; intro u h S)) | (refine K_region (id := 10) ?_; (first | refine vl ?_ | refine fB S ?_ | refine fS S rfl rfl ?_ | refine fA ?_); (first | refine lB S rfl rfl ?_ | refine lES2 S rfl rfl ?_ | refine lEB S ?_ | refine lH S ?_); refine mv ?_; (refine tS ?_ ?_ <;> intro hc) <;> (refine mv ?_; refine KO_nil ?_)) | (refine K_region (id := 11) ?_; refine mv ?_; (first | refine vl ?_ | refine fB S ?_ | refine fS S rfl rfl ?_ | refine fA ?_); (first | refine lB S rfl rfl ?_ | refine lES2 S rfl rfl ?_ | refine lEB S ?_ | refine lH S ?_); (refine one 1 S ?_; clear S; intro u h S))))
      all_goals (try simp only [Int.toNat_natCast] at *)
      · have e : witT k n (r.ts.getD i default) = [] := by unfold witT; rw [if_pos hc]
        exact ⟨v, by rw [hts, e, List.append_nil]; exact S.pick, ((by repeat (first | exact Ks.le_nil _ | refine Ks.le_cons rfl ?_ | refine Ks.le_int ?_)))⟩
      · have e : witT k n (r.ts.getD i default) = [(r.ts.getD i default).b] := by unfold witT; rw [if_neg (by assumption), if_pos (by assumption)]
        refine app (y0 := (r.ts.getD i default).b) S rfl rfl ?_; clear S; intro v' h S; (refine mv ?_; refine KO_nil ?_)
        all_goals (repeat' (first | refine K_seq ?_ | refine k_cond rfl ?_ | refine K_skip ?_ | refine K_exit ?_ | refine k_block ?_ | refine K_scope ?_ | refine K_label ?_))
        exact ⟨v', by rw [hts, e]; exact S.pick, ((by repeat (first | exact Ks.le_nil _ | refine Ks.le_cons rfl ?_ | refine Ks.le_int ?_)))⟩
      · have e : witT k n (r.ts.getD i default) = [(r.ts.getD i default).a] := by unfold witT; rw [if_neg (by assumption), if_neg (by assumption), if_pos (by assumption)]
        refine app (y0 := (r.ts.getD i default).a) S rfl rfl ?_; clear S; intro v' h S; (refine mv ?_; refine KO_nil ?_)
        all_goals (repeat' (first | refine K_seq ?_ | refine k_cond rfl ?_ | refine K_skip ?_ | refine K_exit ?_ | refine k_block ?_ | refine K_scope ?_ | refine K_label ?_))
        exact ⟨v', by rw [hts, e]; exact S.pick, ((by repeat (first | exact Ks.le_nil _ | refine Ks.le_cons rfl ?_ | refine Ks.le_int ?_)))⟩
      · have e : witT k n (r.ts.getD i default) = [] := by unfold witT; rw [if_neg (by assumption), if_neg (by assumption), if_neg (by assumption)]
        exact ⟨v, by rw [hts, e, List.append_nil]; exact S.pick, ((by repeat (first | exact Ks.le_nil _ | refine Ks.le_cons rfl ?_ | refine Ks.le_int ?_)))⟩
    · clear S
      rintro v h S
      skip
      all_goals (repeat' (first | refine K_seq ?_ | refine k_cond rfl ?_ | refine K_skip ?_ | refine K_exit ?_ | refine k_block ?_ | refine K_scope ?_ | refine K_label ?_ | (refine K_region (id := 12) ?_; (first | refine ad ?_ | refine vl ?_); refine mv ?_; refine KO_nil ?_)))
      refine ⟨(i + 1, v), ?_, ?_, (by repeat (first | exact Ks.le_nil _ | refine Ks.le_cons rfl ?_ | refine Ks.le_int ?_))⟩
      · show r.ts.length - (i + 1) < r.ts.length - i; omega
      · exact ⟨S, by (try dsimp only); omega⟩
  · obtain rfl : i = r.ts.length := by omega
    rw [List.take_length] at S
    skip
    all_goals (repeat' (first | refine K_seq ?_ | refine k_cond rfl ?_ | refine K_skip ?_ | refine K_exit ?_ | refine k_block ?_ | refine K_scope ?_ | refine K_label ?_ | (refine K_region (id := 13) ?_; refine mv ?_)))
    (refine KO_fn rfl rfl rfl rfl rfl ((sort_o S (by omega)).mono ?_); rintro _ h ⟨l, z1, z2, S⟩) <;> (refine KO_nil ?_)
    all_goals (repeat' (first | refine K_seq ?_ | refine k_cond rfl ?_ | refine K_skip ?_ | refine K_exit ?_ | refine k_block ?_ | refine K_scope ?_ | refine K_label ?_ | (refine K_region (id := 14) ?_; refine mv ?_; refine mv ?_; refine KO_nil ?_)))
    refine K_ret ⟨_, rfl, ?_⟩
    refine ⟨l, S, SS.of z1 z2 (wit_nodup H.ts (fun t ht => (H.tt t ht).1) k n), fun x => by rw [z1.perm.mem_iff]; exact mem_wit H, (by rw [z1.len]; exact h64)⟩
theorem bnames_ok {h0 : AH} (w : WfH h0) {p : Nat} {r : Rl} (B : BkRd h0 p r) (H : RO r) : Fn Tryz.prog Xh 73 [.pointer (some ⟨p, 0, none⟩)] h0 (fun u h' => ∃ l, Hs h0 h' [.sl u 9 1 eS l] ∧ SS l ∧ (∀ x, x ∈ l ↔ gat r.us x ≠ none) ∧ l.length = r.us.length) := by
  have S := Hs.start w
  obtain ⟨s, B⟩ := B
  have hb := B.bk
  have hrg := B.rg
  have hgl := B.len
  have h64 := H.l64
  refine Fn_K rfl Tryz.func73 rfl rfl ?_
  all_goals (repeat' (first | refine K_seq ?_ | refine k_cond rfl ?_ | refine K_skip ?_ | refine K_exit ?_ | refine k_block ?_ | refine K_scope ?_ | refine K_label ?_ | (refine K_region (id := 0) ?_; refine mv ?_; refine KO_nil ?_) | (refine K_region (id := 1) ?_; refine mv ?_; refine KO_nil ?_)))
  have S := S.nilS (e := 9) (z := 1) (enc := eS)
  all_goals (repeat' (first | refine K_seq ?_ | refine k_cond rfl ?_ | refine K_skip ?_ | refine K_exit ?_ | refine k_block ?_ | refine K_scope ?_ | refine K_label ?_ | (refine K_region (id := 2) ?_; refine mv ?_; refine vl ?_; (first | refine vl ?_ | refine fB S ?_ | refine fS S rfl rfl ?_ | refine fA ?_); (first | refine vl ?_ | refine fB S ?_ | refine fS S rfl rfl ?_ | refine fA ?_); (first | refine lB S rfl rfl ?_ | refine lES2 S rfl rfl ?_ | refine lEB S ?_ | refine lH S ?_); (first | refine lnB S ?_ | refine lnS S rfl rfl ?_); refine mv ?_; refine KO_nil ?_)))
  refine k_loop (σ := Nat × Value) (fun (i, v) h' => Hs h0 h' [.sl v 9 1 eS ((r.us.take i).map (·.name))] ∧ i ≤ r.us.length) (fun (i, v) => r.us.length - i) (fun (i, v) => [(3, v), (10, s.vg.val), (11, .int .i64 s.gs.length), (12, .int .i64 i)]) (0, .slice none 0 0) (by repeat (first | exact Ks.le_nil _ | refine Ks.le_cons rfl ?_ | refine Ks.le_int ?_)) ?_ ?_
  · exact ⟨S, Nat.zero_le _⟩
  clear S
  rintro ⟨i, v⟩ h ⟨S, g1⟩
  all_goals (repeat' (first | refine K_seq ?_ | refine k_cond rfl ?_ | refine K_skip ?_ | refine K_exit ?_ | refine k_block ?_ | refine K_scope ?_ | refine K_label ?_ | (refine K_region (id := 3) ?_; (first | refine cT ?_ | refine cF ?_ | (refine cS ?_ ?_ <;> intro hc)) <;> (refine KO_nil ?_)) | (refine K_region (id := 4) ?_; (first | refine ixB S ?_ | refine ixS2 S rfl rfl ?_); (first | refine lB S rfl rfl ?_ | refine lES2 S rfl rfl ?_ | refine lEB S ?_ | refine lH S ?_); (refine al S ?_; clear S; intro b h S); (first | (refine sB S rfl rfl ?_; clear S; intro h S) | (refine sE2 S rfl rfl ?_; clear S; intro h S)); refine KO_nil ?_) | (refine K_region (id := 5) ?_; refine mv ?_; (first | refine vl ?_ | refine fB S ?_ | refine fS S rfl rfl ?_ | refine fA ?_); (first | refine lB S rfl rfl ?_ | refine lES2 S rfl rfl ?_ | refine lEB S ?_ | refine lH S ?_); (refine one 1 S ?_; clear S; intro u h S))))
  · have hil : i < s.gs.length := by omega
    have hg := B.g hil
    simp only [Int.toNat_natCast] at *
    refine app (y0 := (s.gs.getD i default).name) S rfl rfl ?_; clear S; intro v' h S; (refine mv ?_; refine KO_nil ?_)
    all_goals (repeat' (first | refine K_seq ?_ | refine k_cond rfl ?_ | refine K_skip ?_ | refine K_exit ?_ | refine k_block ?_ | refine K_scope ?_ | refine K_label ?_ | (refine K_region (id := 6) ?_; (first | refine ad ?_ | refine vl ?_); refine mv ?_; refine KO_nil ?_)))
    refine ⟨(i + 1, v'), ?_, ?_, (by repeat (first | exact Ks.le_nil _ | refine Ks.le_cons rfl ?_ | refine Ks.le_int ?_))⟩
    · show r.us.length - (i + 1) < r.us.length - i; omega
    · refine ⟨?_, by (try dsimp only); omega⟩
      dsimp only
      have e : (r.us.take (i + 1)).map (·.name) = (r.us.take i).map (·.name) ++ [(s.gs.getD i default).name] := by rw [take_succ_getD (by omega), ← hg]; simp
      rw [e]
      exact S.pick
  · obtain rfl : i = r.us.length := by omega
    rw [List.take_length] at S
    skip
    all_goals (repeat' (first | refine K_seq ?_ | refine k_cond rfl ?_ | refine K_skip ?_ | refine K_exit ?_ | refine k_block ?_ | refine K_scope ?_ | refine K_label ?_ | (refine K_region (id := 7) ?_; refine mv ?_)))
    have hl2 : (r.us.map (·.name)).length < 250 := by simp; omega
    (refine KO_fn rfl rfl rfl rfl rfl ((sort_o S hl2).mono ?_); rintro _ h ⟨l, z1, z2, S⟩) <;> (refine KO_nil ?_)
    all_goals (repeat' (first | refine K_seq ?_ | refine k_cond rfl ?_ | refine K_skip ?_ | refine K_exit ?_ | refine k_block ?_ | refine K_scope ?_ | refine K_label ?_ | (refine K_region (id := 8) ?_; refine mv ?_; refine mv ?_; refine KO_nil ?_)))
    refine K_ret ⟨_, rfl, ?_⟩
    have hn : (r.us.map (·.name)).Nodup := by
      rw [List.Nodup, List.pairwise_iff_getElem]
      intro i j hi hj hij
      simp only [List.length_map] at hi hj
      have := H.nd i j hij hj
      rw [List.getD_eq_getElem?_getD, List.getD_eq_getElem?_getD, List.getElem?_eq_getElem hj, List.getElem?_eq_getElem hi] at this
      simpa using this
    refine ⟨l, S, SS.of z1 z2 hn, fun x => ?_, (by rw [z1.len]; simp)⟩
    rw [z1.perm.mem_iff, gat_mem, List.mem_map]
theorem find_ok {h0 : AH} (w : WfH h0) {p : Nat} {r : Rl} (B : BkRd h0 p r) (H : RO r) (n : List UInt8) : Fn Tryz.prog Xh 26 [.pointer (some ⟨p, 0, none⟩), str n] h0 (fun u h' => (∃ (i : Nat) (tv : SlV), gat r.us n = some i ∧ u = .tuple #[gV ⟨r.us.getD i default, tv⟩, .bool true] ∧ Hs h0 h' [.sl tv.val 9 1 eS (r.us.getD i default).tg]) ∨ (gat r.us n = none ∧ u = .tuple #[gV ⟨default, ⟨none, 0, 0⟩⟩, .bool false] ∧ Hs h0 h' [])) := by
  have S := Hs.start w
  obtain ⟨s, B⟩ := B
  have hb := B.bk
  have hrg := B.rg
  have hgl := B.len
  have h64 := H.l64
  refine Fn_K rfl Tryz.func26 rfl rfl ?_
  all_goals (repeat' (first | refine K_seq ?_ | refine k_cond rfl ?_ | refine K_skip ?_ | refine K_exit ?_ | refine k_block ?_ | refine K_scope ?_ | refine K_label ?_ | (refine K_region (id := 0) ?_; (refine al S ?_; clear S; intro b h S); refine mv ?_; refine KO_nil ?_) | (refine K_region (id := 1) ?_; refine mv ?_)))
  (refine KO_fn rfl rfl rfl rfl rfl ((bnone_ok S.wf (S.ext.get w hb)).mono ?_); rintro _ h ⟨rfl, x⟩) <;> (replace S := S.join0 x; clear x; refine KO_nil ?_)
  all_goals (repeat' (first | refine K_seq ?_ | refine k_cond rfl ?_ | refine K_skip ?_ | refine K_exit ?_ | refine k_block ?_ | refine K_scope ?_ | refine K_label ?_ | (refine K_region (id := 2) ?_; refine vl ?_; (first | (refine sB S rfl rfl ?_; clear S; intro h S) | (refine sE2 S rfl rfl ?_; clear S; intro h S)); refine mv ?_; refine KO_nil ?_) | (refine K_region (id := 3) ?_; refine mv ?_; refine vl ?_; (first | refine vl ?_ | refine fB S ?_ | refine fS S rfl rfl ?_ | refine fA ?_); (first | refine lB S rfl rfl ?_ | refine lES2 S rfl rfl ?_ | refine lEB S ?_ | refine lH S ?_); refine mv ?_)))
  have hmp := B.mp.ext w S.ext
  refine lkR hmp (fun i hi => ?_) (fun hi => ?_)
  · simp only [okV]
    (refine mv ?_; refine vl ?_; refine vl ?_; refine mv ?_; refine mv ?_; refine KO_nil ?_)
    rw [B.at_ n] at hi
    cases hq : gat r.us n with
    | none => rw [hq] at hi; cases hi
    | some i' =>
      rw [hq] at hi; cases hi
      obtain ⟨q1, q2, q3⟩ := gat_some hq
      have hil : i' < s.gs.length := by omega
      have hg := B.g hil
      have hd := H.chk _ (mem_getD q1)
      have h4 := (chkG_ok hd).2.2.2.1
      all_goals (repeat' (first | refine K_seq ?_ | refine k_cond rfl ?_ | refine K_skip ?_ | refine K_exit ?_ | refine k_block ?_ | refine K_scope ?_ | refine K_label ?_ | (refine K_region (id := 4) ?_; refine mv ?_; refine vl ?_; refine KO_nil ?_) | (refine K_region (id := 5) ?_; refine vl ?_; (first | (refine sB S rfl rfl ?_; clear S; intro h S) | (refine sE2 S rfl rfl ?_; clear S; intro h S)); refine mv ?_; refine KO_nil ?_) | (refine K_region (id := 6) ?_; refine mv ?_; refine vl ?_; (first | refine vl ?_ | refine fB S ?_ | refine fS S rfl rfl ?_ | refine fA ?_); (first | refine vl ?_ | refine fB S ?_ | refine fS S rfl rfl ?_ | refine fA ?_); (first | refine lB S rfl rfl ?_ | refine lES2 S rfl rfl ?_ | refine lEB S ?_ | refine lH S ?_); refine mv ?_; (first | refine ixB S ?_ | refine ixS2 S rfl rfl ?_); (first | refine lB S rfl rfl ?_ | refine lES2 S rfl rfl ?_ | refine lEB S ?_ | refine lH S ?_))))
      have e1 : (Int.ofNat i').toNat = i' := rfl
      simp only [e1]
      (refine KO_fn rfl rfl rfl rfl rfl ((copied_ok S.wf (s.gs.getD i' default) ((B.tg i' hil).ext w S.ext) (by grind)).mono ?_); rintro _ h ⟨tv, rfl, x⟩) <;> (replace S := S.join1 x; clear x; (first | (refine sB S rfl rfl ?_; clear S; intro h S) | (refine sE2 S rfl rfl ?_; clear S; intro h S)); refine mv ?_; refine KO_nil ?_)
      rw [hg] at S
      all_goals (repeat' (first | refine K_seq ?_ | refine k_cond rfl ?_ | refine K_skip ?_ | refine K_exit ?_ | refine k_block ?_ | refine K_scope ?_ | refine K_label ?_))
      refine K_ret ⟨_, ret_cell S rfl (by first | exact .here | exact .there .here | exact .there (.there .here)) (by exact rfl) (by exact rfl), ?_⟩
      exact .inl ⟨i', tv, rfl, rfl, S.only .here⟩
  · simp only [okV]
    (refine mv ?_; refine vl ?_; refine vl ?_; refine mv ?_; refine mv ?_; refine KO_nil ?_)
    skip
    all_goals (repeat' (first | refine K_seq ?_ | refine k_cond rfl ?_ | refine K_skip ?_ | refine K_exit ?_ | refine k_block ?_ | refine K_scope ?_ | refine K_label ?_ | (refine K_region (id := 4) ?_; refine mv ?_; refine vl ?_; refine KO_nil ?_) | (refine K_region (id := 5) ?_; refine vl ?_; (first | (refine sB S rfl rfl ?_; clear S; intro h S) | (refine sE2 S rfl rfl ?_; clear S; intro h S)); refine mv ?_; refine KO_nil ?_) | (refine K_region (id := 6) ?_; refine mv ?_; refine vl ?_; (first | refine vl ?_ | refine fB S ?_ | refine fS S rfl rfl ?_ | refine fA ?_); (first | refine vl ?_ | refine fB S ?_ | refine fS S rfl rfl ?_ | refine fA ?_); (first | refine lB S rfl rfl ?_ | refine lES2 S rfl rfl ?_ | refine lEB S ?_ | refine lH S ?_); refine mv ?_; (first | refine ixB S ?_ | refine ixS2 S rfl rfl ?_); (first | refine lB S rfl rfl ?_ | refine lES2 S rfl rfl ?_ | refine lEB S ?_ | refine lH S ?_))))
    refine K_ret ⟨_, ret_cell S rfl (by first | exact .here | exact .there .here | exact .there (.there .here)) (by exact rfl) (by exact rfl), ?_⟩
    refine .inr ⟨?_, rfl, S.drop⟩
    rw [B.at_ n] at hi
    cases hq : gat r.us n with
    | none => rfl
    | some i' => rw [hq] at hi; cases hi
theorem findK_ok {h0 : AH} (w : WfH h0) {p : Nat} {r : Rl} (B : BkRd h0 p r) (H : RO r) (n : List UInt8) (hk : gat r.us n ≠ none) : Fn Tryz.prog Xh 26 [.pointer (some ⟨p, 0, none⟩), str n] h0 (fun u h' => (∃ g : Gst, u = .tuple #[gV g, .bool true]) ∧ Hs h0 h' []) :=
  (find_ok w B H n).mono fun u h' q => by
    rcases q with ⟨i, tv, -, q2, q3⟩ | ⟨q1, -⟩
    · exact ⟨⟨_, q2⟩, q3.drop⟩
    · exact absurd q1 hk
theorem in_ok {h0 : AH} (w : WfH h0) (v : Value) (l : List (List UInt8)) (r : RdL h0 v 1 eS l) (hl : l.length ≤ 1000000) (n : List UInt8) : Fn Tryz.prog Xh 28 [v, str n] h0 (fun u h' => BoolIs u (n ∈ l) ∧ Hs h0 h' []) := by
  have S := Hs.start w
  refine Fn_K rfl Tryz.func28 rfl rfl ?_
  all_goals (repeat' (first | refine K_seq ?_ | refine k_cond rfl ?_ | refine K_skip ?_ | refine K_exit ?_ | refine k_block ?_ | refine K_scope ?_ | refine K_label ?_ | (refine K_region (id := 0) ?_; refine mv ?_; refine KO_nil ?_) | (refine K_region (id := 1) ?_; refine mv ?_; refine KO_nil ?_)))
  refine k_loop (σ := Nat) (fun i h' => Hs h0 h' [] ∧ i ≤ l.length ∧ ∀ j, j < i → l.getD j default ≠ n) (fun i => l.length - i) (fun i => [(0, v), (1, str n), (5, .int .i64 i)]) 0 (by repeat (first | exact Ks.le_nil _ | refine Ks.le_cons rfl ?_ | refine Ks.le_int ?_)) ?_ ?_
  · exact ⟨S, Nat.zero_le _, fun j hj => absurd hj (Nat.not_lt_zero _)⟩
  clear S
  rintro i h ⟨S, g1, g2⟩
  all_goals (repeat' (first | refine K_seq ?_ | refine k_cond rfl ?_ | refine K_skip ?_ | refine K_exit ?_ | refine k_block ?_ | refine K_scope ?_ | refine K_label ?_ | (refine K_region (id := 2) ?_; refine mv ?_; refine mv ?_; (first | refine lnB S ?_ | refine lnS S rfl rfl ?_); (first | refine cT ?_ | refine cF ?_ | (refine cS ?_ ?_ <;> intro hc)) <;> (refine KO_nil ?_)) | (refine K_region (id := 3) ?_; refine mv ?_; (first | refine ad ?_ | refine vl ?_); refine mv ?_; refine KO_nil ?_) | (refine K_region (id := 4) ?_; refine mv ?_; refine mv ?_; (first | refine ixB S ?_ | refine ixS2 S rfl rfl ?_); (first | refine lB S rfl rfl ?_ | refine lES2 S rfl rfl ?_ | refine lEB S ?_ | refine lH S ?_); refine mv ?_; (refine tS ?_ ?_ <;> intro hc) <;> (refine KO_nil ?_)) | (refine K_region (id := 5) ?_; refine mv ?_; refine KO_nil ?_) | (refine K_region (id := 6) ?_; refine mv ?_; refine KO_nil ?_)))
  all_goals (try simp only [Int.toNat_natCast] at *)
  · refine K_ret ⟨_, rfl, ?_⟩
    exact ⟨.inl ⟨rfl, by rw [← hc]; exact mem_getD (by omega)⟩, S⟩
  · refine ⟨i + 1, ?_, ?_, (by repeat (first | exact Ks.le_nil _ | refine Ks.le_cons rfl ?_ | refine Ks.le_int ?_))⟩
    · show l.length - (i + 1) < l.length - i; omega
    · exact ⟨S, by omega, nxtD g2 hc⟩
  · refine K_ret ⟨_, rfl, ?_⟩
    refine ⟨.inr ⟨rfl, fun q => ?_⟩, S⟩
    obtain ⟨j, h1, h2⟩ := mem_iff_getD.1 q
    exact g2 j (by omega) h2
end Go.Proofs.Xx

/-
  Circles of friends.
-/
namespace Go.Proofs.Xx
open Go Go.Proofs
set_option linter.unusedSimpArgs false
set_option linter.unusedVariables false
set_option linter.unusedSectionVars false
set_option maxRecDepth 100000
set_option maxHeartbeats 4000000

def MetP (mp : List (List UInt8 × Bool)) (M : List (List UInt8)) : Prop := ∀ x, mGet mp x = if x ∈ M then some true else none
theorem MetP.put {mp : List (List UInt8 × Bool)} {M : List (List UInt8)} (h : MetP mp M) (n : List UInt8) : MetP (mPut mp n true) (M ++ [n]) := fun x => by
  rw [mGet_put, h x]
  by_cases e : x = n
  · subst e; simp
  · simp [e]
/-- Led to by ties of a kind. -/
inductive Rch (r : Rl) (k : Int) (n : List UInt8) : List UInt8 → Prop
  | refl : Rch r k n n
  | step {x y : List UInt8} (h : Rch r k n x) (a : adj r k x y) : Rch r k n y
theorem Rch.trans {r : Rl} {k : Int} {n x y : List UInt8} (h : Rch r k n x) (g : Rch r k x y) : Rch r k n y := by
  induction g with
  | refl => exact h
  | step g a ih => exact .step ih a
theorem Rch.symm {r : Rl} {k : Int} {n x : List UInt8} (h : Rch r k n x) : Rch r k x n := by
  induction h with
  | refl => exact .refl
  | step h a ih => exact Rch.trans (.step .refl a.symm) ih
/-- What a search from n adds to what is met. -/
structure Dfs (r : Rl) (M : List (List UInt8)) (n : List UInt8) (N : List (List UInt8)) : Prop where
  nd : N.Nodup
  dj : ∀ x ∈ N, x ∉ M
  self : n ∈ M ∨ n ∈ N
  kn : ∀ x ∈ N, gat r.us x ≠ none
  rc : ∀ x ∈ N, Rch r 1 n x
  cl : ∀ x ∈ N, ∀ y, adj r 1 x y → y ∈ M ∨ y ∈ N
/-- How many names are not yet met. -/
def unm (r : Rl) (M : List (List UInt8)) : Nat := ((r.us.map (·.name)).filter fun x => decide (x ∉ M)).length
theorem unm_mono {r : Rl} {M M' : List (List UInt8)} (h : ∀ x ∈ M, x ∈ M') : unm r M' ≤ unm r M := by
  unfold unm
  refine List.Sublist.length_le ?_
  generalize r.us.map (·.name) = l
  induction l with
  | nil => exact List.Sublist.slnil
  | cons x l ih =>
    by_cases q : x ∈ M
    · simp [q, h x q]; simpa using ih
    · by_cases q2 : x ∈ M'
      · simp [q, q2]; exact List.Sublist.cons _ (by simpa using ih)
      · simp [q, q2]; simpa using ih
theorem unm_lt {r : Rl} {M : List (List UInt8)} {n : List UInt8} (hn : gat r.us n ≠ none) (h : n ∉ M) : unm r (M ++ [n]) < unm r M := by
  have hm := gat_name hn
  unfold unm
  generalize r.us.map (·.name) = l at hm
  induction l with
  | nil => cases hm
  | cons x l ih =>
    have mono : (l.filter fun x => decide (x ∉ M ++ [n])).length ≤ (l.filter fun x => decide (x ∉ M)).length := by
      refine List.Sublist.length_le ?_
      clear ih hm
      induction l with
      | nil => exact List.Sublist.slnil
      | cons y l ih =>
        by_cases q : y ∈ M
        · simp [q]; simpa using ih
        · by_cases q2 : y = n
          · simp [q, q2, h]; exact List.Sublist.cons _ (by simpa using ih)
          · simp [q, q2]; simpa using ih
    by_cases e : x = n
    · subst e
      simp only [List.filter_cons]
      simp [h]
      simp at mono
      omega
    · have := ih (by rcases List.mem_cons.1 hm with q | q; exact absurd q.symm e; exact q)
      simp only [List.filter_cons]
      by_cases q : x ∈ M
      · simp [q]; simpa using this
      · simp [q, e]; simpa using this
def cvJ (b4 b5 b1 b6 : Nat) : Value := .func (.func 72) #[] #[.pointer (some ⟨b4, 0, none⟩), .pointer (some ⟨b5, 0, none⟩), .pointer (some ⟨b1, 0, none⟩), .pointer (some ⟨b6, 0, none⟩)]
abbrev cirR (p b4 b5 b1 b6 m : Nat) (mp : List (List UInt8 × Bool)) (v : SlV) (C : List (List UInt8)) : List Rs :=
  [.blk b4 [.map (some m)] 112, .mp m .bool mp, .blk b5 [v.val] 22, .sl v.val 9 1 eS C, .blk b1 [.pointer (some ⟨p, 0, none⟩)] 40, .blk b6 [cvJ b4 b5 b1 b6] 113]
variable [Flag]
theorem join_ok {h0 : AH} (w : WfH h0) {p : Nat} {r : Rl} (B : BkRd h0 p r) (H : RO r) {b4 b5 b1 b6 m : Nat} : ∀ (z : Nat) {rs : List Rs} {h : AH} {mp : List (List UInt8 × Bool)} {v : SlV} {C M : List (List UInt8)} (n : List UInt8) (S : Hs h0 h (cirR p b4 b5 b1 b6 m mp v C ++ rs)) (hm : MetP mp M) (hz : unm r M ≤ z) (hn : gat r.us n ≠ none) (hC : C.Nodup ∧ ∀ x ∈ C, x ∈ M ∧ gat r.us x ≠ none),
    Fn Tryz.prog Xh 72 [str n, .pointer (some ⟨b4, 0, none⟩), .pointer (some ⟨b5, 0, none⟩), .pointer (some ⟨b1, 0, none⟩), .pointer (some ⟨b6, 0, none⟩)] h (fun _ h' => ∃ mp' v' N, Hs h0 h' (cirR p b4 b5 b1 b6 m mp' v' (C ++ N) ++ rs) ∧ MetP mp' (M ++ N) ∧ Dfs r M n N) := by
  intro z
  induction z using Nat.strongRecOn with
  | _ z ih =>
  intro rs h mp v C M n S hm hz hn hC
  dsimp only [cirR, List.cons_append, List.nil_append] at S
  have hU := nodup_leM hC.1 (m := r.us.map (·.name)) fun x hx => gat_name (hC.2 x hx).2
  have h64 := H.l64
  rw [List.length_map] at hU
  refine Fn_K rfl Tryz.func72 rfl rfl ?_
  all_goals (repeat' (first | refine K_seq ?_ | refine k_cond rfl ?_ | refine K_skip ?_ | refine K_exit ?_ | refine k_block ?_ | refine K_scope ?_ | refine K_label ?_ | (refine K_region (id := 0) ?_; (first | refine lB S rfl rfl ?_ | refine lES2 S rfl rfl ?_ | refine lEB S ?_ | refine lH S ?_); refine mv ?_)))
  refine lk S (.there .here) (fun y hy => ?_) (fun hy => ?_)
  · rw [hm n] at hy
    have hM : n ∈ M := by
      apply Classical.byContradiction
      intro q
      rw [if_neg q] at hy; cases hy
    rw [if_pos hM] at hy; cases hy
    simp only [okV]
    (refine KO_nil ?_)
    all_goals (repeat' (first | refine K_seq ?_ | refine k_cond rfl ?_ | refine K_skip ?_ | refine K_exit ?_ | refine k_block ?_ | refine K_scope ?_ | refine K_label ?_ | (refine K_region (id := 1) ?_; (first | refine lB S rfl rfl ?_ | refine lES2 S rfl rfl ?_ | refine lEB S ?_ | refine lH S ?_); refine mv ?_)))
    refine K_ret ⟨_, rfl, ?_⟩
    exact ⟨mp, v, [], (by rw [List.append_nil]; exact S), (by rw [List.append_nil]; exact hm), ⟨by simp, by simp, .inl hM, by simp, by simp, by simp⟩⟩
  · have hM : n ∉ M := fun q => by rw [hm n, if_pos q] at hy; cases hy
    have hlt := unm_lt hn hM
    simp only [okV]
    (refine KO_nil ?_)
    all_goals (repeat' (first | refine K_seq ?_ | refine k_cond rfl ?_ | refine K_skip ?_ | refine K_exit ?_ | refine k_block ?_ | refine K_scope ?_ | refine K_label ?_ | (refine K_region (id := 1) ?_; (first | refine lB S rfl rfl ?_ | refine lES2 S rfl rfl ?_ | refine lEB S ?_ | refine lH S ?_); refine mv ?_)))
    refine up (x := true) (key := n) S (.there .here) (.there .here) (fun h S => ?_) (.inl rfl)
    have hm' := hm.put n
    (refine KO_nil ?_)
    skip
    all_goals (repeat' (first | refine K_seq ?_ | refine k_cond rfl ?_ | refine K_skip ?_ | refine K_exit ?_ | refine k_block ?_ | refine K_scope ?_ | refine K_label ?_ | (refine K_region (id := 2) ?_; (first | refine lB S rfl rfl ?_ | refine lES2 S rfl rfl ?_ | refine lEB S ?_ | refine lH S ?_); refine mv ?_; (refine one 1 S ?_; clear S; intro u h S))))
    refine app (y0 := n) S rfl rfl ?_; clear S; intro v1 h S; obtain ⟨v, rfl⟩ := S.sV v1; ((first | (refine sB S rfl rfl ?_; clear S; intro h S) | (refine sE2 S rfl rfl ?_; clear S; intro h S)); refine KO_nil ?_)
    all_goals (repeat' (first | refine K_seq ?_ | refine k_cond rfl ?_ | refine K_skip ?_ | refine K_exit ?_ | refine k_block ?_ | refine K_scope ?_ | refine K_label ?_ | (refine K_region (id := 3) ?_; (first | refine lB S rfl rfl ?_ | refine lES2 S rfl rfl ?_ | refine lEB S ?_ | refine lH S ?_); refine mv ?_)))
    (refine KO_fn rfl rfl rfl rfl rfl ((with_ok S.wf (B.ext w S.ext) H n 1).mono ?_); rintro u h ⟨l, x, l1, l2, l3⟩) <;> (replace S := S.join1 x; clear x; (first | refine lnB S ?_ | refine lnS S rfl rfl ?_); refine mv ?_; refine KO_nil ?_)
    all_goals (repeat' (first | refine K_seq ?_ | refine k_cond rfl ?_ | refine K_skip ?_ | refine K_exit ?_ | refine k_block ?_ | refine K_scope ?_ | refine K_label ?_))
    have S := (show Hs h0 h (.sl u 9 1 eS l :: (cirR p b4 b5 b1 b6 m (mPut mp n true) v (C ++ [n] ++ []) ++ rs)) from by
      rw [List.append_nil]
      replace S : Hs h0 h (.sl u 9 1 eS l :: .sl v.val 9 1 eS (C ++ [n]) :: .blk b4 [.map (some m)] 112 :: .mp m .bool (mPut mp n true) :: .blk b5 [v.val] 22 :: .blk b1 [.pointer (some ⟨p, 0, none⟩)] 40 :: .blk b6 [cvJ b4 b5 b1 b6] 113 :: rs) := S
      dsimp only [cirR, List.cons_append, List.nil_append]
      exact S.pick)
    refine k_loop (σ := Nat × List (List UInt8 × Bool) × SlV × List (List UInt8)) (fun (i, mp, v, N) h' => Hs h0 h' (.sl u 9 1 eS l :: (cirR p b4 b5 b1 b6 m mp v (C ++ [n] ++ N) ++ rs)) ∧ MetP mp (M ++ [n] ++ N) ∧ i ≤ l.length ∧ N.Nodup ∧ (∀ x ∈ N, x ∉ M ∧ x ≠ n ∧ gat r.us x ≠ none ∧ Rch r 1 n x ∧ ∀ y, adj r 1 x y → y ∈ M ∨ y = n ∨ y ∈ N) ∧ ∀ j, j < i → l.getD j default ∈ M ∨ l.getD j default = n ∨ l.getD j default ∈ N) (fun (i, mp, v, N) => l.length - i) (fun (i, mp, v, N) => [(4, .pointer (some ⟨b6, 0, none⟩)), (19, u), (20, .int .i64 l.length), (21, .int .i64 i)]) (0, mPut mp n true, v, []) (by repeat (first | exact Ks.le_nil _ | refine Ks.le_cons rfl ?_ | refine Ks.le_int ?_)) ?_ ?_
    · exact ⟨S, (by rw [List.append_nil]; exact hm'), Nat.zero_le _, by simp, by simp, fun j hj => absurd hj (Nat.not_lt_zero _)⟩
    clear S
    rintro ⟨i, mp, v, N⟩ h ⟨S, k1, k2, k3, k4, k5⟩
    dsimp only [cirR, List.cons_append, List.nil_append] at S
    all_goals (repeat' (first | refine K_seq ?_ | refine k_cond rfl ?_ | refine K_skip ?_ | refine K_exit ?_ | refine k_block ?_ | refine K_scope ?_ | refine K_label ?_ | (refine K_region (id := 4) ?_; (first | refine cT ?_ | refine cF ?_ | (refine cS ?_ ?_ <;> intro hc)) <;> (refine KO_nil ?_))))
    · all_goals (repeat' (first | refine K_seq ?_ | refine k_cond rfl ?_ | refine K_skip ?_ | refine K_exit ?_ | refine k_block ?_ | refine K_scope ?_ | refine K_label ?_ | (refine K_region (id := 5) ?_; (first | refine ixB S ?_ | refine ixS2 S rfl rfl ?_); (first | refine lB S rfl rfl ?_ | refine lES2 S rfl rfl ?_ | refine lEB S ?_ | refine lH S ?_); refine mv ?_; refine KO_nil ?_) | (refine K_region (id := 6) ?_; (first | refine lB S rfl rfl ?_ | refine lES2 S rfl rfl ?_ | refine lEB S ?_ | refine lH S ?_); refine mv ?_)))
      simp only [Int.toNat_natCast]
      have hf := (l2 _).1 (mem_getD (show i < l.length by omega))
      have hfk := (adj_known H hf).2.1
      have hz2 : unm r (M ++ [n] ++ N) ≤ unm r (M ++ [n]) := unm_mono fun x hx => List.mem_append.2 (.inl hx)
      have hC2 : (C ++ [n] ++ N).Nodup ∧ ∀ x ∈ C ++ [n] ++ N, x ∈ M ++ [n] ++ N ∧ gat r.us x ≠ none := by
        refine ⟨?_, fun x hx => ?_⟩
        · rw [List.nodup_append, List.nodup_append]
          refine ⟨⟨hC.1, by simp, fun a ha b hb e => ?_⟩, k3, fun a ha b hb e => ?_⟩
          · rw [List.mem_singleton] at hb
            subst e; subst hb; exact hM (hC.2 _ ha).1
          · subst e
            rcases List.mem_append.1 ha with q | q
            · exact (k4 a hb).1 (hC.2 a q).1
            · exact (k4 a hb).2.1 (List.mem_singleton.1 q)
        · simp only [List.mem_append, List.mem_singleton] at hx ⊢
          rcases hx with (q | q) | q
          · exact ⟨.inl (.inl (hC.2 x q).1), (hC.2 x q).2⟩
          · exact ⟨.inl (.inr q), q ▸ hn⟩
          · exact ⟨.inr q, (k4 x q).2.2.1⟩
      have S := (show Hs h0 h (cirR p b4 b5 b1 b6 m mp v (C ++ [n] ++ N) ++ (.sl u 9 1 eS l :: rs)) from by dsimp only [cirR, List.cons_append, List.nil_append]; exact S.pick)
      (refine KO_call rfl rfl rfl rfl ((ih (unm r (M ++ [n])) (by omega) (l.getD i default) S k1 hz2 hfk hC2).mono ?_); rintro _ h ⟨mp', v', N2, S, e1, D⟩) <;> (refine KO_nil ?_)
      all_goals (repeat' (first | refine K_seq ?_ | refine k_cond rfl ?_ | refine K_skip ?_ | refine K_exit ?_ | refine k_block ?_ | refine K_scope ?_ | refine K_label ?_ | (refine K_region (id := 7) ?_; (first | refine ad ?_ | refine vl ?_); refine mv ?_; refine KO_nil ?_)))
      refine ⟨(i + 1, mp', v', N ++ N2), ?_, ?_, (by repeat (first | exact Ks.le_nil _ | refine Ks.le_cons rfl ?_ | refine Ks.le_int ?_))⟩
      · show l.length - (i + 1) < l.length - i; omega
      · have key : ∀ x, x ∈ M ++ [n] ++ N → x ∈ M ∨ x = n ∨ x ∈ N := fun x hx => by
          simp only [List.mem_append, List.mem_singleton] at hx; grind
        have fin : ∀ y, (y ∈ M ++ [n] ++ N ∨ y ∈ N2) → y ∈ M ∨ y = n ∨ y ∈ N ++ N2 := fun y hy => by
          rw [List.mem_append]
          rcases hy with q | q
          · rcases key y q with q | q | q
            · exact .inl q
            · exact .inr (.inl q)
            · exact .inr (.inr (.inl q))
          · exact .inr (.inr (.inr q))
        refine ⟨?_, ?_, ?_, ?_, fun x hx => ?_, nxtD (fun j hj => ?_) ?_⟩
        · dsimp only [cirR, List.cons_append, List.nil_append] at S ⊢
          rw [← List.append_assoc]
          exact S.pick
        · rw [← List.append_assoc]; exact e1
        · (try dsimp only); omega
        · rw [List.nodup_append]
          exact ⟨k3, D.nd, fun a ha b hb e => by subst e; exact D.dj a hb (by simp [ha])⟩
        · rcases List.mem_append.1 hx with q | q
          · obtain ⟨a1, a2, a3, a4, a5⟩ := k4 x q
            refine ⟨a1, a2, a3, a4, fun y hy => ?_⟩
            rcases a5 y hy with q | q | q
            · exact .inl q
            · exact .inr (.inl q)
            · exact .inr (.inr (List.mem_append.2 (.inl q)))
          · have hd := D.dj x q
            simp only [List.mem_append, List.mem_singleton, not_or] at hd
            exact ⟨hd.1.1, hd.1.2, D.kn x q, (Rch.step .refl hf).trans (D.rc x q), fun y hy => fin y (D.cl x q y hy)⟩
        · rcases k5 j hj with q | q | q
          · exact .inl q
          · exact .inr (.inl q)
          · exact .inr (.inr (List.mem_append.2 (.inl q)))
        · exact fin _ D.self
    · obtain rfl : i = l.length := by omega
      refine ⟨_, rfl, ?_⟩
      refine ⟨mp, v, [n] ++ N, ?_, ?_, ⟨?_, fun x hx => ?_, .inr (by simp), fun x hx => ?_, fun x hx => ?_, fun x hx y hy => ?_⟩⟩
      · rw [← List.append_assoc]
        dsimp only [cirR, List.cons_append, List.nil_append]
        exact S.pick
      · rw [← List.append_assoc]; exact k1
      · rw [List.nodup_append]
        exact ⟨by simp, k3, fun a ha b hb e => by subst e; exact (k4 a hb).2.1 (List.mem_singleton.1 ha)⟩
      · rcases List.mem_append.1 hx with q | q
        · rw [List.mem_singleton.1 q]; exact hM
        · exact (k4 x q).1
      · rcases List.mem_append.1 hx with q | q
        · rw [List.mem_singleton.1 q]; exact hn
        · exact (k4 x q).2.2.1
      · rcases List.mem_append.1 hx with q | q
        · rw [List.mem_singleton.1 q]; exact .refl
        · exact (k4 x q).2.2.2.1
      · rw [List.mem_append, List.mem_singleton]
        rcases List.mem_append.1 hx with q | q
        · rw [List.mem_singleton.1 q] at hy
          obtain ⟨j, j1, j2⟩ := mem_iff_getD.1 ((l2 y).2 hy)
          have := k5 j j1
          rw [j2] at this
          rcases this with q | q | q
          · exact .inl q
          · exact .inr (.inl q)
          · exact .inr (.inr q)
        · rcases (k4 x q).2.2.2.2 y hy with q | q | q
          · exact .inl q
          · exact .inr (.inl q)
          · exact .inr (.inr q)
end Go.Proofs.Xx

/-
  Circles, all of them.
-/
namespace Go.Proofs.Xx
open Go Go.Proofs
set_option linter.unusedSimpArgs false
set_option linter.unusedVariables false
set_option linter.unusedSectionVars false
set_option maxRecDepth 100000
set_option maxHeartbeats 4000000

/-- Words of a row of rows. -/
structure Wd where
  sv : SlV
  ws : List (List UInt8)
instance : Inhabited Wd := ⟨⟨⟨none, 0, 0⟩, []⟩⟩
def eWd (w : Wd) : List Value := [w.sv.val]
def WdsOk (cs : List Wd) (h : AH) (fp : Fp) : Prop := ∀ w ∈ cs, (Rs.rd w.sv.val 1 eS w.ws).ok h fp
abbrev wdR (cs : List Wd) : Rs := .any (WdsOk cs)
theorem Hs.wdApp {h0 h : AH} {rs : List Rs} {cs : List Wd} {g : Wd} {e : TypeId} (S : Hs h0 h (.sl g.sv.val e 1 eS g.ws :: wdR cs :: rs)) : Hs h0 h (wdR (cs ++ [g]) :: rs) := by
  obtain ⟨f1, k1, k2, f2, k3, k4, k5⟩ := S.sep
  refine ⟨S.ext, fun b => f1 b ∨ f2 b, fun h' q g' hg => ?_, fun b hb => ?_, k5.mono fun b hb => ⟨trivial, fun q => ?_⟩⟩
  · rcases List.mem_append.1 hg with hg | hg
    · exact rd_mono (k3 h' (fun b hb => q b (.inr hb)) g' hg) fun b hb => .inr hb
    · obtain rfl := List.mem_singleton.1 hg
      exact rd_mono (sl_rd (k1.local fun b hb => q b (.inl hb))) fun b hb => .inl hb
  · rcases hb with hb | hb
    · exact k2 b hb
    · exact ⟨(k4 b hb).1, (k4 b hb).2.1, trivial⟩
  · rcases q with q | q
    · exact hb.1.2 q
    · exact hb.2 q
theorem WdsOk.rd {h : AH} {fp : Fp} {cs : List Wd} (k : WdsOk cs h fp) {i : Nat} (hi : i < cs.length) : RdL h (cs.getD i default).sv.val 1 eS (cs.getD i default).ws := by
  have q := k _ (mem_getD hi)
  rcases q with ⟨q1, q2⟩ | ⟨b, o, cap, cc, e, s, r, q1, q2, q3, q4⟩
  · exact .inl ⟨q1, by rw [q2]; rfl, by rw [q2]; rfl⟩
  · exact .inr ⟨b, o, cap, cc, e, s, r, q1, q2, q4⟩
/-- The circles, in order. -/
structure CirOk (r : Rl) (L : List Wd) : Prop where
  ss : ∀ w ∈ L, SS w.ws ∧ w.ws ≠ [] ∧ ∀ x, x ∈ w.ws ↔ (gat r.us (w.ws.getD 0 default) ≠ none ∧ Rch r 1 (w.ws.getD 0 default) x)
  hd : ∀ i j, i < j → j < L.length → sLt ((L.getD i default).ws.getD 0 default) ((L.getD j default).ws.getD 0 default)
theorem Rch.known {r : Rl} (H : RO r) {k : Int} {n x : List UInt8} (h : Rch r k n x) (hn : gat r.us n ≠ none) : gat r.us x ≠ none := by
  induction h with
  | refl => exact hn
  | step h a ih => exact (adj_known H a).2.1
theorem Rch.closed {r : Rl} {k : Int} {n x : List UInt8} {M : List UInt8 → Prop} (h : Rch r k n x) (hn : M n) (hc : ∀ x, M x → ∀ y, adj r k x y → M y) : M x := by
  induction h with
  | refl => exact hn
  | step h a ih => exact hc _ ih _ a
theorem SS.le {l : List (List UInt8)} (h : SS l) {i j : Nat} (hij : i ≤ j) (hj : j < l.length) : ¬ sLt (l.getD j default) (l.getD i default) := by
  rcases Nat.lt_or_ge i j with q | q
  · exact sLt_asymm (h i j q hj)
  · obtain rfl : i = j := by omega
    exact sLt_irr _
abbrev cirS (p b4 b5 b1 b6 m : Nat) (mp : List (List UInt8 × Bool)) (vc : SlV) (u : Value) (ns : List (List UInt8)) (v3 : Value) (cs : List Wd) : List Rs :=
  [.sl u 9 1 eS ns, .blk b4 [.map (some m)] 112, .mp m .bool mp, .blk b5 [vc.val] 22, .blk b1 [.pointer (some ⟨p, 0, none⟩)] 40, .blk b6 [cvJ b4 b5 b1 b6] 113, .sl v3 22 1 eWd cs, wdR cs]
/-- What holds while the names are gone through. -/
structure CirI (r : Rl) (ns : List (List UInt8)) (i : Nat) (M : List (List UInt8)) (cs : List Wd) : Prop where
  mem : ∀ x, x ∈ M ↔ ∃ w ∈ cs, x ∈ w.ws
  cl : ∀ x ∈ M, ∀ y, adj r 1 x y → y ∈ M
  nm : ∀ j, j < i → ns.getD j default ∈ M
  ok : CirOk r cs
  hd : ∀ j, j < cs.length → ∃ k, k < i ∧ (cs.getD j default).ws.getD 0 default = ns.getD k default
  ln : cs.length ≤ i
theorem CirI.next {r : Rl} (H : RO r) {ns : List (List UInt8)} (hs : SS ns) (hns : ∀ x, x ∈ ns ↔ gat r.us x ≠ none) {i : Nat} (hi : i < ns.length) {M N N' : List (List UInt8)} {cs : List Wd} {v : SlV} (I : CirI r ns i M cs) (D : Dfs r M (ns.getD i default) N) (hn : ns.getD i default ∉ M) (hS : SS N') (hN : ∀ x, x ∈ N' ↔ x ∈ N) : CirI r ns (i + 1) (M ++ N) (cs ++ [⟨v, N'⟩]) := by
  have hk : gat r.us (ns.getD i default) ≠ none := (hns _).1 (mem_getD hi)
  have hself : ns.getD i default ∈ N := D.self.elim (fun q => absurd q hn) id
  have hcomp : ∀ x, Rch r 1 (ns.getD i default) x → x ∈ N := fun x hx => by
    have : x ∈ M ∨ x ∈ N := hx.closed (M := fun x => x ∈ M ∨ x ∈ N) (.inr hself) fun x h y a => by
      rcases h with h | h
      · exact .inl (I.cl x h y a)
      · exact D.cl x h y a
    rcases this with q | q
    · exact absurd (hx.symm.closed (M := fun x => x ∈ M) q I.cl) hn
    · exact q
  have hlen : 0 < N'.length := List.length_pos_of_mem ((hN _).2 hself)
  have h0 : N'.getD 0 default = ns.getD i default := by
    obtain ⟨j, j1, j2⟩ := mem_iff_getD.1 ((hN _).2 hself)
    have le1 := hS.le (Nat.zero_le j) j1
    rw [j2] at le1
    have hm0 := (hN _).1 (mem_getD hlen)
    obtain ⟨k, k1, k2⟩ := mem_iff_getD.1 ((hns _).2 (D.kn _ hm0))
    have hki : i ≤ k := by
      apply Classical.byContradiction
      intro q
      exact D.dj _ hm0 (k2 ▸ I.nm k (by omega))
    have le2 := hs.le hki k1
    rw [k2] at le2
    rcases sLe_of le1 with q | q
    · exact q
    · exact absurd q le2
  refine ⟨fun x => ?_, fun x hx y a => ?_, nxtD (fun j hj => List.mem_append.2 (.inl (I.nm j hj))) (List.mem_append.2 (.inr hself)), ⟨fun w hw => ?_, fun j k hjk hk2 => ?_⟩, fun j hj => ?_, by simp; exact I.ln⟩
  · rw [List.mem_append, I.mem]
    constructor
    · rintro (⟨w, h1, h2⟩ | h)
      · exact ⟨w, by simp [h1], h2⟩
      · exact ⟨⟨v, N'⟩, by simp, (hN x).2 h⟩
    · rintro ⟨w, h1, h2⟩
      rcases List.mem_append.1 h1 with q | q
      · exact .inl ⟨w, q, h2⟩
      · rw [List.mem_singleton.1 q] at h2; exact .inr ((hN x).1 h2)
  · rw [List.mem_append] at hx ⊢
    rcases hx with q | q
    · exact .inl (I.cl x q y a)
    · exact D.cl x q y a
  · rcases List.mem_append.1 hw with q | q
    · exact I.ok.ss w q
    · rw [List.mem_singleton.1 q]
      refine ⟨hS, fun e => ?_, fun x => ?_⟩
      · simp only at e; rw [e] at hlen; exact absurd hlen (by simp)
      · simp only [h0, hN]
        exact ⟨fun h => ⟨hk, D.rc x h⟩, fun h => hcomp x h.2⟩
  · simp only [List.length_append, List.length_singleton] at hk2
    rw [gA1 (show j < cs.length by omega)]
    rcases Nat.lt_or_ge k cs.length with q | q
    · rw [gA1 q]; exact I.ok.hd j k hjk q
    · rw [gA2 q, show k - cs.length = 0 by omega]
      show sLt _ (N'.getD 0 default)
      rw [h0]
      obtain ⟨z, z1, z2⟩ := I.hd j (by omega)
      rw [z2]; exact hs z i z1 hi
  · simp only [List.length_append, List.length_singleton] at hj
    rcases Nat.lt_or_ge j cs.length with q | q
    · obtain ⟨z, z1, z2⟩ := I.hd j q
      exact ⟨z, by omega, by rw [gA1 q]; exact z2⟩
    · rw [gA2 q, show j - cs.length = 0 by omega]
      exact ⟨i, by omega, h0⟩
variable [Flag]
theorem circles_ok {h0 : AH} (w : WfH h0) {p : Nat} {r : Rl} (B : BkRd h0 p r) (H : RO r) : Fn Tryz.prog Xh 25 [.pointer (some ⟨p, 0, none⟩)] h0 (fun u h' => ∃ cs, Hs h0 h' [.sl u 22 1 eWd cs, wdR cs] ∧ CirOk r cs ∧ (∀ x, gat r.us x ≠ none → ∃ w ∈ cs, x ∈ w.ws) ∧ cs.length ≤ 64) := by
  have S := Hs.start w
  have B0 := B
  obtain ⟨s, B⟩ := B
  have hb := B.bk
  have h64 := H.l64
  refine Fn_K rfl Tryz.func25 rfl rfl ?_
  all_goals (repeat' (first | refine K_seq ?_ | refine k_cond rfl ?_ | refine K_skip ?_ | refine K_exit ?_ | refine k_block ?_ | refine K_scope ?_ | refine K_label ?_ | (refine K_region (id := 0) ?_; (refine bx S ?_; clear S; intro b h S); refine mv ?_; refine KO_nil ?_) | (refine K_region (id := 1) ?_; (first | refine lB S rfl rfl ?_ | refine lES2 S rfl rfl ?_ | refine lEB S ?_ | refine lH S ?_))))
  (refine KO_fn rfl rfl rfl rfl rfl ((bnone_ok S.wf (S.ext.get w hb)).mono ?_); rintro _ h ⟨rfl, x⟩) <;> (replace S := S.join0 x; clear x; refine KO_nil ?_)
  obtain ⟨b1, hnm⟩ : ∃ x, x = b := ⟨_, rfl⟩; subst hnm
  all_goals (repeat' (first | refine K_seq ?_ | refine k_cond rfl ?_ | refine K_skip ?_ | refine K_exit ?_ | refine k_block ?_ | refine K_scope ?_ | refine K_label ?_ | (refine K_region (id := 2) ?_; refine mv ?_; refine KO_nil ?_) | (refine K_region (id := 3) ?_; refine mv ?_; refine KO_nil ?_)))
  (repeat (refine K_seq ?_)); refine K_region (id := 4) ?_
  refine mkm (α := Bool) .bool S ?_; clear S; intro m h S; ((refine al S ?_; clear S; intro b h S); (first | (refine sB S rfl rfl ?_; clear S; intro h S) | (refine sE2 S rfl rfl ?_; clear S; intro h S)); refine KO_nil ?_)
  obtain ⟨b4, hnm⟩ : ∃ x, x = b := ⟨_, rfl⟩; subst hnm
  all_goals (repeat' (first | refine K_seq ?_ | refine k_cond rfl ?_ | refine K_skip ?_ | refine K_exit ?_ | refine k_block ?_ | refine K_scope ?_ | refine K_label ?_ | (refine K_region (id := 5) ?_; (refine al S ?_; clear S; intro b h S); refine KO_nil ?_)))
  obtain ⟨b5, hnm⟩ : ∃ x, x = b := ⟨_, rfl⟩; subst hnm
  all_goals (repeat' (first | refine K_seq ?_ | refine k_cond rfl ?_ | refine K_skip ?_ | refine K_exit ?_ | refine k_block ?_ | refine K_scope ?_ | refine K_label ?_ | (refine K_region (id := 6) ?_; (refine al S ?_; clear S; intro b h S); refine KO_nil ?_)))
  obtain ⟨b6, hnm⟩ : ∃ x, x = b := ⟨_, rfl⟩; subst hnm
  all_goals (repeat' (first | refine K_seq ?_ | refine k_cond rfl ?_ | refine K_skip ?_ | refine K_exit ?_ | refine k_block ?_ | refine K_scope ?_ | refine K_label ?_ | (refine K_region (id := 7) ?_; refine vl ?_; (first | (refine sB S rfl rfl ?_; clear S; intro h S) | (refine sE2 S rfl rfl ?_; clear S; intro h S)); refine KO_nil ?_)))
  all_goals (repeat' (first | refine K_seq ?_ | refine k_cond rfl ?_ | refine K_skip ?_ | refine K_exit ?_ | refine k_block ?_ | refine K_scope ?_ | refine K_label ?_ | (refine K_region (id := 8) ?_; (first | refine lB S rfl rfl ?_ | refine lES2 S rfl rfl ?_ | refine lEB S ?_ | refine lH S ?_))))
  (refine KO_fn rfl rfl rfl rfl rfl ((bnames_ok S.wf (B0.ext w S.ext) H).mono ?_); rintro un h ⟨ns, x, n1, n2, n3⟩) <;> (replace S := S.join1 x; clear x; (first | refine lnB S ?_ | refine lnS S rfl rfl ?_); refine mv ?_; refine KO_nil ?_)
  all_goals (repeat' (first | refine K_seq ?_ | refine k_cond rfl ?_ | refine K_skip ?_ | refine K_exit ?_ | refine k_block ?_ | refine K_scope ?_ | refine K_label ?_ | (refine K_region (id := 2) ?_; refine mv ?_; refine KO_nil ?_) | (refine K_region (id := 3) ?_; refine mv ?_; refine KO_nil ?_) | (refine K_region (id := 4) ?_; skip) | (refine K_region (id := 5) ?_; (refine al S ?_; clear S; intro b h S); refine KO_nil ?_) | (refine K_region (id := 6) ?_; (refine al S ?_; clear S; intro b h S); refine KO_nil ?_) | (refine K_region (id := 7) ?_; refine vl ?_; (first | (refine sB S rfl rfl ?_; clear S; intro h S) | (refine sE2 S rfl rfl ?_; clear S; intro h S)); refine KO_nil ?_) | (refine K_region (id := 8) ?_; (first | refine lB S rfl rfl ?_ | refine lES2 S rfl rfl ?_ | refine lEB S ?_ | refine lH S ?_))))
  have S := (S.nilS (e := 22) (z := 1) (enc := eWd)).anyS (p := WdsOk []) fun h' g hg => by cases hg
  replace S : Hs h0 h (wdR [] :: .sl (.slice none 0 0) 22 1 eWd [] :: .sl un 9 1 eS ns :: .blk b6 [cvJ b4 b5 b1 b6] 113 :: .blk b5 [SlV.val ⟨none, 0, 0⟩] 22 :: .blk b4 [.map (some m)] 112 :: .mp m .bool [] :: .blk b1 [.pointer (some ⟨p, 0, none⟩)] 40 :: []) := S
  have S := (show Hs h0 h (cirS p b4 b5 b1 b6 m [] ⟨none, 0, 0⟩ un ns (.slice none 0 0) []) from S.pick)
  refine k_loop (σ := Nat × List (List UInt8 × Bool) × SlV × List (List UInt8) × List Wd × Value) (fun (i, mp, vc, M, cs, v3) h' => Hs h0 h' (cirS p b4 b5 b1 b6 m mp vc un ns v3 cs) ∧ MetP mp M ∧ i ≤ ns.length ∧ CirI r ns i M cs) (fun (i, mp, vc, M, cs, v3) => ns.length - i) (fun (i, mp, vc, M, cs, v3) => [(3, v3), (5, .pointer (some ⟨b5, 0, none⟩)), (6, .pointer (some ⟨b6, 0, none⟩)), (14, un), (15, .int .i64 ns.length), (16, .int .i64 i)]) (0, [], ⟨none, 0, 0⟩, [], [], .slice none 0 0) (by repeat (first | exact Ks.le_nil _ | refine Ks.le_cons rfl ?_ | refine Ks.le_int ?_)) ?_ ?_
  · refine ⟨S, fun x => by simp [mGet, mIdx], Nat.zero_le _, ⟨by simp, by simp, by simp, ⟨by simp, by simp⟩, by simp, by simp⟩⟩
  clear S
  rintro ⟨i, mp, vc, M, cs, v3⟩ h ⟨S, k1, k2, k3⟩
  all_goals (repeat' (first | refine K_seq ?_ | refine k_cond rfl ?_ | refine K_skip ?_ | refine K_exit ?_ | refine k_block ?_ | refine K_scope ?_ | refine K_label ?_ | (refine K_region (id := 9) ?_; (first | refine cT ?_ | refine cF ?_ | (refine cS ?_ ?_ <;> intro hc)) <;> (refine KO_nil ?_))))
  · all_goals (repeat' (first | refine K_seq ?_ | refine k_cond rfl ?_ | refine K_skip ?_ | refine K_exit ?_ | refine k_block ?_ | refine K_scope ?_ | refine K_label ?_ | (refine K_region (id := 10) ?_; (first | refine ixB S ?_ | refine ixS2 S rfl rfl ?_); (first | refine lB S rfl rfl ?_ | refine lES2 S rfl rfl ?_ | refine lEB S ?_ | refine lH S ?_); refine mv ?_; refine KO_nil ?_) | (refine K_region (id := 11) ?_; (first | (refine sB S rfl rfl ?_; clear S; intro h S) | (refine sE2 S rfl rfl ?_; clear S; intro h S)); refine KO_nil ?_) | (refine K_region (id := 12) ?_; (first | refine lB S rfl rfl ?_ | refine lES2 S rfl rfl ?_ | refine lEB S ?_ | refine lH S ?_); refine mv ?_)))
    simp only [Int.toNat_natCast]
    have hk : gat r.us (ns.getD i default) ≠ none := (n2 _).1 (mem_getD (by omega))
    have hnl : i < ns.length := by omega
    have S := S.nilS (e := 9) (z := 1) (enc := eS)
    replace S : Hs h0 h (.sl (SlV.val ⟨none, 0, 0⟩) 9 1 eS [] :: .sl un 9 1 eS ns :: .blk b4 [.map (some m)] 112 :: .mp m .bool mp :: .blk b5 [SlV.val ⟨none, 0, 0⟩] 22 :: .blk b1 [.pointer (some ⟨p, 0, none⟩)] 40 :: .blk b6 [cvJ b4 b5 b1 b6] 113 :: .sl v3 22 1 eWd cs :: wdR cs :: []) := S
    have S := (show Hs h0 h (cirR p b4 b5 b1 b6 m mp ⟨none, 0, 0⟩ [] ++ (.sl un 9 1 eS ns :: .sl v3 22 1 eWd cs :: wdR cs :: [])) from by dsimp only [cirR, List.cons_append, List.nil_append]; exact S.pick)
    have hC : ([] : List (List UInt8)).Nodup ∧ ∀ x ∈ ([] : List (List UInt8)), x ∈ M ∧ gat r.us x ≠ none := ⟨by simp, by simp⟩
    (refine KO_call rfl rfl rfl rfl ((join_ok w B0 H (unm r M) (ns.getD i default) S k1 (Nat.le_refl _) hk hC).mono ?_); rintro _ h ⟨mp', v', N, S, e1, D⟩) <;> (refine KO_nil ?_)
    rw [List.nil_append] at S
    dsimp only [cirR, List.cons_append, List.nil_append] at S
    have hnM : 0 < N.length → ns.getD i default ∉ M := fun hl q => D.dj _ (mem_getD hl) ((D.rc _ (mem_getD hl)).closed (M := fun x => x ∈ M) q k3.cl)
    have hN64 := nodup_leM D.nd (m := r.us.map (·.name)) fun x hx => gat_name (D.kn x hx)
    rw [List.length_map] at hN64
    all_goals (repeat' (first | refine K_seq ?_ | refine k_cond rfl ?_ | refine K_skip ?_ | refine K_exit ?_ | refine k_block ?_ | refine K_scope ?_ | refine K_label ?_ | (refine K_region (id := 13) ?_; (first | refine lB S rfl rfl ?_ | refine lES2 S rfl rfl ?_ | refine lEB S ?_ | refine lH S ?_); (first | refine lnB S ?_ | refine lnS S rfl rfl ?_); (first | refine cT ?_ | refine cF ?_ | (refine cS ?_ ?_ <;> intro hc)) <;> (refine KO_nil ?_))))
    · all_goals (repeat' (first | refine K_seq ?_ | refine k_cond rfl ?_ | refine K_skip ?_ | refine K_exit ?_ | refine k_block ?_ | refine K_scope ?_ | refine K_label ?_ | (refine K_region (id := 14) ?_; (first | refine lB S rfl rfl ?_ | refine lES2 S rfl rfl ?_ | refine lEB S ?_ | refine lH S ?_))))
      have S := (show Hs h0 h (.sl v'.val 9 1 eS N :: .blk b4 [.map (some m)] 112 :: .mp m .bool mp' :: .blk b5 [v'.val] 22 :: .blk b1 [.pointer (some ⟨p, 0, none⟩)] 40 :: .blk b6 [cvJ b4 b5 b1 b6] 113 :: .sl un 9 1 eS ns :: .sl v3 22 1 eWd cs :: wdR cs :: []) from S.pick)
      (refine KO_fn rfl rfl rfl rfl rfl ((sort_o S (by omega)).mono ?_); rintro _ h ⟨N', z1, z2, S⟩) <;> (refine KO_nil ?_)
      all_goals (repeat' (first | refine K_seq ?_ | refine k_cond rfl ?_ | refine K_skip ?_ | refine K_exit ?_ | refine k_block ?_ | refine K_scope ?_ | refine K_label ?_ | (refine K_region (id := 15) ?_; refine mv ?_; (first | refine lB S rfl rfl ?_ | refine lES2 S rfl rfl ?_ | refine lEB S ?_ | refine lH S ?_); (refine one 1 S ?_; clear S; intro u h S))))
      have hcl := k3.ln
      refine app (y0 := ⟨v', N'⟩) S rfl rfl ?_; clear S; intro v h S; (refine mv ?_; refine KO_nil ?_)
      all_goals (repeat' (first | refine K_seq ?_ | refine k_cond rfl ?_ | refine K_skip ?_ | refine K_exit ?_ | refine k_block ?_ | refine K_scope ?_ | refine K_label ?_ | (refine K_region (id := 16) ?_; (first | refine ad ?_ | refine vl ?_); refine mv ?_; refine KO_nil ?_)))
      refine ⟨(i + 1, mp', v', M ++ N, cs ++ [⟨v', N'⟩], v), ?_, ?_, (by repeat (first | exact Ks.le_nil _ | refine Ks.le_cons rfl ?_ | refine Ks.le_int ?_))⟩
      · show ns.length - (i + 1) < ns.length - i; omega
      · have hl0 : 0 < N.length := by omega
        have S := (show Hs h0 h (.sl v'.val 9 1 eS N' :: wdR cs :: .sl un 9 1 eS ns :: .blk b4 [.map (some m)] 112 :: .mp m .bool mp' :: .blk b5 [v'.val] 22 :: .blk b1 [.pointer (some ⟨p, 0, none⟩)] 40 :: .blk b6 [cvJ b4 b5 b1 b6] 113 :: .sl v 22 1 eWd (cs ++ [⟨v', N'⟩]) :: []) from S.pick)
        have S := Hs.wdApp (g := ⟨v', N'⟩) S
        exact ⟨(show Hs h0 h (cirS p b4 b5 b1 b6 m mp' v' un ns v (cs ++ [⟨v', N'⟩])) from S.pick), e1, hnl, k3.next H n1 n2 hnl D (hnM hl0) (SS.of z1 z2 D.nd) fun x => z1.perm.mem_iff⟩
    · have hl0 : N = [] := by cases N with | nil => rfl | cons x l => simp at hc
      subst hl0
      all_goals (repeat' (first | refine K_seq ?_ | refine k_cond rfl ?_ | refine K_skip ?_ | refine K_exit ?_ | refine k_block ?_ | refine K_scope ?_ | refine K_label ?_ | (refine K_region (id := 16) ?_; (first | refine ad ?_ | refine vl ?_); refine mv ?_; refine KO_nil ?_)))
      refine ⟨(i + 1, mp', v', M, cs, v3), ?_, ?_, (by repeat (first | exact Ks.le_nil _ | refine Ks.le_cons rfl ?_ | refine Ks.le_int ?_))⟩
      · show ns.length - (i + 1) < ns.length - i; omega
      · rw [List.append_nil] at e1
        exact ⟨(show Hs h0 h (cirS p b4 b5 b1 b6 m mp' v' un ns v3 cs) from S.pick), e1, hnl, ⟨k3.mem, k3.cl, nxtD k3.nm (D.self.elim id (fun q => by cases q)), k3.ok, fun j hj => let ⟨z, z1, z2⟩ := k3.hd j hj; ⟨z, by omega, z2⟩, (by have := k3.ln; show cs.length ≤ i + 1; omega)⟩⟩
  · obtain rfl : i = ns.length := by omega
    skip
    all_goals (repeat' (first | refine K_seq ?_ | refine k_cond rfl ?_ | refine K_skip ?_ | refine K_exit ?_ | refine k_block ?_ | refine K_scope ?_ | refine K_label ?_ | (refine K_region (id := 17) ?_; refine mv ?_; refine mv ?_; refine KO_nil ?_)))
    refine K_ret ⟨_, rfl, ?_⟩
    dsimp only [cirS] at S
    refine ⟨cs, (show Hs h0 h [.sl v3 22 1 eWd cs, wdR cs] from S.pick), k3.ok, fun x hx => ?_, by have := k3.ln; omega⟩
    obtain ⟨j, j1, j2⟩ := mem_iff_getD.1 ((n2 x).2 hx)
    have := k3.nm j j1
    rw [j2] at this
    exact (k3.mem x).1 this
end Go.Proofs.Xx
