/-
  Quicksort.
-/
import Derived.Test.YtidmdnenlgjpeaaGreatDoorM11
import Derived.Test.YtidmdnenlgjpeaaGreatDoorM10

namespace Go.Proofs.Xx
open Go Go.Proofs
set_option linter.unusedSimpArgs false
set_option linter.unusedVariables false
set_option linter.unusedSectionVars false
set_option maxRecDepth 100000

variable [Flag]
theorem pdq_o {h0 : AH} {v : Value} : ∀ (n : Nat) {h : AH} {rs : List Rs} {l : List (List UInt8)} (a b lim : Nat) (S : Hs h0 h (.sl v 9 1 eS l :: rs)) (hn : b - a = n) (hab : a ≤ b) (hb : b ≤ l.length) (hl : l.length ≤ 1000000) (hbig : b - a < 250) (hlim : lim ≤ 1000) (hlow : 0 < a → ∀ k, a ≤ k → k < b → ¬ sLt (l.getD k default) (l.getD (a - 1) default)),
    Fn Tryz.prog Xh 125 [v, .int .i64 a, .int .i64 b, .int .i64 lim] h (fun _ h' => ∃ l', Sw a b l l' ∧ Srt sLt a b l' ∧ Hs h0 h' (.sl v 9 1 eS l' :: rs)) := by
  intro n
  induction n using Nat.strongRecOn with
  | _ n ih =>
  intro h rs l a b lim S hn hab hb hl hbig hlim hlow
  have W : WOrd sLt := sLt_ord
  refine Fn_K rfl Tryz.func125 rfl rfl ?_
  all_goals (repeat' (first | refine K_seq ?_ | refine k_cond rfl ?_ | refine K_skip ?_ | refine K_exit ?_ | refine k_block ?_ | refine K_scope ?_ | refine K_label ?_ | (refine K_region (id := 0) ?_; refine mv ?_; refine KO_nil ?_) | (refine K_region (id := 1) ?_; refine mv ?_; refine KO_nil ?_)))
  refine k_loop (σ := Nat × Nat × Nat × Bool × Bool × List (List UInt8)) (fun (a1, b1, lim, wb, wp, m) h' => Hs h0 h' (.sl v 9 1 eS m :: rs) ∧ (a ≤ a1 ∧ a1 ≤ b1 ∧ b1 ≤ b) ∧ lim ≤ 1000 ∧ Sw a b l m ∧ DoneI sLt a b a1 b1 m) (fun (a1, b1, lim, wb, wp, m) => b1 - a1) (fun (a1, b1, lim, wb, wp, m) => [(0, v), (1, .int .i64 a1), (2, .int .i64 b1), (3, .int .i64 lim), (8, .bool wb), (9, .bool wp)]) (a, b, lim, true, true, l) (by repeat (first | exact Ks.le_nil _ | refine Ks.le_cons rfl ?_ | refine Ks.le_int ?_)) ?_ ?_
  · exact ⟨S, by omega, hlim, .refl _, .start⟩
  clear S hlim
  rintro ⟨a1, b1, lim, wb, wp, m⟩ h ⟨S, h1, hlim, h2, D⟩
  have hml := h2.len
  skip
  have low : ∀ m', Sw a1 b1 m m' → 0 < a1 → ∀ k, a1 ≤ k → k < b1 → ¬ sLt (m'.getD k default) (m'.getD (a1 - 1) default) := fun m' s q1 k q2 q3 => by
    rcases Nat.lt_or_ge a a1 with q | q
    · exact (D.sw s h1.1 h1.2.2).low q h1.2.2 k q2 q3
    · obtain rfl : a = a1 := by omega
      have s2 := h2.trans (s.mono (Nat.le_refl _) h1.2.2 (by omega))
      rw [s2.out (k := a - 1) (.inl (by omega))]
      exact s2.all (p := fun y => ¬ sLt y (l.getD (a - 1) default)) (hlow q1) k q2 (by omega)
  have e0 : (b1 : Int) - (a1 : Int) = ((b1 - a1 : Nat) : Int) := by omega
  refine k_block ?_
  (repeat (refine K_seq ?_)); refine K_region (id := 2) ?_; refine mv ?_; refine mv ?_; (first | refine sb ?_ | refine vl ?_); refine mv ?_; refine KO_nil ?_
  simp only [e0]
  (repeat (refine K_seq ?_)); refine K_region (id := 3) ?_; refine mv ?_; (first | refine cT ?_ | refine cF ?_ | (refine cS ?_ ?_ <;> intro hc)) <;> (refine KO_nil ?_)
  · refine k_cond rfl ?_
    all_goals (repeat' (first | refine K_seq ?_ | refine k_cond rfl ?_ | refine K_skip ?_ | refine K_exit ?_ | refine k_block ?_ | refine K_scope ?_ | refine K_label ?_ | (refine K_region (id := 4) ?_; refine mv ?_; refine mv ?_; refine mv ?_; skip)))
    (refine KO_fn rfl rfl rfl rfl rfl ((ins_o a1 b1 S h1.2.1 (by omega) (by omega)).mono ?_); rintro _ h ⟨l2, g1, g2, S2⟩) <;> (replace S := S2; clear S2; refine KO_nil ?_)
    all_goals (repeat' (first | refine K_seq ?_ | refine k_cond rfl ?_ | refine K_skip ?_ | refine K_exit ?_ | refine k_block ?_ | refine K_scope ?_ | refine K_label ?_ | (refine K_region (id := 2) ?_; refine mv ?_; refine mv ?_; (first | refine sb ?_ | refine vl ?_); refine mv ?_; refine KO_nil ?_) | (refine K_region (id := 3) ?_; refine mv ?_; (first | refine cT ?_ | refine cF ?_ | (refine cS ?_ ?_ <;> intro hc)) <;> (refine KO_nil ?_)) | (refine K_region (id := 4) ?_; refine mv ?_; refine mv ?_; refine mv ?_; skip) | (refine K_region (id := 5) ?_; refine mv ?_; (first | refine cT ?_ | refine cF ?_ | (refine cS ?_ ?_ <;> intro hc)) <;> (refine KO_nil ?_)) | (refine K_region (id := 6) ?_; refine mv ?_; refine mv ?_; refine mv ?_; skip) | (refine K_region (id := 7) ?_; refine mv ?_; refine vl ?_; refine KO_nil ?_) | (refine K_region (id := 8) ?_; refine mv ?_; refine mv ?_; refine mv ?_; skip) | (refine K_region (id := 10) ?_; refine mv ?_; refine mv ?_; refine mv ?_; skip)))
    refine K_ret ⟨_, rfl, ?_⟩
    exact ⟨l2, h2.trans (g1.mono h1.1 h1.2.2 (by omega)), (D.sw g1 h1.1 h1.2.2).finish g2, S⟩
  have hbig2 : 12 < b1 - a1 ∧ b1 - a1 < 250 := by omega
  refine k_cond rfl ?_; refine K_skip ?_
  (repeat (refine K_seq ?_)); refine K_region (id := 5) ?_; refine mv ?_; (first | refine cT ?_ | refine cF ?_ | (refine cS ?_ ?_ <;> intro hc)) <;> (refine KO_nil ?_)
  · refine k_cond rfl ?_
    all_goals (repeat' (first | refine K_seq ?_ | refine k_cond rfl ?_ | refine K_skip ?_ | refine K_exit ?_ | refine k_block ?_ | refine K_scope ?_ | refine K_label ?_ | (refine K_region (id := 6) ?_; refine mv ?_; refine mv ?_; refine mv ?_; skip)))
    (refine KO_fn rfl rfl rfl rfl rfl ((heap_o a1 b1 S (by omega) (by omega) (by omega)).mono ?_); rintro _ h ⟨l2, g1, g2, S2⟩) <;> (replace S := S2; clear S2; refine KO_nil ?_)
    all_goals (repeat' (first | refine K_seq ?_ | refine k_cond rfl ?_ | refine K_skip ?_ | refine K_exit ?_ | refine k_block ?_ | refine K_scope ?_ | refine K_label ?_ | (refine K_region (id := 6) ?_; refine mv ?_; refine mv ?_; refine mv ?_; skip) | (refine K_region (id := 7) ?_; refine mv ?_; refine vl ?_; refine KO_nil ?_) | (refine K_region (id := 8) ?_; refine mv ?_; refine mv ?_; refine mv ?_; skip) | (refine K_region (id := 10) ?_; refine mv ?_; refine mv ?_; refine mv ?_; skip)))
    refine K_ret ⟨_, rfl, ?_⟩
    exact ⟨l2, h2.trans (g1.mono h1.1 h1.2.2 (by omega)), (D.sw g1 h1.1 h1.2.2).finish g2, S⟩
  refine k_cond rfl ?_; refine K_skip ?_
  refine K_cut (σ := Nat × List (List UInt8)) (fun (lim, m2) h' => Hs h0 h' (.sl v 9 1 eS m2 :: rs) ∧ lim ≤ 1000 ∧ Sw a1 b1 m m2) (fun (lim, m2) => [(0, v), (1, .int .i64 a1), (2, .int .i64 b1), (3, .int .i64 lim), (8, .bool wb), (9, .bool wp), (10, .int .i64 (b1 - a1 : Nat))]) ?_ ?_
  · cases wb
    · all_goals (repeat' (first | refine K_seq ?_ | refine k_cond rfl ?_ | refine K_skip ?_ | refine K_exit ?_ | refine k_block ?_ | refine K_scope ?_ | refine K_label ?_ | (refine K_region (id := 7) ?_; refine mv ?_; refine vl ?_; refine KO_nil ?_) | (refine K_region (id := 8) ?_; refine mv ?_; refine mv ?_; refine mv ?_; skip)))
      (refine KO_fn rfl rfl rfl rfl rfl ((brk_o a1 b1 S hbig2 (by omega) (by omega)).mono ?_); rintro _ h ⟨l2, g1, S2⟩) <;> (replace S := S2; clear S2; refine KO_nil ?_)
      all_goals (repeat' (first | refine K_seq ?_ | refine k_cond rfl ?_ | refine K_skip ?_ | refine K_exit ?_ | refine k_block ?_ | refine K_scope ?_ | refine K_label ?_ | (refine K_region (id := 9) ?_; refine mv ?_; (first | refine sb ?_ | refine vl ?_); refine mv ?_; refine KO_nil ?_)))
      exact ⟨(lim - 1, l2), ⟨S, by show lim - 1 ≤ 1000; omega, g1⟩, ((by repeat (first | exact Ks.le_nil _ | refine Ks.le_cons rfl ?_ | refine Ks.le_int ?_)))⟩
    · all_goals (repeat' (first | refine K_seq ?_ | refine k_cond rfl ?_ | refine K_skip ?_ | refine K_exit ?_ | refine k_block ?_ | refine K_scope ?_ | refine K_label ?_ | (refine K_region (id := 7) ?_; refine mv ?_; refine vl ?_; refine KO_nil ?_)))
      exact ⟨(lim, m), ⟨S, hlim, .refl _⟩, ((by repeat (first | exact Ks.le_nil _ | refine Ks.le_cons rfl ?_ | refine Ks.le_int ?_)))⟩
  clear S hlim
  rintro ⟨lim, m2⟩ h ⟨S, hlim, g1⟩
  have hm2 := g1.len
  skip
  (repeat (refine K_seq ?_)); refine K_region (id := 10) ?_
  refine mv ?_; refine mv ?_; refine mv ?_; skip
  (refine KO_fn rfl rfl rfl rfl rfl ((piv_o a1 b1 S hbig2 (by omega) (by omega)).mono ?_); rintro _ h ⟨q, t, rfl, hq0, S2⟩) <;> (replace S := S2; clear S2; refine mv ?_; refine vl ?_; refine vl ?_; refine mv ?_; refine mv ?_; refine KO_nil ?_)
  refine K_cut (σ := Nat × Int × List (List UInt8)) (fun (q, t, m3) h' => Hs h0 h' (.sl v 9 1 eS m3 :: rs) ∧ (a1 ≤ q ∧ q < b1) ∧ Sw a1 b1 m2 m3) (fun (q, t, m3) => [(0, v), (1, .int .i64 a1), (2, .int .i64 b1), (3, .int .i64 lim), (8, .bool wb), (9, .bool wp), (10, .int .i64 (b1 - a1 : Nat)), (11, .int .i64 q), (12, .int .i64 t)]) ?_ ?_
  · all_goals (repeat' (first | refine K_seq ?_ | refine k_cond rfl ?_ | refine K_skip ?_ | refine K_exit ?_ | refine k_block ?_ | refine K_scope ?_ | refine K_label ?_ | (refine K_region (id := 11) ?_; refine mv ?_; (first | refine cT ?_ | refine cF ?_ | (refine cS ?_ ?_ <;> intro hc)) <;> (refine KO_nil ?_)) | (refine K_region (id := 12) ?_; refine mv ?_; refine mv ?_; refine mv ?_; skip)))
    · (refine KO_fn rfl rfl rfl rfl rfl ((rev_o a1 b1 S (by omega) (by omega) (by omega)).mono ?_); rintro _ h ⟨l2, k1, S2⟩) <;> (replace S := S2; clear S2; refine KO_nil ?_)
      all_goals (repeat' (first | refine K_seq ?_ | refine k_cond rfl ?_ | refine K_skip ?_ | refine K_exit ?_ | refine k_block ?_ | refine K_scope ?_ | refine K_label ?_ | (refine K_region (id := 13) ?_; refine mv ?_; (first | refine sb ?_ | refine vl ?_); refine mv ?_; refine mv ?_; (first | refine sb ?_ | refine vl ?_); (first | refine sb ?_ | refine vl ?_); refine mv ?_; refine KO_nil ?_) | (refine K_region (id := 14) ?_; refine mv ?_; refine KO_nil ?_)))
      exact ⟨(b1 - 1 - (q - a1), 1, l2), ⟨S, by show a1 ≤ b1 - 1 - (q - a1) ∧ b1 - 1 - (q - a1) < b1; omega, k1⟩, ((by repeat (first | exact Ks.le_nil _ | refine Ks.le_cons rfl ?_ | refine Ks.le_int ?_)))⟩
    · exact ⟨(q, t, m2), ⟨S, hq0, .refl _⟩, ((by repeat (first | exact Ks.le_nil _ | refine Ks.le_cons rfl ?_ | refine Ks.le_int ?_)))⟩
  clear S hq0
  rintro ⟨q, t, m3⟩ h ⟨S, hq0, g2⟩
  have g13 := g1.trans g2
  have D3 := D.sw g13 h1.1 h1.2.2
  have low3 := low m3 g13
  have s3 := h2.trans (g13.mono h1.1 h1.2.2 (by omega))
  have hm3 := g13.len
  skip
  refine K_cut (σ := List (List UInt8)) (fun m3 h' => Hs h0 h' (.sl v 9 1 eS m3 :: rs) ∧ Sw a1 b1 m m3) (fun _ => [(0, v), (1, .int .i64 a1), (2, .int .i64 b1), (3, .int .i64 lim), (8, .bool wb), (9, .bool wp), (10, .int .i64 (b1 - a1 : Nat)), (11, .int .i64 q)]) ?_ ?_
  · cases wb
    · all_goals (repeat' (first | refine K_seq ?_ | refine k_cond rfl ?_ | refine K_skip ?_ | refine K_exit ?_ | refine k_block ?_ | refine K_scope ?_ | refine K_label ?_ | (refine K_region (id := 15) ?_; refine mv ?_; refine mv ?_; (first | refine off ?_ | refine mv ?_); refine vl ?_; refine mv ?_; (first | refine off ?_ | refine mv ?_); (first | refine off ?_ | (first | refine cT ?_ | refine cF ?_ | (refine cS ?_ ?_ <;> intro hc))) <;> (refine vl ?_; refine KO_nil ?_))))
      exact ⟨m3, ⟨S, g13⟩, ((by repeat (first | exact Ks.le_nil _ | refine Ks.le_cons rfl ?_ | refine Ks.le_int ?_)))⟩
    cases wp
    · all_goals (repeat' (first | refine K_seq ?_ | refine k_cond rfl ?_ | refine K_skip ?_ | refine K_exit ?_ | refine k_block ?_ | refine K_scope ?_ | refine K_label ?_ | (refine K_region (id := 15) ?_; refine mv ?_; refine mv ?_; (first | refine off ?_ | refine mv ?_); refine vl ?_; refine mv ?_; (first | refine off ?_ | refine mv ?_); (first | refine off ?_ | (first | refine cT ?_ | refine cF ?_ | (refine cS ?_ ?_ <;> intro hc))) <;> (refine vl ?_; refine KO_nil ?_))))
      exact ⟨m3, ⟨S, g13⟩, ((by repeat (first | exact Ks.le_nil _ | refine Ks.le_cons rfl ?_ | refine Ks.le_int ?_)))⟩
    all_goals (repeat' (first | refine K_seq ?_ | refine k_cond rfl ?_ | refine K_skip ?_ | refine K_exit ?_ | refine k_block ?_ | refine K_scope ?_ | refine K_label ?_ | (refine K_region (id := 15) ?_; refine mv ?_; refine mv ?_; (first | refine off ?_ | refine mv ?_); refine vl ?_; refine mv ?_; (first | refine off ?_ | refine mv ?_); (first | refine off ?_ | (first | refine cT ?_ | refine cF ?_ | (refine cS ?_ ?_ <;> intro hc))) <;> (refine vl ?_; refine KO_nil ?_)) | (refine K_region (id := 16) ?_; refine mv ?_; refine mv ?_; refine mv ?_; skip)))
    · (refine KO_fn rfl rfl rfl rfl rfl ((pins_o a1 b1 S hbig2 (by omega) (by omega) low3).mono ?_); rintro _ h ⟨m4, gp, ⟨rfl, hs⟩ | rfl, S2⟩) <;> (replace S := S2; clear S2; refine KO_nil ?_)
      · all_goals (repeat' (first | refine K_seq ?_ | refine k_cond rfl ?_ | refine K_skip ?_ | refine K_exit ?_ | refine k_block ?_ | refine K_scope ?_ | refine K_label ?_ | (refine K_region (id := 16) ?_; refine mv ?_; refine mv ?_; refine mv ?_; skip)))
        refine K_ret ⟨_, rfl, ?_⟩
        exact ⟨m4, s3.trans (gp.mono h1.1 h1.2.2 (by omega)), (D3.sw gp h1.1 h1.2.2).finish hs, S⟩
      · all_goals (repeat' (first | refine K_seq ?_ | refine k_cond rfl ?_ | refine K_skip ?_ | refine K_exit ?_ | refine k_block ?_ | refine K_scope ?_ | refine K_label ?_ | (refine K_region (id := 16) ?_; refine mv ?_; refine mv ?_; refine mv ?_; skip)))
        exact ⟨m4, ⟨S, g13.trans gp⟩, ((by repeat (first | exact Ks.le_nil _ | refine Ks.le_cons rfl ?_ | refine Ks.le_int ?_)))⟩
    · exact ⟨m3, ⟨S, g13⟩, ((by repeat (first | exact Ks.le_nil _ | refine Ks.le_cons rfl ?_ | refine Ks.le_int ?_)))⟩
  clear S D3 low3 s3 hm3 g13 g2
  rintro m3 h ⟨S, g13⟩
  have D3 := D.sw g13 h1.1 h1.2.2
  have low3 := low m3 g13
  have s3 := h2.trans (g13.mono h1.1 h1.2.2 (by omega))
  have hm3 := g13.len
  skip
  refine K_cut (σ := Unit) (fun _ h' => Hs h0 h' (.sl v 9 1 eS m3 :: rs)) (fun _ => [(0, v), (1, .int .i64 a1), (2, .int .i64 b1), (3, .int .i64 lim), (8, .bool wb), (9, .bool wp), (10, .int .i64 (b1 - a1 : Nat)), (11, .int .i64 q)]) ?_ ?_
  · all_goals (repeat' (first | refine K_seq ?_ | refine k_cond rfl ?_ | refine K_skip ?_ | refine K_exit ?_ | refine k_block ?_ | refine K_scope ?_ | refine K_label ?_ | (refine K_draw (id := 17) ?_; refine mv ?_; (first | refine cT ?_ | refine cF ?_ | (refine cS ?_ ?_ <;> intro hc)) <;> (refine mv ?_; (first | refine off ?_ | refine mv ?_); (first | refine off ?_ | refine mv ?_); (first | refine off ?_ | (first | refine sb ?_ | refine vl ?_)); (first | refine off ?_ | (first | refine ixB S ?_ | refine ixS2 S rfl rfl ?_)); (first | refine off ?_ | (first | refine lB S rfl rfl ?_ | refine lES2 S rfl rfl ?_ | refine lEB S ?_ | refine lH S ?_)); (first | refine off ?_ | refine mv ?_); (first | refine off ?_ | refine mv ?_); (first | refine off ?_ | (first | refine ixB S ?_ | refine ixS2 S rfl rfl ?_)); (first | refine off ?_ | (first | refine lB S rfl rfl ?_ | refine lES2 S rfl rfl ?_ | refine lEB S ?_ | refine lH S ?_)); (first | (refine off ?_; (first | refine off ?_ | refine vl ?_); refine vl ?_; refine KO_nil ?_) | skip)))))
    · simp only [toNat_pred, toNat_succ, toNat_sum, Int.toNat_natCast]
      (refine KO_fn rfl rfl rfl rfl rfl ((less_ok S.wf _ _).mono ?_); rintro _ h ⟨⟨rfl, hq⟩ | ⟨rfl, hq⟩, x⟩) <;> (replace S := S.join0 x; clear x; (first | refine off ?_ | refine vl ?_); refine vl ?_; refine KO_nil ?_)
      · all_goals (repeat' (first | refine K_seq ?_ | refine k_cond rfl ?_ | refine K_skip ?_ | refine K_exit ?_ | refine k_block ?_ | refine K_scope ?_ | refine K_label ?_ | (refine K_region (id := 18) ?_; refine mv ?_; refine mv ?_; refine mv ?_; refine mv ?_; skip)))
        exact ⟨(), S, ((by repeat (first | exact Ks.le_nil _ | refine Ks.le_cons rfl ?_ | refine Ks.le_int ?_)))⟩
      · all_goals (repeat' (first | refine K_seq ?_ | refine k_cond rfl ?_ | refine K_skip ?_ | refine K_exit ?_ | refine k_block ?_ | refine K_scope ?_ | refine K_label ?_ | (refine K_region (id := 18) ?_; refine mv ?_; refine mv ?_; refine mv ?_; refine mv ?_; skip)))
        (refine KO_fn rfl rfl rfl rfl rfl ((peq_o a1 b1 q S hq0 (by omega) (by omega)).mono ?_); rintro _ h ⟨e, m4, rfl, e1, e2, e3, e4, S2⟩) <;> (replace S := S2; clear S2; refine mv ?_; refine KO_nil ?_)
        all_goals (repeat' (first | refine K_seq ?_ | refine k_cond rfl ?_ | refine K_skip ?_ | refine K_exit ?_ | refine k_block ?_ | refine K_scope ?_ | refine K_label ?_ | (refine K_region (id := 19) ?_; refine mv ?_; refine mv ?_; refine KO_nil ?_)))
        refine ⟨(e, b1, lim, wb, wp, m4), ?_, ?_, (by repeat (first | exact Ks.le_nil _ | refine Ks.le_cons rfl ?_ | refine Ks.le_int ?_))⟩
        · show b1 - e < b1 - a1; omega
        · have s4 := low m4 (g13.trans e2) (by omega)
          refine ⟨S, by (try dsimp only); omega, hlim, s3.trans (e2.mono h1.1 h1.2.2 (by omega)), (D3.sw e2 h1.1 h1.2.2).eq_ W (x := m3.getD q default) (show a1 ≤ e ∧ e ≤ b1 by omega) e3 e4 fun k q1 q2 => ?_⟩
          have := s4 k q1 q2
          rw [e2.out (k := a1 - 1) (.inl (by omega))] at this
          exact W.ntr hq this
    · exact ⟨(), S, ((by repeat (first | exact Ks.le_nil _ | refine Ks.le_cons rfl ?_ | refine Ks.le_int ?_)))⟩
  clear S
  rintro - h S
  skip
  all_goals (repeat' (first | refine K_seq ?_ | refine k_cond rfl ?_ | refine K_skip ?_ | refine K_exit ?_ | refine k_block ?_ | refine K_scope ?_ | refine K_label ?_ | (refine K_region (id := 20) ?_; refine mv ?_; refine mv ?_; refine mv ?_; refine mv ?_; skip)))
  (refine KO_fn rfl rfl rfl rfl rfl ((part_o a1 b1 q S hq0 (by omega) (by omega)).mono ?_); rintro _ h ⟨e, f, m4, rfl, e1, e2, e3, S2⟩) <;> (replace S := S2; clear S2; refine mv ?_; refine vl ?_; refine vl ?_; refine mv ?_; refine mv ?_; refine KO_nil ?_)
  have D4 := D3.sw e2 h1.1 h1.2.2
  have s4 := s3.trans (e2.mono h1.1 h1.2.2 (by omega))
  have hm4 := e2.len
  have low4 := low m4 (g13.trans e2)
  skip
  have ee : (e : Int) + 1 = ((e + 1 : Nat) : Int) := by omega
  all_goals (repeat' (first | refine K_seq ?_ | refine k_cond rfl ?_ | refine K_skip ?_ | refine K_exit ?_ | refine k_block ?_ | refine K_scope ?_ | refine K_label ?_ | (refine K_region (id := 21) ?_; refine mv ?_; refine mv ?_; refine KO_nil ?_) | (refine K_region (id := 22) ?_; refine mv ?_; refine mv ?_; (first | refine sb ?_ | refine vl ?_); refine mv ?_; refine mv ?_; (first | refine sb ?_ | refine vl ?_); refine mv ?_; refine mv ?_; refine KO_nil ?_) | (refine K_region (id := 23) ?_; refine mv ?_; (first | refine qu ?_ | refine vl ?_); refine mv ?_; refine KO_nil ?_) | (refine K_region (id := 24) ?_; refine mv ?_; refine mv ?_; (first | refine cT ?_ | refine cF ?_ | (refine cS ?_ ?_ <;> intro hc)) <;> (refine KO_nil ?_)) | (refine K_region (id := 25) ?_; refine mv ?_; refine mv ?_; (first | refine cT ?_ | refine cF ?_ | (refine cS ?_ ?_ <;> intro hc)) <;> (refine mv ?_; refine KO_nil ?_)) | (refine K_region (id := 26) ?_; refine mv ?_; refine mv ?_; refine mv ?_; refine mv ?_; skip) | (refine K_region (id := 28) ?_; refine mv ?_; refine mv ?_; (first | refine cT ?_ | refine cF ?_ | (refine cS ?_ ?_ <;> intro hc)) <;> (refine mv ?_; refine KO_nil ?_))))
  · (refine KO_fn rfl rfl rfl rfl rfl ((ih (e - a1) (by omega) a1 e lim S rfl (by omega) (by omega) (by omega) (by omega) hlim (fun z k q1 q2 => low4 z k q1 (by omega))).mono ?_); rintro _ h ⟨m5, k1, k2, S2⟩) <;> (replace S := S2; clear S2; refine KO_nil ?_)
    all_goals (repeat' (first | refine K_seq ?_ | refine k_cond rfl ?_ | refine K_skip ?_ | refine K_exit ?_ | refine k_block ?_ | refine K_scope ?_ | refine K_label ?_ | (refine K_region (id := 27) ?_; refine mv ?_; (first | refine ad ?_ | refine vl ?_); refine mv ?_; refine KO_nil ?_)))
    refine ⟨(e + 1, b1, lim, true, f, m5), ?_, ?_, (by repeat (first | exact Ks.le_nil _ | refine Ks.le_cons rfl ?_ | refine Ks.le_int ?_))⟩
    · show b1 - (e + 1) < b1 - a1; omega
    · exact ⟨S, by (try dsimp only); omega, hlim, s4.trans (k1.mono h1.1 (by omega) (by omega)), D4.left W e3 (by omega) ⟨h1.1, h1.2.2⟩ k1 k2 (by omega)⟩
  · (refine KO_fn rfl rfl rfl rfl rfl ((ih (e - a1) (by omega) a1 e lim S rfl (by omega) (by omega) (by omega) (by omega) hlim (fun z k q1 q2 => low4 z k q1 (by omega))).mono ?_); rintro _ h ⟨m5, k1, k2, S2⟩) <;> (replace S := S2; clear S2; refine KO_nil ?_)
    all_goals (repeat' (first | refine K_seq ?_ | refine k_cond rfl ?_ | refine K_skip ?_ | refine K_exit ?_ | refine k_block ?_ | refine K_scope ?_ | refine K_label ?_ | (refine K_region (id := 27) ?_; refine mv ?_; (first | refine ad ?_ | refine vl ?_); refine mv ?_; refine KO_nil ?_)))
    refine ⟨(e + 1, b1, lim, false, f, m5), ?_, ?_, (by repeat (first | exact Ks.le_nil _ | refine Ks.le_cons rfl ?_ | refine Ks.le_int ?_))⟩
    · show b1 - (e + 1) < b1 - a1; omega
    · exact ⟨S, by (try dsimp only); omega, hlim, s4.trans (k1.mono h1.1 (by omega) (by omega)), D4.left W e3 (by omega) ⟨h1.1, h1.2.2⟩ k1 k2 (by omega)⟩
  · refine K_region (id := 29) ?_
    (refine mv ?_; refine mv ?_; (first | refine ad ?_ | refine vl ?_); refine mv ?_; refine mv ?_)
    simp only [ee]
    (refine KO_fn rfl rfl rfl rfl rfl ((ih (b1 - (e + 1)) (by omega) (e + 1) b1 lim S rfl (by omega) (by omega) (by omega) (by omega) hlim (fun z k q1 q2 => e3.2 k (by omega) q2)).mono ?_); rintro _ h ⟨m5, k1, k2, S2⟩) <;> (replace S := S2; clear S2; refine KO_nil ?_)
    all_goals (repeat' (first | refine K_seq ?_ | refine k_cond rfl ?_ | refine K_skip ?_ | refine K_exit ?_ | refine k_block ?_ | refine K_scope ?_ | refine K_label ?_ | (refine K_region (id := 30) ?_; refine mv ?_; refine mv ?_; refine KO_nil ?_)))
    refine ⟨(a1, e, lim, true, f, m5), ?_, ?_, (by repeat (first | exact Ks.le_nil _ | refine Ks.le_cons rfl ?_ | refine Ks.le_int ?_))⟩
    · show e - a1 < b1 - a1; omega
    · exact ⟨S, by (try dsimp only); omega, hlim, s4.trans (k1.mono (by omega) h1.2.2 (by omega)), D4.right W e3 (by omega) ⟨h1.1, h1.2.2⟩ k1 k2 (by omega)⟩
  · refine K_region (id := 29) ?_
    (refine mv ?_; refine mv ?_; (first | refine ad ?_ | refine vl ?_); refine mv ?_; refine mv ?_)
    simp only [ee]
    (refine KO_fn rfl rfl rfl rfl rfl ((ih (b1 - (e + 1)) (by omega) (e + 1) b1 lim S rfl (by omega) (by omega) (by omega) (by omega) hlim (fun z k q1 q2 => e3.2 k (by omega) q2)).mono ?_); rintro _ h ⟨m5, k1, k2, S2⟩) <;> (replace S := S2; clear S2; refine KO_nil ?_)
    all_goals (repeat' (first | refine K_seq ?_ | refine k_cond rfl ?_ | refine K_skip ?_ | refine K_exit ?_ | refine k_block ?_ | refine K_scope ?_ | refine K_label ?_ | (refine K_region (id := 30) ?_; refine mv ?_; refine mv ?_; refine KO_nil ?_)))
    refine ⟨(a1, e, lim, false, f, m5), ?_, ?_, (by repeat (first | exact Ks.le_nil _ | refine Ks.le_cons rfl ?_ | refine Ks.le_int ?_))⟩
    · show e - a1 < b1 - a1; omega
    · exact ⟨S, by (try dsimp only); omega, hlim, s4.trans (k1.mono (by omega) h1.2.2 (by omega)), D4.right W e3 (by omega) ⟨h1.1, h1.2.2⟩ k1 k2 (by omega)⟩

theorem sort_o {h0 h : AH} {rs : List Rs} {v : Value} {l : List (List UInt8)} (S : Hs h0 h (.sl v 9 1 eS l :: rs)) (hl : l.length < 250) :
    Fn Tryz.prog Xh 74 [v] h (fun _ h' => ∃ l', Sw 0 l.length l l' ∧ Srt sLt 0 l.length l' ∧ Hs h0 h' (.sl v 9 1 eS l' :: rs)) := by
  have hk : (lenTab.getD l.length 0).toNat < 256 := UInt8.toNat_lt _
  refine Fn_K rfl Tryz.func74 rfl rfl ?_
  all_goals (repeat' (first | refine K_seq ?_ | refine k_cond rfl ?_ | refine K_skip ?_ | refine K_exit ?_ | refine k_block ?_ | refine K_scope ?_ | refine K_label ?_ | (refine K_region (id := 0) ?_; refine mv ?_; (first | refine lnB S ?_ | refine lnS S rfl rfl ?_); refine mv ?_; refine KO_nil ?_) | (refine K_region (id := 1) ?_; refine mv ?_; refine mv ?_; refine mv ?_; (first | refine cW ?_ | refine vl ?_))))
  (refine KO_fn rfl rfl rfl rfl rfl ((len_ok S.wf l.length (by omega)).mono ?_); rintro _ h ⟨rfl, x⟩) <;> (replace S := S.join0 x; clear x)
  (refine KO_fn rfl rfl rfl rfl rfl ((pdq_o l.length 0 l.length (lenTab.getD l.length 0).toNat S rfl (Nat.zero_le _) (Nat.le_refl _) (by omega) (by omega) (by omega) (fun z => by omega)).mono ?_); rintro _ h ⟨l2, g1, g2, S2⟩) <;> (replace S := S2; clear S2; refine KO_nil ?_)
  all_goals (repeat' (first | refine K_seq ?_ | refine k_cond rfl ?_ | refine K_skip ?_ | refine K_exit ?_ | refine k_block ?_ | refine K_scope ?_ | refine K_label ?_))
  refine ⟨_, rfl, ?_⟩
  exact ⟨l2, g1, g2, S⟩

end Go.Proofs.Xx

/-
  A book is asked: names, Find, Tied, With.
-/
namespace Go.Proofs.Xx
open Go Go.Proofs
set_option linter.unusedSimpArgs false
set_option linter.unusedVariables false
set_option linter.unusedSectionVars false
set_option maxRecDepth 100000
set_option maxHeartbeats 4000000

/-- What a map reads as. -/
def MpRd {α : Type} (h : AH) (b : Nat) (enc : α → Value) (l : List (List UInt8 × α)) : Prop := ∃ es clock, h.get b = some (.map es clock) ∧ es.map (fun e => (e.1, e.2.1)) = l.map (fun p => (Value.string ⟨p.1.toArray⟩, enc p.2))
theorem MpRd.ext {α : Type} {h h' : AH} {b : Nat} {enc : α → Value} {l : List (List UInt8 × α)} (r : MpRd h b enc l) (w : WfH h) (x : Ext h h') : MpRd h' b enc l := by
  obtain ⟨es, clock, h1, h2⟩ := r
  exact ⟨es, clock, x.get w h1, h2⟩
section
variable {P : Program} {X : Extern} {sz : Nat} {L : Ks} {h h0 : AH} {rs : List Rs} {ops : Array Oper} {os : List Oper} {o : Oper} {R : Ks → AH → Prop}
/-- A search in a map that is only read. -/
theorem lkR {α : Type} {b : Nat} {enc : α → Value} {l : List (List UInt8 × α)} {m k : Operand} {ty kt et : TypeId} {key : List UInt8} {z : Value} {d : Tmp} {ok : Bool} (r : MpRd h b enc l)
    (w1 : ∀ x, mGet l key = some x → KO P X sz ops os (L.put d (okV ok (enc x) true)) h R)
    (w2 : mGet l key = none → KO P X sz ops os (L.put d (okV ok z false)) h R)
    (ho : o.op = .lookup ty m k ok := by exact rfl) (hg : guardA ops L.tree o.guard = some true := by exact rfl) (hm : kA L m = some (.map (some b)) := by exact rfl) (hk : kA L k = some (str key) := by exact rfl)
    (hu : P.underlying ty = some (.map kt et) := by exact rfl) (hkt : P.underlying kt = some .string := by exact rfl) (hz : zeroV P et = some z := by exact rfl) (hdst : o.dst = some d := by exact rfl) (hds : Nat.blt d sz = true := by exact rfl) : KO P X sz ops (o :: os) L h R := by
  obtain ⟨es, clock, h1, h2⟩ := r
  have hT : mapT P ty (str key) = some (.string, et) := by
    unfold mapT
    simp only [hu, hkt]; rfl
  have hM : aMapOf (.map (some b)) h = some es := by
    unfold aMapOf
    simp only [h1]
  have hF := aFind_mp (enc := enc) (k := key) (i := 0) h2
  cases hq : mGet l key with
  | none =>
    refine KO_val hg (v := okV ok z false) (h' := h) ?_ (show putK sz L o.dst _ = some (L.put d _) by simp only [putK, hdst, hds]) (w2 hq)
    rw [ho]; simp only [aOp, tree_le hm, tree_le hk, aLookup, hT, hM, hF, mGet_none hq, Option.map_none, hz, nextOf]; rfl
  | some x =>
    obtain ⟨i, hi⟩ := mGet_some hq
    refine KO_val hg (v := okV ok (enc x) true) (h' := h) ?_ (show putK sz L o.dst _ = some (L.put d _) by simp only [putK, hdst, hds]) (w1 x hq)
    rw [ho]; simp only [aOp, tree_le hm, tree_le hk, aLookup, hT, hM, hF, hi, Option.map_some, nextOf]; rfl
end
/-- The book at p reads as a roll. -/
structure BkAt (h : AH) (p : Nat) (r : Rl) (s : BkS) : Prop where
  bk : h.get p = some (.cells [s.vg.val, s.vt.val, .map (some s.m)] 86 none false)
  rg : RdL h s.vg.val 9 eG s.gs
  rt : RdL h s.vt.val 3 eTi r.ts
  mp : MpRd h s.m (.int .i64) s.mp
  tg : ∀ i, i < s.gs.length → RdL h (s.gs.getD i default).tv.val 1 eS (s.gs.getD i default).tg
  us : s.gs.map (·.toGu) = r.us
  at_ : AtOk s.mp r.us
def BkRd (h : AH) (p : Nat) (r : Rl) : Prop := ∃ s, BkAt h p r s
theorem BkRd.ext {h h' : AH} {p : Nat} {r : Rl} (b : BkRd h p r) (w : WfH h) (x : Ext h h') : BkRd h' p r := by
  obtain ⟨s, b⟩ := b
  exact ⟨s, x.get w b.bk, b.rg.ext w x, b.rt.ext w x, b.mp.ext w x, fun i hi => (b.tg i hi).ext w x, b.us, b.at_⟩
theorem BkAt.len {h : AH} {p : Nat} {r : Rl} {s : BkS} (b : BkAt h p r s) : s.gs.length = r.us.length := by rw [← b.us]; simp
theorem BkAt.g {h : AH} {p : Nat} {r : Rl} {s : BkS} (b : BkAt h p r s) {i : Nat} (hi : i < s.gs.length) : (s.gs.getD i default).toGu = r.us.getD i default := by rw [← b.us, map_getD hi]
theorem Hs.bkRd {h0 h : AH} {rs : List Rs} {p : Nat} {r : Rl} (S : Hs h0 h (bookR p r :: rs)) : BkRd h p r := by
  obtain ⟨s, ⟨q1, q2⟩, S⟩ := S.unpack
  obtain ⟨fp, k⟩ := Hs.anyP (p := TgsOk s.gs) S (.there (.there (.there (.there .here))))
  obtain ⟨es, clock, m1, m2, -⟩ := mp_get S (.there (.there (.there .here)))
  exact ⟨s, blk_get S .here, Rd.of_sl S (.there .here), Rd.of_sl S (.there (.there .here)), ⟨es, clock, m1, m2⟩, fun i hi => TgsOk.rd k hi, q1, q2⟩
/-- Words in order, each once. -/
def SS (l : List (List UInt8)) : Prop := ∀ i j, i < j → j < l.length → sLt (l.getD i default) (l.getD j default)
theorem nodup_ne {l : List (List UInt8)} (h : l.Nodup) {i j : Nat} (hij : i < j) (hj : j < l.length) : l.getD i default ≠ l.getD j default := by
  rw [List.getD_eq_getElem?_getD, List.getD_eq_getElem?_getD, List.getElem?_eq_getElem hj, List.getElem?_eq_getElem (show i < l.length by omega)]
  exact List.pairwise_iff_getElem.1 h i j (by omega) hj hij
theorem SS.of {l l' : List (List UInt8)} (s : Sw 0 l.length l l') (h : Srt sLt 0 l.length l') (hn : l.Nodup) : SS l' := fun i j hij hj => by
  have hl := s.len
  have hn' : l'.Nodup := s.perm.nodup_iff.2 hn
  have h1 := h i j (Nat.zero_le _) hij (by omega)
  rcases sLe_of h1 with q | q
  · exact absurd q (nodup_ne hn' hij hj)
  · exact q
theorem SS.nodup {l : List (List UInt8)} (h : SS l) : l.Nodup := by
  rw [List.nodup_iff_pairwise_ne, List.pairwise_iff_getElem]
  intro i j hi hj hij
  have := h i j hij hj
  rw [List.getD_eq_getElem?_getD, List.getD_eq_getElem?_getD, List.getElem?_eq_getElem hj, List.getElem?_eq_getElem hi] at this
  exact sLt_ne this
/-- Whom a kind of tie joins to n. -/
def adj (r : Rl) (k : Int) (n x : List UInt8) : Prop := ∃ t ∈ r.ts, t.k = k ∧ ((t.a = n ∧ t.b = x) ∨ (t.b = n ∧ t.a = x))
theorem adj.symm {r : Rl} {k : Int} {n x : List UInt8} (h : adj r k n x) : adj r k x n := by
  obtain ⟨t, h1, h2, h3⟩ := h
  exact ⟨t, h1, h2, h3.elim (fun q => .inr ⟨q.2, q.1⟩) (fun q => .inl ⟨q.2, q.1⟩)⟩
/-- What a tie adds to the list. -/
def witT (k : Int) (n : List UInt8) (t : Ti) : List (List UInt8) := if t.k ≠ k then [] else if t.a = n then [t.b] else if t.b = n then [t.a] else []
theorem mem_wit {r : Rl} (H : RO r) {k : Int} {n x : List UInt8} : x ∈ r.ts.flatMap (witT k n) ↔ adj r k n x := by
  rw [List.mem_flatMap]
  constructor
  · rintro ⟨t, ht, hx⟩
    unfold witT at hx
    split at hx
    · cases hx
    · rename_i hk
      split at hx
      · rename_i ha
        exact ⟨t, ht, Classical.not_not.1 hk, .inl ⟨ha, (List.mem_singleton.1 hx).symm⟩⟩
      · split at hx
        · rename_i hb
          exact ⟨t, ht, Classical.not_not.1 hk, .inr ⟨hb, (List.mem_singleton.1 hx).symm⟩⟩
        · cases hx
  · rintro ⟨t, ht, hk, h⟩
    refine ⟨t, ht, ?_⟩
    unfold witT
    rw [if_neg (by simpa using hk)]
    rcases h with ⟨h1, h2⟩ | ⟨h1, h2⟩
    · rw [if_pos h1]; simp [h2]
    · have := (H.tt t ht).1
      rw [if_neg (fun q => by rw [q, h1] at this; exact sLt_irr _ this), if_pos h1]; simp [h2]
theorem wit_nodup {ts : List Ti} (hs : TS ts) (hlt : ∀ t ∈ ts, sLt t.a t.b) (k : Int) (n : List UInt8) : (ts.flatMap (witT k n)).Nodup := by
  rw [List.Nodup, List.pairwise_flatMap]
  refine ⟨fun t ht => ?_, ?_⟩
  · unfold witT
    split
    · exact List.Pairwise.nil
    · split
      · simp
      · split <;> simp
  · refine List.Pairwise.imp_of_mem ?_ hs
    intro t u ht hu hb x hx y hy
    have l1 := hlt t ht
    have l2 := hlt u hu
    unfold witT at hx hy
    split at hx
    · cases hx
    · split at hy
      · cases hy
      · intro e
        subst e
        split at hx
        · rename_i a1
          have ex := List.mem_singleton.1 hx
          split at hy
          · rename_i a2
            have ey := List.mem_singleton.1 hy
            rcases hb with q | q
            · rw [a1, a2] at q; exact sLt_irr _ q
            · rw [← ex, ← ey] at q; exact sLt_irr _ q.2
          · split at hy
            · rename_i a2
              have ey := List.mem_singleton.1 hy
              rw [a1, ← ex] at l1
              rw [a2, ← ey] at l2
              exact sLt_asymm l1 l2
            · cases hy
        · split at hx
          · rename_i a1
            have ex := List.mem_singleton.1 hx
            split at hy
            · rename_i a2
              have ey := List.mem_singleton.1 hy
              rw [a1, ← ex] at l1
              rw [a2, ← ey] at l2
              exact sLt_asymm l1 l2
            · split at hy
              · rename_i a2
                have ey := List.mem_singleton.1 hy
                rcases hb with q | q
                · rw [← ex, ← ey] at q; exact sLt_irr _ q
                · rw [a1, a2] at q; exact sLt_irr _ q.2
              · cases hy
          · cases hx
theorem wit_len (k : Int) (n : List UInt8) : ∀ ts : List Ti, (ts.flatMap (witT k n)).length ≤ ts.length
  | [] => Nat.le_refl _
  | t :: r => by
    have := wit_len k n r
    rw [List.flatMap_cons, List.length_append, List.length_cons]
    have : (witT k n t).length ≤ 1 := by
      unfold witT
      split
      · simp
      · split
        · simp
        · split <;> simp
    omega
theorem nodup_leM {α : Type} [DecidableEq α] : ∀ {l m : List α}, l.Nodup → (∀ x ∈ l, x ∈ m) → l.length ≤ m.length
  | [], m, _, _ => Nat.zero_le _
  | x :: l, m, h, hs => by
    have hx := hs x (by simp)
    have h2 := List.nodup_cons.1 h
    have := nodup_leM (l := l) (m := m.erase x) h2.2 fun y hy => by
      rw [List.mem_erase_of_ne (show y ≠ x from fun e => h2.1 (by rw [← e]; exact hy))]
      exact hs y (by simp [hy])
    rw [List.length_erase_of_mem hx] at this
    have : 0 < m.length := List.length_pos_of_mem hx
    rw [List.length_cons]; omega
theorem adj_known {r : Rl} (H : RO r) {k : Int} {n x : List UInt8} (h : adj r k n x) : gat r.us n ≠ none ∧ gat r.us x ≠ none ∧ n ≠ x := by
  obtain ⟨t, h1, h2, h3⟩ := h
  obtain ⟨t1, t2, t3, t4⟩ := H.tt t h1
  rcases h3 with ⟨rfl, rfl⟩ | ⟨rfl, rfl⟩
  · exact ⟨t3, t4, sLt_ne t1⟩
  · exact ⟨t4, t3, (sLt_ne t1).symm⟩
theorem gat_name {us : List Gu} {n : List UInt8} (h : gat us n ≠ none) : n ∈ us.map (·.name) := by
  obtain ⟨g, h1, h2⟩ := gat_mem.1 h
  exact List.mem_map.2 ⟨g, h1, h2⟩
theorem wit_le64 {r : Rl} (H : RO r) (k : Int) (n : List UInt8) : (r.ts.flatMap (witT k n)).length ≤ 64 := by
  have := nodup_leM (wit_nodup H.ts (fun t ht => (H.tt t ht).1) k n) (m := r.us.map (·.name)) fun x hx => gat_name (adj_known H ((mem_wit H).1 hx)).2.1
  have := H.l64
  simp at *; omega
variable [Flag]
theorem with_ok {h0 : AH} (w : WfH h0) {p : Nat} {r : Rl} (B : BkRd h0 p r) (H : RO r) (n : List UInt8) (k : Int) : Fn Tryz.prog Xh 27 [.pointer (some ⟨p, 0, none⟩), str n, .int .u8 k] h0 (fun u h' => ∃ l, Hs h0 h' [.sl u 9 1 eS l] ∧ SS l ∧ (∀ x, x ∈ l ↔ adj r k n x) ∧ l.length ≤ 64) := by
  have S := Hs.start w
  obtain ⟨s, B⟩ := B
  have h64 := wit_le64 H k n
  have hb := B.bk
  have hrt := B.rt
  have h256 := H.l256
  refine Fn_K rfl Tryz.func27 rfl rfl ?_
  all_goals (repeat' (first | refine K_seq ?_ | (refine K_region (id := 0) ?_; refine mv ?_; refine KO_nil ?_) | (refine K_region (id := 1) ?_; refine mv ?_)))
  (refine KO_fn rfl rfl rfl rfl rfl ((bnone_ok S.wf hb).mono ?_); rintro _ h ⟨rfl, x⟩) <;> (replace S := S.join0 x; clear x; refine KO_nil ?_)
  all_goals (repeat' (first | refine K_seq ?_ | refine k_cond rfl ?_ | refine K_skip ?_ | (refine K_region (id := 3) ?_; refine mv ?_; refine KO_nil ?_)))
  have S := S.nilS (e := 9) (z := 1) (enc := eS)
  all_goals (repeat' (first | refine k_block ?_ | (refine K_region (id := 4) ?_; refine mv ?_; refine vl ?_; refine vl ?_; refine vl ?_; refine lH S ?_; refine lnB S ?_; refine mv ?_; refine KO_nil ?_)))
  refine k_loop (σ := Nat × Value) (fun (i, v) h' => Hs h0 h' [.sl v 9 1 eS ((r.ts.take i).flatMap (witT k n))] ∧ i ≤ r.ts.length) (fun (i, v) => r.ts.length - i) (fun (i, v) => [(0, .pointer (some ⟨p, 0, none⟩)), (1, str n), (2, .int .u8 k), (7, v), (16, s.vt.val), (17, .int .i64 r.ts.length), (18, .int .i64 i)]) (0, .slice none 0 0) (by repeat (first | exact Ks.le_nil _ | refine Ks.le_cons rfl ?_)) ?_ ?_
  · exact ⟨S, Nat.zero_le _⟩
  clear S
  rintro ⟨i, v⟩ h ⟨S, g1⟩
  all_goals (repeat' (first | refine K_seq ?_ | refine k_cond rfl ?_ | refine K_skip ?_ | refine K_exit ?_ | (refine K_region (id := 5) ?_; (first | (refine cS ?_ ?_ <;> intro hc)) <;> (refine KO_nil ?_))))
  · have htl : ((r.ts.take i).flatMap (witT k n)).length ≤ 256 := by
      have := wit_len k n (r.ts.take i)
      simp at this ⊢; omega
    have hts : (r.ts.take (i + 1)).flatMap (witT k n) = (r.ts.take i).flatMap (witT k n) ++ witT k n (r.ts.getD i default) := by
      rw [take_succ_getD (by omega)]; simp
    (repeat (refine K_seq ?_)); first | refine K_join1 (σ := Value) (fun v h' => Hs h0 h' [.sl v 9 1 eS ((r.ts.take (i + 1)).flatMap (witT k n))]) (fun v => [(0, .pointer (some ⟨p, 0, none⟩)), (1, str n), (2, .int .u8 k), (7, v), (16, s.vt.val), (17, .int .i64 r.ts.length), (18, .int .i64 i)]) ?_ ?_
    · all_goals (repeat' (first | refine K_seq ?_ | refine k_block ?_))
      all_goals (repeat' (first | refine K_seq ?_ | refine k_cond rfl ?_ | refine K_skip ?_ | refine k_block ?_ | (refine K_region (id := 6) ?_; refine ixB S ?_; refine lEB S ?_; (refine al S ?_; clear S; intro b h S); (first | (refine sB S rfl rfl ?_; clear S; intro h S)); refine KO_nil ?_) | (refine K_region (id := 7) ?_; refine vl ?_; refine lB S rfl rfl ?_; refine mv ?_; (first | (refine cS ?_ ?_ <;> intro hc)) <;> (refine mv ?_; refine KO_nil ?_)) | (refine K_region (id := 8) ?_; refine vl ?_; refine lB S rfl rfl ?_; refine mv ?_; (refine tS ?_ ?_ <;> intro hc) <;> (refine mv ?_; refine KO_nil ?_)) | (refine K_region (id := 9) ?_; refine mv ?_; refine vl ?_; refine lB S rfl rfl ?_; (refine one 1 S ?_; clear S; intro u h S)) | (refine K_region (id := 10) ?_; refine vl ?_; refine lB S rfl rfl ?_; refine mv ?_; (refine tS ?_ ?_ <;> intro hc) <;> (refine mv ?_; refine KO_nil ?_)) | (refine K_region (id := 11) ?_; refine mv ?_; refine vl ?_; refine lB S rfl rfl ?_; (refine one 1 S ?_; clear S; intro u h S))))
      all_goals (try simp only [Int.toNat_natCast] at *)
      · have e : witT k n (r.ts.getD i default) = [] := by unfold witT; rw [if_pos hc]
        exact ⟨v, by rw [hts, e, List.append_nil]; exact S.pick, ((by repeat (first | exact Ks.le_nil _ | refine Ks.le_cons rfl ?_)))⟩
      · have e : witT k n (r.ts.getD i default) = [(r.ts.getD i default).b] := by unfold witT; rw [if_neg (by assumption), if_pos (by assumption)]
        refine app (y0 := (r.ts.getD i default).b) S rfl rfl ?_; clear S; intro v' h S; (refine mv ?_; refine KO_nil ?_)
        all_goals (repeat' (fail))
        exact ⟨v', by rw [hts, e]; exact S.pick, ((by repeat (first | exact Ks.le_nil _ | refine Ks.le_cons rfl ?_)))⟩
      · have e : witT k n (r.ts.getD i default) = [(r.ts.getD i default).a] := by unfold witT; rw [if_neg (by assumption), if_neg (by assumption), if_pos (by assumption)]
        refine app (y0 := (r.ts.getD i default).a) S rfl rfl ?_; clear S; intro v' h S; (refine mv ?_; refine KO_nil ?_)
        all_goals (repeat' (fail))
        exact ⟨v', by rw [hts, e]; exact S.pick, ((by repeat (first | exact Ks.le_nil _ | refine Ks.le_cons rfl ?_)))⟩
      · have e : witT k n (r.ts.getD i default) = [] := by unfold witT; rw [if_neg (by assumption), if_neg (by assumption), if_neg (by assumption)]
        exact ⟨v, by rw [hts, e, List.append_nil]; exact S.pick, ((by repeat (first | exact Ks.le_nil _ | refine Ks.le_cons rfl ?_)))⟩
    · clear S
      rintro v h S
      skip
      all_goals (repeat' (first | (refine K_region (id := 12) ?_; refine ad ?_; refine mv ?_; refine KO_nil ?_)))
      refine ⟨(i + 1, v), ?_, ?_, (by repeat (first | exact Ks.le_nil _ | refine Ks.le_cons rfl ?_))⟩
      · show r.ts.length - (i + 1) < r.ts.length - i; omega
      · exact ⟨S, by (try dsimp only); omega⟩
  · obtain rfl : i = r.ts.length := by omega
    rw [List.take_length] at S
    skip
    all_goals (repeat' (first | (refine K_region (id := 13) ?_; refine mv ?_)))
    (refine KO_fn rfl rfl rfl rfl rfl ((sort_o S (by omega)).mono ?_); rintro _ h ⟨l, z1, z2, S⟩) <;> (refine KO_nil ?_)
    all_goals (repeat' (first | refine K_seq ?_ | (refine K_region (id := 14) ?_; refine mv ?_; refine mv ?_; refine KO_nil ?_)))
    refine K_ret ⟨_, rfl, ?_⟩
    refine ⟨l, S, SS.of z1 z2 (wit_nodup H.ts (fun t ht => (H.tt t ht).1) k n), fun x => by rw [z1.perm.mem_iff]; exact mem_wit H, (by rw [z1.len]; exact h64)⟩
theorem bnames_ok {h0 : AH} (w : WfH h0) {p : Nat} {r : Rl} (B : BkRd h0 p r) (H : RO r) : Fn Tryz.prog Xh 73 [.pointer (some ⟨p, 0, none⟩)] h0 (fun u h' => ∃ l, Hs h0 h' [.sl u 9 1 eS l] ∧ SS l ∧ (∀ x, x ∈ l ↔ gat r.us x ≠ none) ∧ l.length = r.us.length) := by
  have S := Hs.start w
  obtain ⟨s, B⟩ := B
  have hb := B.bk
  have hrg := B.rg
  have hgl := B.len
  have h64 := H.l64
  refine Fn_K rfl Tryz.func73 rfl rfl ?_
  all_goals (repeat' (first | refine K_seq ?_ | (refine K_region (id := 0) ?_; refine mv ?_; refine KO_nil ?_) | (refine K_region (id := 1) ?_; refine mv ?_; refine KO_nil ?_)))
  have S := S.nilS (e := 9) (z := 1) (enc := eS)
  all_goals (repeat' (first | refine k_block ?_ | (refine K_region (id := 2) ?_; refine mv ?_; refine vl ?_; refine vl ?_; refine vl ?_; refine lH S ?_; refine lnB S ?_; refine mv ?_; refine KO_nil ?_)))
  refine k_loop (σ := Nat × Value) (fun (i, v) h' => Hs h0 h' [.sl v 9 1 eS ((r.us.take i).map (·.name))] ∧ i ≤ r.us.length) (fun (i, v) => r.us.length - i) (fun (i, v) => [(3, v), (10, s.vg.val), (11, .int .i64 s.gs.length), (12, .int .i64 i)]) (0, .slice none 0 0) (by repeat (first | exact Ks.le_nil _ | refine Ks.le_cons rfl ?_)) ?_ ?_
  · exact ⟨S, Nat.zero_le _⟩
  clear S
  rintro ⟨i, v⟩ h ⟨S, g1⟩
  all_goals (repeat' (first | refine K_seq ?_ | refine k_cond rfl ?_ | refine K_skip ?_ | refine K_exit ?_ | refine k_block ?_ | (refine K_region (id := 3) ?_; (first | (refine cS ?_ ?_ <;> intro hc)) <;> (refine KO_nil ?_)) | (refine K_region (id := 4) ?_; refine ixB S ?_; refine lEB S ?_; (refine al S ?_; clear S; intro b h S); (first | (refine sB S rfl rfl ?_; clear S; intro h S)); refine KO_nil ?_) | (refine K_region (id := 5) ?_; refine mv ?_; refine vl ?_; refine lB S rfl rfl ?_; (refine one 1 S ?_; clear S; intro u h S))))
  · have hil : i < s.gs.length := by omega
    have hg := B.g hil
    simp only [Int.toNat_natCast] at *
    refine app (y0 := (s.gs.getD i default).name) S rfl rfl ?_; clear S; intro v' h S; (refine mv ?_; refine KO_nil ?_)
    all_goals (repeat' (first | (refine K_region (id := 6) ?_; refine ad ?_; refine mv ?_; refine KO_nil ?_)))
    refine ⟨(i + 1, v'), ?_, ?_, (by repeat (first | exact Ks.le_nil _ | refine Ks.le_cons rfl ?_))⟩
    · show r.us.length - (i + 1) < r.us.length - i; omega
    · refine ⟨?_, by (try dsimp only); omega⟩
      dsimp only
      have e : (r.us.take (i + 1)).map (·.name) = (r.us.take i).map (·.name) ++ [(s.gs.getD i default).name] := by rw [take_succ_getD (by omega), ← hg]; simp
      rw [e]
      exact S.pick
  · obtain rfl : i = r.us.length := by omega
    rw [List.take_length] at S
    skip
    all_goals (repeat' (first | (refine K_region (id := 7) ?_; refine mv ?_)))
    have hl2 : (r.us.map (·.name)).length < 250 := by simp; omega
    (refine KO_fn rfl rfl rfl rfl rfl ((sort_o S hl2).mono ?_); rintro _ h ⟨l, z1, z2, S⟩) <;> (refine KO_nil ?_)
    all_goals (repeat' (first | refine K_seq ?_ | (refine K_region (id := 8) ?_; refine mv ?_; refine mv ?_; refine KO_nil ?_)))
    refine K_ret ⟨_, rfl, ?_⟩
    have hn : (r.us.map (·.name)).Nodup := by
      rw [List.Nodup, List.pairwise_iff_getElem]
      intro i j hi hj hij
      simp only [List.length_map] at hi hj
      have := H.nd i j hij hj
      rw [List.getD_eq_getElem?_getD, List.getD_eq_getElem?_getD, List.getElem?_eq_getElem hj, List.getElem?_eq_getElem hi] at this
      simpa using this
    refine ⟨l, S, SS.of z1 z2 hn, fun x => ?_, (by rw [z1.len]; simp)⟩
    rw [z1.perm.mem_iff, gat_mem, List.mem_map]
theorem find_ok {h0 : AH} (w : WfH h0) {p : Nat} {r : Rl} (B : BkRd h0 p r) (H : RO r) (n : List UInt8) : Fn Tryz.prog Xh 26 [.pointer (some ⟨p, 0, none⟩), str n] h0 (fun u h' => (∃ (i : Nat) (tv : SlV), gat r.us n = some i ∧ u = .tuple #[gV ⟨r.us.getD i default, tv⟩, .bool true] ∧ Hs h0 h' [.sl tv.val 9 1 eS (r.us.getD i default).tg]) ∨ (gat r.us n = none ∧ u = .tuple #[gV ⟨default, ⟨none, 0, 0⟩⟩, .bool false] ∧ Hs h0 h' [])) := by
  have S := Hs.start w
  obtain ⟨s, B⟩ := B
  have hb := B.bk
  have hrg := B.rg
  have hgl := B.len
  have h64 := H.l64
  refine Fn_K rfl Tryz.func26 rfl rfl ?_
  all_goals (repeat' (first | refine K_seq ?_ | (refine K_region (id := 0) ?_; (refine al S ?_; clear S; intro b h S); refine mv ?_; refine KO_nil ?_) | (refine K_region (id := 1) ?_; refine mv ?_)))
  (refine KO_fn rfl rfl rfl rfl rfl ((bnone_ok S.wf (S.ext.get w hb)).mono ?_); rintro _ h ⟨rfl, x⟩) <;> (replace S := S.join0 x; clear x; refine KO_nil ?_)
  all_goals (repeat' (first | refine K_seq ?_ | refine k_cond rfl ?_ | refine K_skip ?_ | (refine K_region (id := 3) ?_; refine mv ?_; refine vl ?_; refine vl ?_; refine lH S ?_; refine mv ?_)))
  have hmp := B.mp.ext w S.ext
  refine lkR hmp (fun i hi => ?_) (fun hi => ?_)
  · simp only [okV]
    (refine mv ?_; refine vl ?_; refine vl ?_; refine mv ?_; refine mv ?_; refine KO_nil ?_)
    rw [B.at_ n] at hi
    cases hq : gat r.us n with
    | none => rw [hq] at hi; cases hi
    | some i' =>
      rw [hq] at hi; cases hi
      obtain ⟨q1, q2, q3⟩ := gat_some hq
      have hil : i' < s.gs.length := by omega
      have hg := B.g hil
      have hd := H.chk _ (mem_getD q1)
      have h4 := (chkG_ok hd).2.2.2.1
      all_goals (repeat' (first | refine K_seq ?_ | refine k_cond rfl ?_ | refine K_skip ?_ | (refine K_region (id := 4) ?_; refine mv ?_; refine vl ?_; refine KO_nil ?_) | (refine K_region (id := 6) ?_; refine mv ?_; refine vl ?_; refine vl ?_; refine vl ?_; refine lH S ?_; refine mv ?_; refine ixB S ?_; refine lEB S ?_)))
      have e1 : (Int.ofNat i').toNat = i' := rfl
      simp only [e1]
      (refine KO_fn rfl rfl rfl rfl rfl ((copied_ok S.wf (s.gs.getD i' default) ((B.tg i' hil).ext w S.ext) (by grind)).mono ?_); rintro _ h ⟨tv, rfl, x⟩) <;> (replace S := S.join1 x; clear x; (first | (refine sB S rfl rfl ?_; clear S; intro h S)); refine mv ?_; refine KO_nil ?_)
      rw [hg] at S
      all_goals (repeat' (fail))
      refine K_ret ⟨_, ret_cell S rfl (by first | exact .there .here) (by exact rfl) (by exact rfl), ?_⟩
      exact .inl ⟨i', tv, rfl, rfl, S.only .here⟩
  · simp only [okV]
    (refine mv ?_; refine vl ?_; refine vl ?_; refine mv ?_; refine mv ?_; refine KO_nil ?_)
    skip
    all_goals (repeat' (first | refine K_seq ?_ | refine k_cond rfl ?_ | (refine K_region (id := 4) ?_; refine mv ?_; refine vl ?_; refine KO_nil ?_) | (refine K_region (id := 5) ?_; refine vl ?_; (first | (refine sB S rfl rfl ?_; clear S; intro h S)); refine mv ?_; refine KO_nil ?_)))
    refine K_ret ⟨_, ret_cell S rfl (by first | exact .here) (by exact rfl) (by exact rfl), ?_⟩
    refine .inr ⟨?_, rfl, S.drop⟩
    rw [B.at_ n] at hi
    cases hq : gat r.us n with
    | none => rfl
    | some i' => rw [hq] at hi; cases hi
theorem tied_ok {h0 : AH} (w : WfH h0) {p : Nat} {r : Rl} (B : BkRd h0 p r) (H : RO r) (a b : List UInt8) : Fn Tryz.prog Xh 36 [.pointer (some ⟨p, 0, none⟩), str a, str b] h0 (fun u h' => ((∃ t ∈ r.ts, t.a = sMin a b ∧ t.b = sMax a b ∧ u = .tuple #[.int .u8 t.k, .bool true]) ∨ (¬ tied r.ts a b ∧ u = .tuple #[.int .u8 0, .bool false])) ∧ Hs h0 h' []) := by
  have S := Hs.start w
  obtain ⟨s, B⟩ := B
  have hb := B.bk
  have hrt := B.rt
  have h256 := H.l256
  refine Fn_K rfl Tryz.func36 rfl rfl ?_
  all_goals (repeat' (first | refine K_seq ?_ | (refine K_region (id := 0) ?_; refine mv ?_; refine mv ?_; refine KO_nil ?_) | (refine K_region (id := 1) ?_; refine mv ?_)))
  (refine KO_fn rfl rfl rfl rfl rfl ((bnone_ok S.wf hb).mono ?_); rintro _ h ⟨rfl, x⟩) <;> (replace S := S.join0 x; clear x; refine KO_nil ?_)
  all_goals (repeat' (first | refine K_seq ?_ | refine k_cond rfl ?_ | refine K_skip ?_ | (refine K_region (id := 3) ?_; refine mv ?_; refine mv ?_; refine mv ?_; skip)))
  (refine KO_fn rfl rfl rfl rfl rfl ((place_ok S.wf (S.ext.get w hb) (hrt.ext w S.ext) (by omega) H.ts a b).mono ?_); rintro _ h ⟨⟨j, _ | _, rfl, p1, p2⟩, x⟩) <;> (replace S := S.join0 x; clear x; refine mv ?_; refine vl ?_; refine vl ?_; refine mv ?_; refine mv ?_; refine KO_nil ?_)
  · all_goals (repeat' (first | refine K_seq ?_ | refine k_cond rfl ?_ | (refine K_region (id := 4) ?_; refine mv ?_; refine vl ?_; refine KO_nil ?_) | (refine K_region (id := 5) ?_; refine mv ?_; refine mv ?_; refine KO_nil ?_)))
    refine K_ret ⟨_, rfl, ?_⟩
    exact ⟨.inr ⟨fun q => (by have := p2.2 ((p1.tied H.ts).1 q); cases this), rfl⟩, S⟩
  · obtain ⟨z1, z2, z3⟩ := p2.1 rfl
    skip
    all_goals (repeat' (first | refine K_seq ?_ | refine k_cond rfl ?_ | refine K_skip ?_ | (refine K_region (id := 4) ?_; refine mv ?_; refine vl ?_; refine KO_nil ?_) | (refine K_region (id := 6) ?_; refine mv ?_; refine vl ?_; refine vl ?_; refine vl ?_; refine lH S ?_; refine mv ?_; refine ixB S ?_; refine fB S ?_; refine lEB S ?_; refine mv ?_; refine mv ?_; refine KO_nil ?_)))
    refine K_ret ⟨_, rfl, ?_⟩
    exact ⟨.inl ⟨_, mem_getD z1, z2, z3, rfl⟩, S⟩
end Go.Proofs.Xx

/-
  Rolls compared; a book's roll.
-/
namespace Go.Proofs.Xx
open Go Go.Proofs
set_option linter.unusedSimpArgs false
set_option linter.unusedVariables false
set_option linter.unusedSectionVars false
set_option maxRecDepth 100000
set_option maxHeartbeats 4000000

section
variable {P : Program} {X : Extern} {sz : Nat} {L : Ks} {h h0 : AH} {rs : List Rs} {ops : Array Oper} {os : List Oper} {o : Oper} {R : Ks → AH → Prop}
/-- Two truths compared. -/
theorem bE {L1 L2 : Ks} {x y : Operand} {ty ty2 : TypeId} {a b : Bool} (w1 : a = b → KO P X sz ops os L1 h R) (w2 : ¬ a = b → KO P X sz ops os L2 h R) (ho : o.op = .binOp .eql ty x y ty2 := by exact rfl) (hg : guardA ops L.tree o.guard = some true := by exact rfl) (hx : kA L x = some (.bool a) := by exact rfl) (hy : kA L y = some (.bool b) := by exact rfl) (hu : P.underlying ty = some .bool := by exact rfl)
    (hp1 : putK sz L o.dst (.bool true) = some L1 := by exact rfl) (hp2 : putK sz L o.dst (.bool false) = some L2 := by exact rfl) : KO P X sz ops (o :: os) L h R := by
  by_cases p : a = b
  · subst p; exact KO_bin ho hg hx hy (v := .bool true) (by cases a <;> simp [aBin, hu]) hp1 (w1 rfl)
  · exact KO_bin ho hg hx hy (v := .bool false) (by cases a <;> cases b <;> first | exact absurd rfl p | simp [aBin, hu]) hp2 (w2 p)
end
theorem eq_getD {α : Type} [Inhabited α] {l m : List α} (hl : l.length = m.length) (h : ∀ i, i < l.length → l.getD i default = m.getD i default) : l = m := by
  apply List.ext_getElem hl
  intro i h1 h2
  have := h i h1
  rwa [List.getD_eq_getElem?_getD, List.getD_eq_getElem?_getD, List.getElem?_eq_getElem h1, List.getElem?_eq_getElem h2] at this
theorem Star.snoc {h : AH} {r : Rs} {fp : Fp} (hr : r.ok h fp) : ∀ {l : List Rs} {U : Fp}, Star h l U → (∀ b, fp b → ¬ U b) → Star h (l ++ [r]) (fun b => U b ∨ fp b)
  | [], U, _, _ => ⟨fp, hr, fun b hb => .inr hb, trivial⟩
  | x :: l, U, ⟨fx, h1, h2, h3⟩, hd => ⟨fx, h1, fun b hb => .inl (h2 b hb), (Star.snoc hr h3 fun b hb q => hd b hb q.1).mono fun b hb => by
      rcases hb with hb | hb
      · exact ⟨.inl hb.1, hb.2⟩
      · exact ⟨.inr hb, fun q => hd b hb (h2 b q)⟩⟩
abbrev slOf (g : Gst) : Rs := .sl g.tv.val 9 1 eS g.tg
/-- The tongues of all guests, each one's own. -/
abbrev tgO (gs : List Gst) : Rs := .any (fun h fp => Star h (gs.map slOf) fp)
theorem Star.get {h : AH} {r : Rs} : ∀ {l : List Rs} {U : Fp}, Star h l U → r ∈ l → ∃ fp, r.ok h fp
  | x :: l, U, ⟨fx, h1, h2, h3⟩, hr => by
    rcases List.mem_cons.1 hr with rfl | hr
    · exact ⟨fx, h1⟩
    · exact Star.get h3 hr
/-- A roll of one's own. -/
abbrev rolL (v : RlV) (ts : List Ti) : List Rs := [.sl v.vg.val 24 9 eG v.gs, .sl v.vt.val 111 3 eTi ts, tgO v.gs]
variable [Flag]
theorem sameWords_ok {h0 : AH} (w : WfH h0) (v u : Value) (l m : List (List UInt8)) (rv : RdL h0 v 1 eS l) (ru : RdL h0 u 1 eS m) (hl : l.length ≤ 9223372036854775807) (hm : m.length ≤ 9223372036854775807) : Fn Tryz.prog Xh 60 [v, u] h0 (fun x h' => BoolIs x (l = m) ∧ Hs h0 h' []) := by
  have S := Hs.start w
  refine Fn_K rfl Tryz.func60 rfl rfl ?_
  all_goals (repeat' (first | refine K_seq ?_ | refine k_cond rfl ?_ | refine K_skip ?_ | refine k_block ?_ | (refine K_region (id := 0) ?_; refine mv ?_; refine KO_nil ?_) | (refine K_region (id := 1) ?_; refine mv ?_; refine lnB S ?_; refine mv ?_; refine lnB S ?_; (first | (refine cS ?_ ?_ <;> intro hc)) <;> (refine KO_nil ?_)) | (refine K_region (id := 2) ?_; refine mv ?_; refine KO_nil ?_) | (refine K_region (id := 3) ?_; refine mv ?_; refine KO_nil ?_)))
  · refine K_ret ⟨_, rfl, ?_⟩
    exact ⟨.inr ⟨rfl, fun q => by subst q; exact hc rfl⟩, S⟩
  · refine k_loop (σ := Nat) (fun i h' => Hs h0 h' [] ∧ i ≤ l.length ∧ ∀ j, j < i → l.getD j default = m.getD j default) (fun i => l.length - i) (fun i => [(0, v), (1, u), (5, .int .i64 i)]) 0 (by repeat (first | exact Ks.le_nil _ | refine Ks.le_cons rfl ?_)) ?_ ?_
    · exact ⟨S, Nat.zero_le _, fun j hj => absurd hj (Nat.not_lt_zero _)⟩
    clear S
    rintro i h ⟨S, g1, g2⟩
    all_goals (repeat' (first | refine K_seq ?_ | refine k_cond rfl ?_ | refine K_skip ?_ | refine K_exit ?_ | refine k_block ?_ | (refine K_region (id := 4) ?_; refine mv ?_; refine mv ?_; refine lnB S ?_; (first | (refine cS ?_ ?_ <;> intro hc)) <;> (refine KO_nil ?_)) | (refine K_region (id := 5) ?_; refine mv ?_; refine ad ?_; refine mv ?_; refine KO_nil ?_) | (refine K_draw (id := 6) ?_; refine mv ?_; refine mv ?_; refine ixB S ?_; refine lEB S ?_; refine mv ?_; refine mv ?_; refine ixB S ?_; refine lEB S ?_; (refine tS ?_ ?_ <;> intro hc) <;> (refine KO_nil ?_)) | (refine K_region (id := 7) ?_; refine mv ?_; refine KO_nil ?_) | (refine K_region (id := 8) ?_; refine mv ?_; refine KO_nil ?_)))
    all_goals (try simp only [Int.toNat_natCast] at *)
    · refine ⟨i + 1, ?_, ?_, (by repeat (first | exact Ks.le_nil _ | refine Ks.le_cons rfl ?_))⟩
      · show l.length - (i + 1) < l.length - i; omega
      · exact ⟨S, by omega, nxtD g2 hc⟩
    · refine K_ret ⟨_, rfl, ?_⟩
      exact ⟨.inr ⟨rfl, fun q => by subst q; exact hc rfl⟩, S⟩
    · refine K_ret ⟨_, rfl, ?_⟩
      exact ⟨.inl ⟨rfl, eq_getD (by omega) fun j hj => g2 j (by omega)⟩, S⟩
theorem sameGuest_ok {h0 : AH} (w : WfH h0) (g k : Gst) (rg : RdL h0 g.tv.val 1 eS g.tg) (rk : RdL h0 k.tv.val 1 eS k.tg) (hg : g.tg.length ≤ 9223372036854775807) (hk : k.tg.length ≤ 9223372036854775807) : Fn Tryz.prog Xh 62 [gV g, gV k] h0 (fun x h' => BoolIs x (g.toGu = k.toGu) ∧ Hs h0 h' []) := by
  have S := Hs.start w
  obtain ⟨⟨n1, n2, n3, n4, n5, n6, n7, n8, n9⟩, n10⟩ := g
  obtain ⟨⟨m1, m2, m3, m4, m5, m6, m7, m8, m9⟩, m10⟩ := k
  unfold gV
  dsimp only at *
  refine Fn_K rfl Tryz.func62 rfl rfl ?_
  skip
  all_goals (repeat' (first | refine K_seq ?_ | (refine K_region (id := 0) ?_; (refine bx S ?_; clear S; intro b h S); (refine bx S ?_; clear S; intro b h S); refine mv ?_; refine KO_nil ?_) | (refine K_region (id := 1) ?_; refine vl ?_; refine lB S rfl rfl ?_; refine vl ?_; refine lB S rfl rfl ?_; (refine tS ?_ ?_ <;> intro hc) <;> (refine mv ?_; (first | refine off ?_ | (refine vl ?_)); (first | refine off ?_ | (refine lB S rfl rfl ?_)); (first | refine off ?_ | (refine vl ?_)); (first | refine off ?_ | (refine lB S rfl rfl ?_)); (first | refine off ?_ | (refine tS ?_ ?_ <;> intro hc)) <;> (refine vl ?_; refine mv ?_; (first | refine off ?_ | (refine vl ?_)); (first | refine off ?_ | (refine lB S rfl rfl ?_)); (first | refine off ?_ | (refine vl ?_)); (first | refine off ?_ | (refine lB S rfl rfl ?_)); (first | refine off ?_ | (refine tS ?_ ?_ <;> intro hc)) <;> (refine vl ?_; refine mv ?_; (first | refine off ?_ | (refine vl ?_)); (first | refine off ?_ | (refine lB S rfl rfl ?_)); (first | refine off ?_ | (refine vl ?_)); (first | refine off ?_ | (refine lB S rfl rfl ?_)); (first | refine off ?_ | (first | (refine cS ?_ ?_ <;> intro hc))) <;> (refine vl ?_; refine mv ?_; (first | refine off ?_ | (refine vl ?_)); (first | refine off ?_ | (refine lB S rfl rfl ?_)); (first | refine off ?_ | (refine vl ?_)); (first | refine off ?_ | (refine lB S rfl rfl ?_)); (first | refine off ?_ | (first | (refine cS ?_ ?_ <;> intro hc))) <;> (refine vl ?_; refine mv ?_; (first | refine off ?_ | (refine vl ?_)); (first | refine off ?_ | (refine lB S rfl rfl ?_)); (first | refine off ?_ | (refine vl ?_)); (first | refine off ?_ | (refine lB S rfl rfl ?_)); (first | refine off ?_ | (refine tS ?_ ?_ <;> intro hc)) <;> (refine vl ?_; refine mv ?_; (first | refine off ?_ | (refine vl ?_)); (first | refine off ?_ | (refine lB S rfl rfl ?_)); (first | refine off ?_ | (refine vl ?_)); (first | refine off ?_ | (refine lB S rfl rfl ?_)); (first | refine off ?_ | (refine bE ?_ ?_ <;> intro hc)) <;> (refine vl ?_; refine mv ?_; (first | refine off ?_ | (refine vl ?_)); (first | refine off ?_ | (refine lB S rfl rfl ?_)); (first | refine off ?_ | (refine vl ?_)); (first | refine off ?_ | (refine lB S rfl rfl ?_)); (first | refine off ?_ | (refine bE ?_ ?_ <;> intro hc)) <;> (refine vl ?_; refine mv ?_; (first | refine off ?_ | (refine vl ?_)); (first | refine off ?_ | (refine lB S rfl rfl ?_)); (first | refine off ?_ | (refine vl ?_)); (first | refine off ?_ | (refine lB S rfl rfl ?_)); (first | (refine off ?_; refine vl ?_; refine mv ?_; refine KO_nil ?_) | skip))))))))))))
  · (refine KO_fn rfl rfl rfl rfl rfl ((sameWords_ok S.wf n10.val m10.val n9 m9 (rg.ext w S.ext) (rk.ext w S.ext) hg hk).mono ?_); rintro _ h ⟨⟨rfl, z⟩ | ⟨rfl, z⟩, x⟩) <;> (replace S := S.join0 x; clear x; refine vl ?_; refine mv ?_; refine KO_nil ?_)
    · all_goals (repeat' (fail))
      refine K_ret ⟨_, rfl, ?_⟩
      refine ⟨.inl ⟨rfl, ?_⟩, S.drop⟩
      simp only [Gu.mk.injEq]
      exact ⟨by assumption, by assumption, by assumption, by assumption, by assumption, by assumption, by assumption, by assumption, z⟩
    · all_goals (repeat' (fail))
      refine K_ret ⟨_, rfl, ?_⟩
      refine ⟨.inr ⟨rfl, fun q => ?_⟩, S.drop⟩
      simp only [Gu.mk.injEq] at q
      exact z q.2.2.2.2.2.2.2.2
  all_goals
    refine K_ret ⟨_, rfl, ?_⟩
    refine ⟨.inr ⟨rfl, fun q => ?_⟩, S.drop⟩
    simp only [Gu.mk.injEq] at q
    exact absurd (by first | exact q.1 | exact q.2.1 | exact q.2.2.1 | exact q.2.2.2.1 | exact q.2.2.2.2.1 | exact q.2.2.2.2.2.1 | exact q.2.2.2.2.2.2.1 | exact q.2.2.2.2.2.2.2.1) hc
end Go.Proofs.Xx

/-
  Rows with room, op by op; Delete; Untie.
-/
namespace Go.Proofs.Xx
open Go Go.Proofs
set_option linter.unusedSimpArgs false
set_option linter.unusedVariables false
set_option linter.unusedSectionVars false
set_option maxRecDepth 100000
set_option maxHeartbeats 4000000

/-- One block is changed at most, blocks are made at most. -/
structure Chg (h h' : AH) (b : Nat) (o : AObj) : Prop where
  at_ : h'.get b = some o
  old : ∀ j, j ≠ b → j < h.next → h'.get j = h.get j
  next : h.next ≤ h'.next
  wf : WfH h'
theorem Chg.trans {h h' h'' : AH} {b : Nat} {o o' : AObj} (c : Chg h h' b o) (d : Chg h' h'' b o') : Chg h h'' b o' :=
  ⟨d.at_, fun j hj hn => (d.old j hj (Nat.lt_of_lt_of_le hn c.next)).trans (c.old j hj hn), Nat.le_trans c.next d.next, d.wf⟩
theorem splice_nil {c : List Value} {o : Nat} (h : o ≤ c.length) : splice c o [] = c := by simp [splice]
section
variable {P : Program} {X : Extern} {sz : Nat} {L L' : Ks} {h : AH} {ops : Array Oper} {os : List Oper} {o : Oper} {R : Ks → AH → Prop}
/-- v[l:r], raw. -/
theorem rw2 {x : Operand} {lo hi : Option Operand} {vl vr : Option Value} {ty e' e : TypeId} {b o' n cap l r z : Nat} {cc : List Value} {slk : Option Nat} {ro : Bool} {d : Tmp} (hb : h.get b = some (.cells cc e slk ro))
    (w : ∀ o2, (l < cap → o2 = o' + l * z) → (slk ≠ none → o2 = o' + l * z) → KO P X sz ops os (L.put d (.slice (some ⟨b, o2, none⟩) (r - l) (cap - l))) h R) (ho : o.op = .slice ty x lo hi none := by exact rfl) (hg : guardA ops L.tree o.guard = some true := by exact rfl) (hx : kA L x = some (.slice (some ⟨b, o', none⟩) n cap) := by exact rfl)
    (h1 : evOpt L.tree lo = some vl := by exact rfl) (h2 : evOpt L.tree hi = some vr := by exact rfl) (b1 : boundOf vl 0 = some l := by exact rfl) (b2 : boundOf vr n = some r := by exact rfl)
    (hc : l ≤ r ∧ r ≤ cap := by omega) (hu : P.underlying ty = some (.slice e') := by exact rfl) (hz : sizeT P e' = some z := by exact rfl) (hdst : o.dst = some d := by exact rfl) (hds : Nat.blt d sz = true := by exact rfl) : KO P X sz ops (o :: os) L h R := by
  have key : ∀ o2, aSlice P ty (.slice (some ⟨b, o', none⟩) n cap) vl vr none h = some (.slice (some ⟨b, o2, none⟩) (r - l) (cap - l)) → (l < cap → o2 = o' + l * z) → (slk ≠ none → o2 = o' + l * z) → KO P X sz ops (o :: os) L h R := fun o2 q1 q2 q3 => by
    refine KO_val (v := .slice (some ⟨b, o2, none⟩) (r - l) (cap - l)) (h' := h) hg ?_ (by simp only [putK, hdst, hds]) (w o2 q2 q3)
    rw [ho]
    simp only [aOp, tree_le hx, h1, h2, show evOpt L.tree none = some none from rfl, q1, nextOf, aSlice3_none]
  cases hq : slk.isNone && Nat.beq l cap with
  | true =>
    rw [Bool.and_eq_true] at hq
    have hl := Nat.eq_of_beq_eq_true hq.2
    subst hl
    refine key o' ?_ (fun q => by omega) (fun q => by cases slk with | none => exact absurd rfl q | some k => cases hq.1)
    simp only [aSlice, hu, hb, hz, b1, b2, Nat.ble_eq_true_of_le hc.1, Nat.ble_eq_true_of_le hc.2, Bool.and_self, hq.1, show Nat.beq l l = true by simp]
  | false =>
    refine key (o' + l * z) ?_ (fun _ => rfl) (fun _ => rfl)
    simp only [aSlice, hu, hb, hz, b1, b2, Nat.ble_eq_true_of_le hc.1, Nat.ble_eq_true_of_le hc.2, Bool.and_self, hq]
/-- append where there is room. -/
theorem rwa {x y : Operand} {ts tx e e2 : TypeId} {zc new cc : List Value} {by_ b o' n cap m z : Nat} {slk : Option Nat} {u : Value} {d : Tmp} (hb : h.get b = some (.cells cc e2 slk false)) (wf : WfH h) (hr : Rd h u z m new)
    (w : ∀ h', Chg h h' b (.cells (splice cc (o' + n * z) new) e2 slk false) → KO P X sz ops os (L.put d (.slice (some ⟨b, o', none⟩) (n + m) cap)) h' R)
    (ho : o.op = .call { callee := .builtin .append, args := #[x, y], argTypes := #[ts, tx] } := by exact rfl) (hg : guardA ops L.tree o.guard = some true := by exact rfl) (hx : kA L x = some (.slice (some ⟨b, o', none⟩) n cap) := by exact rfl) (hy : kA L y = some u := by exact rfl)
    (hs : sliceElem P ts = some e := by exact rfl) (hz : zeroCellsT P e = some zc := by exact rfl) (hzl : zc.length = z := by exact rfl) (hby : bytesT P e = some (by_ + 1) := by exact rfl) (hxs : P.underlying tx = some (.slice e) := by exact rfl)
    (hc : n + m ≤ cap := by omega) (hcc : o' + cap * z ≤ cc.length := by assumption) (h1 : new.all one? = true := by assumption) (hsz : (m + 1) * (by_ + 1) ≤ 1099511627776 := by omega) (hdst : o.dst = some d := by exact rfl) (hds : Nat.blt d sz = true := by exact rfl) : KO P X sz ops (o :: os) L h R := by
  subst hzl
  have hlen := hr.length
  have hfit : o' + n * zc.length + new.length ≤ cc.length := by
    rw [hlen, Nat.add_assoc, ← Nat.add_mul]
    exact Nat.le_trans (Nat.add_le_add_left (Nat.mul_le_mul_right _ hc) _) hcc
  have k2 : Nat.beq new.length (m * zc.length) = true := by rw [hlen]; simp
  have hsrc : aSource zc.length u h = some (m, new) := hr.source
  have go : ∀ h', aAppend P [ts, tx] (.slice (some ⟨b, o', none⟩) n cap) u h = some (.slice (some ⟨b, o', none⟩) (n + m) cap, h') → Chg h h' b (.cells (splice cc (o' + n * zc.length) new) e2 slk false) → KO P X sz ops (o :: os) L h R := fun h' q1 q2 => by
    refine KO_val (v := .slice (some ⟨b, o', none⟩) (n + m) cap) (h' := h') hg ?_ (by simp only [putK, hdst, hds]) (w h' q2)
    rw [ho]
    simp [aOp, tree_le hx, tree_le hy, evAll, aBuiltin, q1, nextOf2]
  cases m with
  | zero =>
    have hn : new = [] := List.length_eq_zero_iff.1 (by omega)
    subst hn
    refine go h ?_ ⟨by rw [splice_nil (by simp at hfit; omega)]; exact hb, fun _ _ _ => rfl, Nat.le_refl _, wf⟩
    simp only [aAppend, hs, hxs, hz, hby, hsrc, Nat.ble_eq_true_of_le hsz, h1, k2, Bool.and_self, hb, Nat.ble_eq_true_of_le (show n ≤ cap from hc), Nat.add_zero]
  | succ m =>
    refine go (h.put b (.cells (splice cc (o' + n * zc.length) new) e2 slk false)) ?_ ⟨by rw [AH.get_put, if_pos rfl], fun j hj _ => by rw [AH.get_put, if_neg hj], Nat.le_refl _, wf.put (wf.lt hb) _⟩
    simp only [aAppend, hs, hxs, hz, hby, hsrc, Nat.ble_eq_true_of_le hsz, h1, k2, Bool.and_self, hb, Nat.ble_eq_true_of_le hc, putCells, Nat.ble_eq_true_of_le hfit]
/-- clear. -/
theorem zrow_len (zc : List Value) : ∀ n, (zeroRow zc n).length = n * zc.length
  | 0 => by simp [zeroRow]
  | n + 1 => by rw [zeroRow, List.length_append, zrow_len zc n, Nat.add_mul, Nat.one_mul, Nat.add_comm]
theorem zrow_one {zc : List Value} (h : zc.all one? = true) : ∀ n, (zeroRow zc n).all one? = true
  | 0 => rfl
  | n + 1 => by rw [zeroRow, List.all_append, h, zrow_one h n]; rfl
theorem rwc {x : Operand} {ty e e2 : TypeId} {zc cc : List Value} {b o' n cap : Nat} {slk : Option Nat} (hb : h.get b = some (.cells cc e2 slk false)) (wf : WfH h)
    (w : ∀ h', Chg h h' b (.cells (splice cc o' (zeroRow zc n)) e2 slk false) → KO P X sz ops os L' h' R)
    (ho : o.op = .call { callee := .builtin .clear, args := #[x], argTypes := #[ty] } := by exact rfl) (hg : guardA ops L.tree o.guard = some true := by exact rfl) (hx : kA L x = some (.slice (some ⟨b, o', none⟩) n cap) := by exact rfl)
    (hu : P.underlying ty = some (.slice e) := by exact rfl) (hz : zeroCellsT P e = some zc := by exact rfl) (h1 : zc.all one? = true := by exact rfl) (hfit : o' + n * zc.length ≤ cc.length := by omega) (hp : putK sz L o.dst (.tuple #[]) = some L' := by exact rfl) : KO P X sz ops (o :: os) L h R := by
  have go : ∀ h', aClear P ty (.slice (some ⟨b, o', none⟩) n cap) h = some h' → Chg h h' b (.cells (splice cc o' (zeroRow zc n)) e2 slk false) → KO P X sz ops (o :: os) L h R := fun h' q1 q2 => by
    refine KO_val (v := .tuple #[]) (h' := h') hg ?_ hp (w h' q2)
    rw [ho]
    simp [aOp, tree_le hx, evAll, aBuiltin, q1]
  have hfit2 : o' + (zeroRow zc n).length ≤ cc.length := by rw [zrow_len]; exact hfit
  cases n with
  | zero =>
    refine go h ?_ ⟨by show _ = some (AObj.cells (splice cc o' []) e2 slk false); rw [splice_nil (by omega)]; exact hb, fun _ _ _ => rfl, Nat.le_refl _, wf⟩
    simp only [aClear, hu]
  | succ n =>
    refine go (h.put b (.cells (splice cc o' (zeroRow zc (n + 1))) e2 slk false)) ?_ ⟨by rw [AH.get_put, if_pos rfl], fun j hj _ => by rw [AH.get_put, if_neg hj], Nat.le_refl _, wf.put (wf.lt hb) _⟩
    simp only [aClear, hu, hz, hb, putCells, zrow_one h1, Nat.ble_eq_true_of_le hfit2, Bool.and_self]
end
theorem takeAt_ext {c xs : List Value} {o n : Nat} (hl : xs.length = n) (hfit : o + n ≤ c.length) (hg : ∀ j, j < n → c[o + j]? = xs[j]?) : takeAt c o n = some xs := by
  rw [takeAt_mk hfit]
  congr 1
  apply List.ext_getElem?
  intro j
  rw [List.getElem?_take]
  split
  · rw [List.getElem?_drop]; exact hg j (by assumption)
  · rw [List.getElem?_eq_none (by omega)]
variable [Flag]
end Go.Proofs.Xx

/-
  Untie.
-/
namespace Go.Proofs.Xx
open Go Go.Proofs
set_option linter.unusedSimpArgs false
set_option linter.unusedVariables false
set_option linter.unusedSectionVars false
set_option maxRecDepth 100000
set_option maxHeartbeats 4000000

/-- The ties but for a pair's. -/
def untT (ts : List Ti) (a b : List UInt8) : List Ti := ts.filter fun t => !decide (t.a = sMin a b ∧ t.b = sMax a b)
open Classical in
noncomputable def untieF (r : Rl) (a b : List UInt8) : Rl × Int := if tied r.ts a b then (⟨r.us, untT r.ts a b⟩, 0) else (r, 6)
variable [Flag]
end Go.Proofs.Xx

/-
  Delete of a guest.
-/
namespace Go.Proofs.Xx
open Go Go.Proofs
set_option linter.unusedSimpArgs false
set_option linter.unusedVariables false
set_option linter.unusedSectionVars false
set_option maxRecDepth 100000
set_option maxHeartbeats 4000000

variable [Flag]
end Go.Proofs.Xx

/-
  The map is written anew.
-/
namespace Go.Proofs.Xx
open Go Go.Proofs
set_option linter.unusedSimpArgs false
set_option linter.unusedVariables false
set_option linter.unusedSectionVars false
set_option maxRecDepth 100000
set_option maxHeartbeats 4000000

section
variable {P : Program} {X : Extern} {sz : Nat} {L L' : Ks} {h h0 : AH} {rs : List Rs} {ops : Array Oper} {os : List Oper} {o : Oper} {R : Ks → AH → Prop}
end
variable [Flag]
end Go.Proofs.Xx

/-
  DeleteFunc on ties.
-/
namespace Go.Proofs.Xx
open Go Go.Proofs
set_option linter.unusedSimpArgs false
set_option linter.unusedVariables false
set_option linter.unusedSectionVars false
set_option maxRecDepth 100000
set_option maxHeartbeats 4000000

/-- A tie of the guest n. -/
def hasT (n : List UInt8) (t : Ti) : Prop := t.a = n ∨ t.b = n
instance (n : List UInt8) (t : Ti) : Decidable (hasT n t) := inferInstanceAs (Decidable (_ ∨ _))
def cvN (b : Nat) : Value := .func (.func 92) #[] #[.pointer (some ⟨b, 0, none⟩)]
def keepT (n : List UInt8) (t : Ti) : Bool := !decide (hasT n t)
variable [Flag]
end Go.Proofs.Xx

/-
  A row turned round.
-/
namespace Go.Proofs.Xx
open Go Go.Proofs
set_option linter.unusedSimpArgs false
set_option linter.unusedVariables false
set_option linter.unusedSectionVars false
set_option maxRecDepth 100000
set_option maxHeartbeats 4000000

variable [Flag]
theorem reverse_ok {h0 h : AH} {rs : List Rs} {v : Value} {l : List (List UInt8)} (S : Hs h0 h (.sl v 9 1 eS l :: rs)) (hl : l.length ≤ 1000000) :
    Fn Tryz.prog Xh 76 [v] h (fun _ h' => Hs h0 h' (.sl v 9 1 eS l.reverse :: rs)) := by
  refine Fn_K rfl Tryz.func76 rfl rfl ?_
  all_goals (repeat' (first | refine K_seq ?_ | refine k_cond rfl ?_ | refine K_skip ?_ | refine K_exit ?_ | refine k_block ?_ | refine K_scope ?_ | refine K_label ?_ | (refine K_region (id := 0) ?_; refine mv ?_; (first | refine lnB S ?_ | refine lnS S rfl rfl ?_); (first | refine sb ?_ | refine vl ?_); refine mv ?_; refine mv ?_; refine KO_nil ?_)))
  refine k_loop (σ := Nat × List (List UInt8)) (fun (i, m) h' => Hs h0 h' (.sl v 9 1 eS m :: rs) ∧ 2 * i ≤ l.length + 1 ∧ m.length = l.length ∧ (∀ k, k < l.length → m.getD k default = l.getD (if k < i ∨ l.length - 1 - i < k then l.length - 1 - k else k) default)) (fun (i, m) => l.length - i) (fun (i, m) => [(0, v), (2, .int .i64 i), (3, .int .i64 ((l.length : Int) - 1 - i))]) (0, l) (by repeat (first | exact Ks.le_nil _ | refine Ks.le_cons rfl ?_ | refine Ks.le_int ?_)) ?_ ?_
  · exact ⟨S, by omega, rfl, fun k hk => by rw [if_neg (by omega)]⟩
  clear S
  rintro ⟨i, m⟩ h ⟨S, g1, g2, g3⟩
  all_goals (repeat' (first | refine K_seq ?_ | refine k_cond rfl ?_ | refine K_skip ?_ | refine K_exit ?_ | refine k_block ?_ | refine K_scope ?_ | refine K_label ?_ | (refine K_region (id := 1) ?_; refine mv ?_; refine mv ?_; (first | refine cT ?_ | refine cF ?_ | (refine cS ?_ ?_ <;> intro hc)) <;> (refine KO_nil ?_)) | (refine K_region (id := 2) ?_; refine mv ?_; (first | refine ad ?_ | refine vl ?_); refine mv ?_; (first | refine sb ?_ | refine vl ?_); refine mv ?_; refine mv ?_; refine KO_nil ?_) | (refine K_draw (id := 3) ?_; refine mv ?_; refine mv ?_; refine mv ?_; refine mv ?_; refine mv ?_; refine mv ?_; (first | refine ixB S ?_ | refine ixS2 S rfl rfl ?_); (first | refine lB S rfl rfl ?_ | refine lES2 S rfl rfl ?_ | refine lEB S ?_ | refine lH S ?_); refine mv ?_; refine mv ?_; (first | refine ixB S ?_ | refine ixS2 S rfl rfl ?_); (first | refine lB S rfl rfl ?_ | refine lES2 S rfl rfl ?_ | refine lEB S ?_ | refine lH S ?_); (first | refine ixB S ?_ | refine ixS2 S rfl rfl ?_); (first | (refine sB S rfl rfl ?_; clear S; intro h S) | (refine sE2 S rfl rfl ?_; clear S; intro h S)); (first | refine ixB S ?_ | refine ixS2 S rfl rfl ?_); (first | (refine sB S rfl rfl ?_; clear S; intro h S) | (refine sE2 S rfl rfl ?_; clear S; intro h S)); refine KO_nil ?_)))
  · have e : ((l.length : Int) - 1 - (i : Int)).toNat = l.length - 1 - i := by omega
    simp only [Int.toNat_natCast, e] at S
    have s1 : ∀ k, ((m.set i (m.getD (l.length - 1 - i) default)).set (l.length - 1 - i) (m.getD i default)).getD k default = if k = l.length - 1 - i then m.getD i default else if k = i then m.getD (l.length - 1 - i) default else m.getD k default := fun k => by
      rw [getD_set _ _ (by simp; omega) k, getD_set _ _ (by omega) k]
    refine ⟨(i + 1, (m.set i (m.getD (l.length - 1 - i) default)).set (l.length - 1 - i) (m.getD i default)), ?_, ?_, (by repeat (first | exact Ks.le_nil _ | refine Ks.le_cons rfl ?_ | refine Ks.le_int ?_))⟩
    · show l.length - (i + 1) < l.length - i; omega
    · refine ⟨S, by (try dsimp only); omega, by simp; exact g2, fun k hk => ?_⟩
      rw [s1]
      split
      · rename_i q
        rw [g3 i (by omega), if_neg (by omega), if_pos (by omega)]
        congr 1; omega
      · split
        · rename_i q q2
          rw [g3 _ (by omega), if_neg (by omega), if_pos (by omega), q2]
        · rename_i q q2
          rw [g3 k hk]
          congr 1
          split <;> split <;> omega
  · refine ⟨_, rfl, ?_⟩
    have : m = l.reverse := eq_getD (by simp; exact g2) fun k hk => by
      rw [g3 k (by omega), List.getD_eq_getElem?_getD, List.getD_eq_getElem?_getD, List.getElem?_reverse (by omega)]
      congr 2
      split <;> omega
    rw [← this]; exact S
end Go.Proofs.Xx

/-
  DeleteFunc on words; Common.
-/
namespace Go.Proofs.Xx
open Go Go.Proofs
set_option linter.unusedSimpArgs false
set_option linter.unusedVariables false
set_option linter.unusedSectionVars false
set_option maxRecDepth 100000
set_option maxHeartbeats 4000000

def cvC (b : Nat) : Value := .func (.func 78) #[] #[.pointer (some ⟨b, 0, none⟩)]
def keepC (g : Gst) (t : List UInt8) : Bool := decide (t ∈ g.tg)
theorem keepC_yes {g : Gst} {t : List UInt8} (h : t ∈ g.tg) : keepC g t = true := decide_eq_true h
theorem keepC_no {g : Gst} {t : List UInt8} (h : ¬ t ∈ g.tg) : keepC g t = false := decide_eq_false h
/-- The tongues in common. -/
def comF (r : Rl) (a b : List UInt8) : List (List UInt8) := match gat r.us a, gat r.us b with
  | some i, some j => (r.us.getD i default).tg.filter fun t => decide (t ∈ (r.us.getD j default).tg)
  | _, _ => []
/-- Two guests who share a tongue. -/
def spk (r : Rl) (a b : List UInt8) : Prop := ∃ i j, gat r.us a = some i ∧ gat r.us b = some j ∧ ∃ t, t ∈ (r.us.getD i default).tg ∧ t ∈ (r.us.getD j default).tg
theorem spk.symm {r : Rl} {a b : List UInt8} (h : spk r a b) : spk r b a := by
  obtain ⟨i, j, h1, h2, t, h3, h4⟩ := h
  exact ⟨j, i, h2, h1, t, h4, h3⟩
theorem spk.kn {r : Rl} {a b : List UInt8} (h : spk r a b) : gat r.us a ≠ none ∧ gat r.us b ≠ none := by
  obtain ⟨i, j, h1, h2, t, h3, h4⟩ := h
  rw [h1, h2]; simp
theorem comF_spk {r : Rl} {a b : List UInt8} : 0 < (comF r a b).length ↔ spk r a b := by
  unfold comF spk
  cases h1 : gat r.us a with
  | none => simp
  | some i =>
    cases h2 : gat r.us b with
    | none => simp
    | some j =>
      simp only [List.length_pos_iff_exists_mem, List.mem_filter, decide_eq_true_eq]
      constructor
      · rintro ⟨t, h⟩; exact ⟨i, j, rfl, rfl, t, h⟩
      · rintro ⟨i', j', e1, e2, t, h⟩
        cases e1; cases e2; exact ⟨t, h⟩
variable [Flag]
theorem idxS_ok {h0 : AH} (w : WfH h0) (v : Value) (l : List (List UInt8)) (r : RdL h0 v 1 eS l) (hl : l.length ≤ 1000000) (n : List UInt8) : Fn Tryz.prog Xh 129 [v, str n] h0 (fun u h' => ((u = .int .i64 (-1) ∧ ¬ n ∈ l) ∨ ∃ i : Nat, u = .int .i64 i ∧ i ≤ 1000000 ∧ n ∈ l) ∧ Hs h0 h' []) := by
  have S := Hs.start w
  refine Fn_K rfl Tryz.func129 rfl rfl ?_
  all_goals (repeat' (first | refine K_seq ?_ | refine k_block ?_ | (refine K_region (id := 0) ?_; refine mv ?_; refine KO_nil ?_) | (refine K_region (id := 1) ?_; refine mv ?_; refine lnB S ?_; refine mv ?_; refine KO_nil ?_)))
  refine k_loop (σ := Nat) (fun i h' => Hs h0 h' [] ∧ i ≤ l.length ∧ ∀ j, j < i → l.getD j default ≠ n) (fun i => l.length - i) (fun i => [(0, v), (1, str n), (7, .int .i64 l.length), (8, .int .i64 i)]) 0 (by repeat (first | exact Ks.le_nil _ | refine Ks.le_cons rfl ?_)) ?_ ?_
  · exact ⟨S, Nat.zero_le _, fun j hj => absurd hj (Nat.not_lt_zero _)⟩
  clear S
  rintro i h ⟨S, g1, g2⟩
  all_goals (repeat' (first | refine K_seq ?_ | refine k_cond rfl ?_ | refine K_skip ?_ | refine K_exit ?_ | refine k_block ?_ | (refine K_region (id := 2) ?_; (first | (refine cS ?_ ?_ <;> intro hc)) <;> (refine KO_nil ?_)) | (refine K_region (id := 3) ?_; refine mv ?_; refine mv ?_; refine KO_nil ?_) | (refine K_region (id := 4) ?_; refine mv ?_; refine mv ?_; refine mv ?_; refine ixB S ?_; refine lEB S ?_; (refine tS ?_ ?_ <;> intro hc) <;> (refine KO_nil ?_)) | (refine K_region (id := 5) ?_; refine mv ?_; refine mv ?_; refine KO_nil ?_) | (refine K_region (id := 6) ?_; refine ad ?_; refine mv ?_; refine KO_nil ?_) | (refine K_region (id := 7) ?_; refine mv ?_; refine KO_nil ?_)))
  all_goals (try simp only [Int.toNat_natCast] at *)
  · refine K_ret ⟨_, rfl, ?_⟩
    have hm := mem_getD (show i < l.length by omega)
    exact ⟨.inr ⟨i, rfl, by omega, by rw [hc]; exact hm⟩, S⟩
  · refine ⟨i + 1, ?_, ?_, (by repeat (first | exact Ks.le_nil _ | refine Ks.le_cons rfl ?_))⟩
    · show l.length - (i + 1) < l.length - i; omega
    · exact ⟨S, by omega, nxtD g2 fun q => hc q.symm⟩
  · refine K_ret ⟨_, rfl, ?_⟩
    refine ⟨.inl ⟨rfl, fun q => ?_⟩, S⟩
    obtain ⟨j, h1, h2⟩ := mem_iff_getD.1 q
    exact g2 j (by omega) h2
theorem cont_ok {h0 : AH} (w : WfH h0) (v : Value) (l : List (List UInt8)) (r : RdL h0 v 1 eS l) (hl : l.length ≤ 1000000) (n : List UInt8) : Fn Tryz.prog Xh 79 [v, str n] h0 (fun u h' => BoolIs u (n ∈ l) ∧ Hs h0 h' []) := by
  have S := Hs.start w
  refine Fn_K rfl Tryz.func79 rfl rfl ?_
  all_goals (repeat' (first | refine K_seq ?_ | (refine K_region (id := 0) ?_; refine mv ?_; refine KO_nil ?_) | (refine K_region (id := 1) ?_; refine mv ?_; refine mv ?_)))
  (refine KO_fn rfl rfl rfl rfl rfl ((idxS_ok S.wf v l (r.ext w S.ext) hl n).mono ?_); rintro _ h ⟨⟨rfl, z⟩ | ⟨i, rfl, z1, z⟩, x⟩) <;> (replace S := S.join0 x; clear x; (first | refine cT ?_ | refine cF ?_) <;> (refine mv ?_; refine KO_nil ?_))
  · all_goals (repeat' (fail))
    refine K_ret ⟨_, rfl, ?_⟩
    exact ⟨.inr ⟨rfl, z⟩, S⟩
  · skip
    all_goals (repeat' (fail))
    refine K_ret ⟨_, rfl, ?_⟩
    exact ⟨.inl ⟨rfl, z⟩, S⟩
theorem com1_ok {h0 : AH} (w : WfH h0) {b : Nat} {g : Gst} (hb : h0.get b = some (.cells (eG g) 24 none false)) (hg : RdL h0 g.tv.val 1 eS g.tg) (hl : g.tg.length ≤ 1000000) (t : List UInt8) : Fn Tryz.prog Xh 78 [str t, .pointer (some ⟨b, 0, none⟩)] h0 (fun v h' => BoolIs v (¬ t ∈ g.tg) ∧ Hs h0 h' []) := by
  have S := Hs.start w
  unfold eG at hb
  refine Fn_K rfl Tryz.func78 rfl rfl ?_
  all_goals (repeat' (first | refine K_seq ?_ | (refine K_region (id := 0) ?_; refine mv ?_; refine KO_nil ?_) | (refine K_region (id := 1) ?_; refine vl ?_; refine lH S ?_; refine mv ?_)))
  (refine KO_fn rfl rfl rfl rfl rfl ((cont_ok S.wf g.tv.val g.tg (hg.ext w S.ext) hl t).mono ?_); rintro _ h ⟨⟨rfl, z⟩ | ⟨rfl, z⟩, x⟩) <;> (replace S := S.join0 x; clear x; refine vl ?_; refine mv ?_; refine KO_nil ?_)
  · all_goals (repeat' (fail))
    refine K_ret ⟨_, rfl, ?_⟩
    exact ⟨.inr ⟨rfl, fun q => q z⟩, S⟩
  · skip
    all_goals (repeat' (fail))
    refine K_ret ⟨_, rfl, ?_⟩
    exact ⟨.inl ⟨rfl, z⟩, S⟩
theorem idxC_ok {h0 : AH} (w : WfH h0) {b : Nat} {g : Gst} (hb : h0.get b = some (.cells (eG g) 24 none false)) (hg : RdL h0 g.tv.val 1 eS g.tg) (hgl : g.tg.length ≤ 1000000) (v : Value) (l : List (List UInt8)) (hr : RdL h0 v 1 eS l) (hl : l.length ≤ 1000000) :
    Fn Tryz.prog Xh 128 [v, cvC b] h0 (fun u h' => ((u = .int .i64 (-1) ∧ ∀ i, i < l.length → l.getD i default ∈ g.tg) ∨ ∃ i : Nat, u = .int .i64 i ∧ i < l.length ∧ ¬ l.getD i default ∈ g.tg ∧ ∀ j, j < i → l.getD j default ∈ g.tg) ∧ Hs h0 h' []) := by
  have S := Hs.start w
  unfold cvC
  refine Fn_K rfl Tryz.func128 rfl rfl ?_
  all_goals (repeat' (first | refine K_seq ?_ | refine k_block ?_ | (refine K_region (id := 0) ?_; refine mv ?_; refine KO_nil ?_) | (refine K_region (id := 1) ?_; refine mv ?_; refine lnB S ?_; refine mv ?_; refine KO_nil ?_)))
  refine k_loop (σ := Nat) (fun i h' => Hs h0 h' [] ∧ i ≤ l.length ∧ ∀ j, j < i → l.getD j default ∈ g.tg) (fun i => l.length - i) (fun i => [(0, v), (1, cvC b), (7, .int .i64 l.length), (8, .int .i64 i)]) 0 (by repeat (first | exact Ks.le_nil _ | refine Ks.le_cons rfl ?_)) ?_ ?_
  · exact ⟨S, Nat.zero_le _, fun j hj => absurd hj (Nat.not_lt_zero _)⟩
  clear S
  rintro i h ⟨S, g1, g2⟩
  unfold cvC
  all_goals (repeat' (first | refine K_seq ?_ | refine k_cond rfl ?_ | refine K_skip ?_ | refine K_exit ?_ | refine k_block ?_ | (refine K_region (id := 2) ?_; (first | (refine cS ?_ ?_ <;> intro hc)) <;> (refine KO_nil ?_))))
  · all_goals (repeat' (first | refine K_seq ?_ | (refine K_region (id := 3) ?_; refine mv ?_; refine mv ?_; refine KO_nil ?_) | (refine K_region (id := 4) ?_; refine mv ?_; refine mv ?_; refine mv ?_; refine ixB S ?_; refine lEB S ?_)))
    simp only [Int.toNat_natCast]
    (refine KO_call rfl rfl rfl rfl ((com1_ok S.wf (S.ext.get w hb) (hg.ext w S.ext) hgl (l.getD i default)).mono ?_); rintro _ h ⟨⟨rfl, z⟩ | ⟨rfl, z⟩, x⟩) <;> (replace S := S.join0 x; clear x; refine KO_nil ?_)
    · all_goals (repeat' (first | refine K_seq ?_ | refine k_cond rfl ?_ | (refine K_region (id := 5) ?_; refine mv ?_; refine mv ?_; refine KO_nil ?_)))
      refine K_ret ⟨_, rfl, ?_⟩
      exact ⟨.inr ⟨i, rfl, by omega, z, g2⟩, S⟩
    · all_goals (repeat' (first | refine k_cond rfl ?_ | refine K_skip ?_ | (refine K_region (id := 6) ?_; refine ad ?_; refine mv ?_; refine KO_nil ?_)))
      refine ⟨i + 1, ?_, ?_, (by repeat (first | exact Ks.le_nil _ | refine Ks.le_cons rfl ?_))⟩
      · show l.length - (i + 1) < l.length - i; omega
      · exact ⟨S, by omega, nxtD g2 (Classical.not_not.1 z)⟩
  · skip
    all_goals (repeat' (first | (refine K_region (id := 7) ?_; refine mv ?_; refine KO_nil ?_)))
    refine K_ret ⟨_, rfl, ?_⟩
    exact ⟨.inl ⟨rfl, fun j hj => g2 j (by omega)⟩, S⟩
theorem delS_ok {h0 h : AH} {rs : List Rs} {v : SlV} {l : List (List UInt8)} {b : Nat} {g : Gst} (hl : l.length ≤ 1000000) (hgl : g.tg.length ≤ 1000000) (S : Hs h0 h (.sl v.val 9 1 eS l :: .blk b (eG g) 24 :: .sl g.tv.val 9 1 eS g.tg :: rs)) :
    Fn Tryz.prog Xh 77 [v.val, cvC b] h (fun u h' => Hs h0 h' (.sl u 9 1 eS (l.filter (keepC g)) :: .blk b (eG g) 24 :: .sl g.tv.val 9 1 eS g.tg :: rs)) := by
  refine Fn_K rfl Tryz.func77 rfl rfl ?_
  all_goals (repeat' (first | refine K_seq ?_ | (refine K_region (id := 0) ?_; refine mv ?_; refine KO_nil ?_) | (refine K_region (id := 1) ?_; refine mv ?_; refine mv ?_)))
  (refine KO_fn rfl rfl rfl rfl rfl ((idxC_ok S.wf (blk_get S (.there .here)) (Rd.of_sl S (.there (.there .here))) hgl v.val l (Rd.of_sl S .here) hl).mono ?_); rintro _ h ⟨⟨rfl, z⟩ | ⟨i0, rfl, z1, z2, z3⟩, x⟩) <;> (replace S := S.join0 x; clear x; refine mv ?_; refine KO_nil ?_)
  · all_goals (repeat' (first | refine K_seq ?_ | refine k_cond rfl ?_ | (refine K_region (id := 2) ?_; refine mv ?_; (refine cT ?_) <;> (refine KO_nil ?_)) | (refine K_region (id := 3) ?_; refine mv ?_; refine mv ?_; refine KO_nil ?_)))
    refine K_ret ⟨_, rfl, ?_⟩
    rw [List.filter_eq_self.2 fun t ht => by
      obtain ⟨j, hj, rfl⟩ := mem_iff_getD.1 ht
      exact keepC_yes (z j hj)]
    exact S
  · all_goals (repeat' (first | refine K_seq ?_ | refine k_cond rfl ?_ | refine K_skip ?_ | refine k_block ?_ | (refine K_region (id := 2) ?_; refine mv ?_; (refine cF ?_) <;> (refine KO_nil ?_)) | (refine K_region (id := 4) ?_; refine mv ?_; refine ad ?_; refine mv ?_; refine KO_nil ?_)))
    have hst : l.take i0 = (l.take (i0 + 1)).filter (keepC g) := by
      rw [take_succ_getD z1, List.filter_append, List.filter_cons, keepC_no z2, List.filter_eq_self.2 fun t ht => by
        obtain ⟨j, hj, rfl⟩ := mem_iff_getD.1 ht
        simp only [List.length_take] at hj
        rw [getD_take (by omega)]
        exact keepC_yes (z3 j (by omega))]
      simp
    refine k_loop (σ := Nat × Nat × List (List UInt8)) (fun (i, j, m) h' => Hs h0 h' (.sl v.val 9 1 eS m :: .blk b (eG g) 24 :: .sl g.tv.val 9 1 eS g.tg :: rs) ∧ (i < j ∧ j ≤ l.length) ∧ m.length = l.length ∧ m.take i = (l.take j).filter (keepC g) ∧ ∀ k, j ≤ k → k < l.length → m.getD k default = l.getD k default) (fun (i, j, m) => l.length - j) (fun (i, j, m) => [(0, v.val), (1, cvC b), (5, .int .i64 i), (6, .int .i64 j)]) (i0, i0 + 1, l) (by repeat (first | exact Ks.le_nil _ | refine Ks.le_cons rfl ?_)) ?_ ?_
    · exact ⟨S, by (try dsimp only); omega, rfl, hst, fun _ _ _ => rfl⟩
    clear S
    rintro ⟨i, j, m⟩ h ⟨S, k1, k2, k3, k4⟩
    unfold cvC
    all_goals (repeat' (first | refine K_seq ?_ | refine k_cond rfl ?_ | refine K_skip ?_ | refine K_exit ?_ | refine k_block ?_ | (refine K_region (id := 5) ?_; refine mv ?_; refine mv ?_; refine lnS S rfl rfl ?_; (first | (refine cS ?_ ?_ <;> intro hc)) <;> (refine KO_nil ?_))))
    · have hjl : j < l.length := by omega
      all_goals (repeat' (first | refine K_seq ?_ | (refine K_region (id := 7) ?_; refine mv ?_; refine mv ?_; refine ixS2 S rfl rfl ?_; refine lES2 S rfl rfl ?_; refine mv ?_; refine KO_nil ?_) | (refine K_region (id := 8) ?_; refine mv ?_; refine mv ?_)))
      simp only [Int.toNat_natCast] at *
      simp only [k4 j (Nat.le_refl _) hjl] at *
      (refine KO_call rfl rfl rfl rfl ((com1_ok S.wf (blk_get S (.there .here)) (Rd.of_sl S (.there (.there .here))) hgl (l.getD j default)).mono ?_); rintro _ h ⟨⟨rfl, y⟩ | ⟨rfl, y⟩, x⟩) <;> (replace S := S.join0 x; clear x; refine vl ?_; refine KO_nil ?_)
      · all_goals (repeat' (first | refine k_cond rfl ?_ | refine K_skip ?_ | (refine K_region (id := 6) ?_; refine mv ?_; refine ad ?_; refine mv ?_; refine KO_nil ?_)))
        refine ⟨(i, j + 1, m), ?_, ?_, (by repeat (first | exact Ks.le_nil _ | refine Ks.le_cons rfl ?_))⟩
        · show l.length - (j + 1) < l.length - j; omega
        · refine ⟨S, by (try dsimp only); omega, k2, ?_, fun k q1 q2 => k4 k (by (try dsimp only at q1); omega) q2⟩
          dsimp only
          rw [take_succ_getD hjl, List.filter_append, List.filter_cons, keepC_no y, k3]; simp
      · have y := Classical.not_not.1 y
        all_goals (repeat' (first | refine K_seq ?_ | refine k_cond rfl ?_ | (refine K_region (id := 9) ?_; refine mv ?_; refine mv ?_; refine mv ?_; refine ixS2 S rfl rfl ?_; (first | (refine sE2 S rfl rfl ?_; clear S; intro h S)); refine KO_nil ?_)))
        simp only [Int.toNat_natCast] at S
        all_goals (repeat' (first | (refine K_region (id := 6) ?_; refine mv ?_; refine ad ?_; refine mv ?_; refine KO_nil ?_) | (refine K_region (id := 10) ?_; refine mv ?_; refine ad ?_; refine mv ?_; refine KO_nil ?_)))
        refine ⟨(i + 1, j + 1, m.set i (l.getD j default)), ?_, ?_, (by repeat (first | exact Ks.le_nil _ | refine Ks.le_cons rfl ?_))⟩
        · show l.length - (j + 1) < l.length - j; omega
        · have hset : ∀ k, (m.set i (l.getD j default)).getD k default = if k = i then l.getD j default else m.getD k default := fun k => getD_set _ _ (by omega) k
          refine ⟨S, by (try dsimp only); omega, by simp; exact k2, ?_, fun k q1 q2 => ?_⟩
          · dsimp only
            rw [take_succ_getD hjl, List.filter_append, List.filter_cons, keepC_yes y, ← k3, take_succ_getD (by simp; omega), hset, if_pos rfl]
            congr 1
            apply eq_getD (by simp)
            intro k hk
            simp only [List.length_take, List.length_set] at hk
            rw [getD_take (by omega), getD_take (by omega), hset, if_neg (by omega)]
          · dsimp only at q1 ⊢
            rw [hset, if_neg (by omega)]
            exact k4 k (by omega) q2
    · have hj : j = l.length := by omega
      subst hj
      rw [List.take_length] at k3
      have S0 := S
      obtain ⟨f1, p1, p2, p3⟩ := S.sep
      rcases p1 with ⟨-, e0⟩ | ⟨b2, o, cc, slk, cap, e1, g1, fb, t1, c1, s1⟩
      · rw [e0] at k2; simp at k2; omega
      rw [e1]
      have w := S.wf
      have hfl := flatMap_length (enc := eS) (z := 1) (by intro _; rfl) m
      have hcap := c1.1
      have hcc := c1.2
      (repeat (refine K_seq ?_)); refine K_region (id := 11) ?_; refine mv ?_; refine mv ?_
      refine rw2 (l := i) (r := m.length) g1 (fun o2 q1 _ => ?_)
      have q2 : o2 = o + i * 1 := q1 (by omega)
      refine rwc g1 w (fun hd cd => ?_) (hfit := ?_)
      rotate_left
      · show o2 + (m.length - i) * 1 ≤ cc.length
        omega
      (refine KO_nil ?_)
      (repeat (refine K_seq ?_)); refine K_region (id := 12) ?_; refine mv ?_; refine mv ?_
      refine rw2 (l := 0) (r := i) cd.at_ (fun o3 q3 _ => ?_)
      have q4 : o3 = o := by have := q3 (by omega); omega
      (refine mv ?_; refine KO_nil ?_)
      skip
      all_goals (repeat' (fail))
      refine K_ret ⟨_, rfl, ?_⟩
      have hfil : l.filter (keepC g) = m.take i := k3.symm
      have htl : (m.take i).length = i := by simp; omega
      show Hs h0 hd (.sl (.slice (some ⟨b2, o3, none⟩) (i - 0) (cap - 0)) 9 1 eS (l.filter (keepC g)) :: .blk b (eG g) 24 :: .sl g.tv.val 9 1 eS g.tg :: rs)
      rw [hfil, q4]
      have htake := flatMap_take (enc := eS) (z := 1) (by intro _; rfl) m i
      have hzl : (zeroRow (Value.string { data := #[] }).cells.toList (m.length - i)).length = (m.length - i) * 1 := zrow_len _ _
      refine S0.turn .here cd.next cd.wf fun fp p1 p2 => ?_
      rcases p1 with ⟨p1, -⟩ | ⟨b3, o5, cc2, sl2, cap2, p1, -, p3, -⟩
      · rw [p1] at e1; cases e1
      obtain rfl : b3 = b2 := by rw [p1] at e1; cases e1; rfl
      refine ⟨fun j hj hf => cd.old j (fun q => by subst q; exact hf p3) hj, fun j => j = b3, .inr ⟨b3, o, _, slk, cap - 0, by rw [htl]; rfl, cd.at_, rfl, ?_, ⟨by rw [htl]; omega, ?_⟩, s1⟩, fun j hj => ?_⟩
      · rw [htl, htake]
        refine takeAt_ext ?_ ?_ fun k hk => ?_
        · rw [List.length_take, hfl]; omega
        · rw [splice_length _ _ _ (by rw [hzl]; omega)]; omega
        · rw [splice_get _ _ _ (by rw [hzl]; omega), if_pos (by omega), List.getElem?_take, if_pos hk]
          exact takeAt_get t1 (by omega)
      · rw [splice_length _ _ _ (by rw [hzl]; omega)]
        show o + (cap - 0) * 1 ≤ _
        omega
      · subst hj; exact ⟨cd.wf.lt cd.at_, .inl p3⟩
theorem common_ok {h0 : AH} (w : WfH h0) {p : Nat} {r : Rl} (B : BkRd h0 p r) (H : RO r) (na nb : List UInt8) : Fn Tryz.prog Xh 30 [.pointer (some ⟨p, 0, none⟩), str na, str nb] h0 (fun u h' => ∃ l, Hs h0 h' [.sl u 9 1 eS l] ∧ l = comF r na nb ∧ l.length ≤ 4) := by
  have S := Hs.start w
  refine Fn_K rfl Tryz.func30 rfl rfl ?_
  all_goals (repeat' (first | refine K_seq ?_ | (refine K_region (id := 0) ?_; refine mv ?_; refine KO_nil ?_) | (refine K_region (id := 1) ?_; refine mv ?_; refine mv ?_)))
  (refine KO_fn rfl rfl rfl rfl rfl ((find_ok S.wf (B.ext w S.ext) H na).mono ?_); rintro _ h (⟨i, tv, q1, rfl, x⟩ | ⟨q1, rfl, x⟩)) <;> ((first | replace S := S.join1 x | replace S := S.join0 x); clear x; refine mv ?_; refine vl ?_; refine vl ?_; (refine al S ?_; clear S; intro b h S); (first | (refine sB S rfl rfl ?_; clear S; intro h S)); refine mv ?_; refine KO_nil ?_)
  all_goals (all_goals (repeat' (first | refine K_seq ?_ | (refine K_region (id := 2) ?_; refine mv ?_; refine mv ?_))))
  all_goals (obtain ⟨b7, hnm⟩ : ∃ x, x = b := ⟨_, rfl⟩; subst hnm)
  · (refine KO_fn rfl rfl rfl rfl rfl ((find_ok S.wf (B.ext w S.ext) H nb).mono ?_); rintro _ h (⟨j, tv2, q2, rfl, x⟩ | ⟨q2, rfl, x⟩)) <;> ((first | replace S := S.join1 x | replace S := S.join0 x); clear x; refine mv ?_; refine vl ?_; refine vl ?_; (refine al S ?_; clear S; intro b h S); (first | (refine sB S rfl rfl ?_; clear S; intro h S)); refine mv ?_; refine KO_nil ?_)
    all_goals (all_goals (repeat' (first | refine K_seq ?_ | refine k_cond rfl ?_ | refine K_skip ?_ | (refine K_region (id := 3) ?_; refine mv ?_; refine vl ?_; refine mv ?_; refine mv ?_; refine vl ?_; refine vl ?_; refine KO_nil ?_) | (refine K_region (id := 4) ?_; refine mv ?_; refine KO_nil ?_))))
    all_goals (obtain ⟨b9, hnm⟩ : ∃ x, x = b := ⟨_, rfl⟩; subst hnm)
    · obtain ⟨i1, i2, -⟩ := gat_some q1
      obtain ⟨j1, j2, -⟩ := gat_some q2
      have t1 := (chkG_ok (H.chk _ (mem_getD i1))).2.2.2.1
      have t2 := (chkG_ok (H.chk _ (mem_getD j1))).2.2.2.1
      replace S : Hs h0 h (.blk b9 (eG ⟨r.us.getD j default, tv2⟩) 24 :: .sl tv2.val 9 1 eS (r.us.getD j default).tg :: .blk b7 (eG ⟨r.us.getD i default, tv⟩) 24 :: .sl tv.val 9 1 eS (r.us.getD i default).tg :: []) := S
      unfold eG at S
      all_goals (repeat' (first | (refine K_region (id := 5) ?_; refine vl ?_; refine lB S rfl rfl ?_; refine vl ?_)))
      replace S : Hs h0 h (.blk b9 (eG ⟨r.us.getD j default, tv2⟩) 24 :: .sl tv2.val 9 1 eS (r.us.getD j default).tg :: .blk b7 (eG ⟨r.us.getD i default, tv⟩) 24 :: .sl tv.val 9 1 eS (r.us.getD i default).tg :: []) := S
      have S := (show Hs h0 h (.sl tv.val 9 1 eS (r.us.getD i default).tg :: .blk b9 (eG ⟨r.us.getD j default, tv2⟩) 24 :: .sl tv2.val 9 1 eS (r.us.getD j default).tg :: .blk b7 (eG ⟨r.us.getD i default, tv⟩) 24 :: []) from S.pick)
      (refine KO_fn rfl rfl rfl rfl rfl ((delS_ok (g := ⟨r.us.getD j default, tv2⟩) (Nat.le_trans t1 (by decide)) (Nat.le_trans t2 (by decide)) S).mono ?_); rintro _ h S) <;> (refine mv ?_; refine KO_nil ?_)
      all_goals (repeat' (fail))
      refine K_ret ⟨_, rfl, ?_⟩
      have hle := List.length_filter_le (keepC ⟨r.us.getD j default, tv2⟩) (r.us.getD i default).tg
      exact ⟨_, S.only .here, by simp [comF, q1, q2]; rfl, Nat.le_trans hle t1⟩
    · refine K_ret ⟨_, rfl, ?_⟩
      exact ⟨[], (S.nilS (e := 9) (z := 1) (enc := eS)).only .here, by simp [comF, q1, q2], by simp⟩
  · (refine KO_fn rfl rfl rfl rfl rfl ((find_ok S.wf (B.ext w S.ext) H nb).mono ?_); rintro _ h (⟨j, tv2, q2, rfl, x⟩ | ⟨q2, rfl, x⟩)) <;> ((first | replace S := S.join1 x | replace S := S.join0 x); clear x; refine mv ?_; refine vl ?_; refine vl ?_; (refine al S ?_; clear S; intro b h S); (first | (refine sB S rfl rfl ?_; clear S; intro h S)); refine mv ?_; refine KO_nil ?_)
    all_goals (all_goals (repeat' (first | refine K_seq ?_ | refine k_cond rfl ?_ | (refine K_region (id := 3) ?_; refine mv ?_; refine vl ?_; refine mv ?_; refine off ?_; refine off ?_; refine vl ?_; refine KO_nil ?_) | (refine K_region (id := 4) ?_; refine mv ?_; refine KO_nil ?_))))
    all_goals (refine K_ret ⟨_, rfl, ?_⟩)
    all_goals exact ⟨[], (S.nilS (e := 9) (z := 1) (enc := eS)).only .here, by simp [comF, q1], by simp⟩
end Go.Proofs.Xx
