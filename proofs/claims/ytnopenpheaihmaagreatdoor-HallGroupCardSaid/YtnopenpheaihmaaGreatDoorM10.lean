/-
  Quicksort.
-/
import Derived.Test.YtnopenpheaihmaaGreatDoorM9
import Derived.Below
import Derived.ChangeSame
import Derived.ChangeArms
import Derived.OpenShut
import Derived.Test.YtnopenpheaihmaaGreatDoorM4
import Derived.Test.YtnopenpheaihmaaGreatDoorM3
import Derived.WideShapes
import Derived.ChangeShapes
import Derived.Test.YtnopenpheaihmaaGreatDoorM5
import Derived.Test.YtnopenpheaihmaaGreatDoorM8
import Derived.Test.YtnopenpheaihmaaGreatDoorM6

namespace Go.Proofs.Xx
open Go Go.Proofs
set_option linter.unusedSimpArgs false
set_option linter.unusedVariables false
set_option maxRecDepth 100000

theorem pdq_o {h0 : AH} {v : Value} : ∀ (n : Nat) {h : AH} {rs : List Rs} {l : List Int} (a b lim : Nat) (S : Hs h0 h (.sl v 3 1 eI l :: rs)) (hn : b - a = n) (hab : a ≤ b) (hb : b ≤ l.length) (hl : l.length ≤ 1000000) (hbig : b - a < 50) (hlim : lim ≤ 1000) (hlow : 0 < a → ∀ k, a ≤ k → k < b → ¬ ltI (l.getD k default) (l.getD (a - 1) default)),
    Fn Tryz.prog Xh 177 [v, .int .i64 a, .int .i64 b, .int .i64 lim] h (fun _ h' => ∃ l', Sw a b l l' ∧ Srt ltI a b l' ∧ Hs h0 h' (.sl v 3 1 eI l' :: rs)) := by
  intro n
  induction n using Nat.strongRecOn with
  | _ n ih =>
  intro h rs l a b lim S hn hab hb hl hbig hlim hlow
  have W : WOrd ltI := ltI_ord
  refine Fn_K rfl Tryz.func177 rfl rfl ?_
  all_goals (repeat' (first | refine K_seq ?_ | refine k_block ?_ | (refine K_region (id := 0) ?_; refine mv ?_; refine KO_nil ?_) | (refine K_region (id := 1) ?_; refine mv ?_; refine KO_nil ?_)))
  refine k_loop (σ := Nat × Nat × Nat × Bool × Bool × List Int) (fun (a1, b1, lim, wb, wp, m) h' => Hs h0 h' (.sl v 3 1 eI m :: rs) ∧ (a ≤ a1 ∧ a1 ≤ b1 ∧ b1 ≤ b) ∧ lim ≤ 1000 ∧ Sw a b l m ∧ DoneI ltI a b a1 b1 m) (fun (a1, b1, lim, wb, wp, m) => b1 - a1) (fun (a1, b1, lim, wb, wp, m) => [(0, v), (1, .int .i64 a1), (2, .int .i64 b1), (3, .int .i64 lim), (8, .bool wb), (9, .bool wp)]) (a, b, lim, true, true, l) (by repeat (first | exact Ks.le_nil _ | refine Ks.le_cons rfl ?_)) ?_ ?_
  · exact ⟨S, by omega, hlim, .refl _, .start⟩
  clear S hlim
  rintro ⟨a1, b1, lim, wb, wp, m⟩ h ⟨S, h1, hlim, h2, D⟩
  have hml := h2.len
  skip
  have low : ∀ m', Sw a1 b1 m m' → 0 < a1 → ∀ k, a1 ≤ k → k < b1 → ¬ ltI (m'.getD k default) (m'.getD (a1 - 1) default) := fun m' s q1 k q2 q3 => by
    rcases Nat.lt_or_ge a a1 with q | q
    · exact (D.sw s h1.1 h1.2.2).low q h1.2.2 k q2 q3
    · obtain rfl : a = a1 := by omega
      have s2 := h2.trans (s.mono (Nat.le_refl _) h1.2.2 (by omega))
      rw [s2.out (k := a - 1) (.inl (by omega))]
      exact s2.all (p := fun y => ¬ ltI y (l.getD (a - 1) default)) (hlow q1) k q2 (by omega)
  have e0 : (b1 : Int) - (a1 : Int) = ((b1 - a1 : Nat) : Int) := by omega
  refine k_block ?_
  (repeat (refine K_seq ?_)); refine K_region (id := 2) ?_; refine mv ?_; refine mv ?_; refine sb ?_; refine mv ?_; refine KO_nil ?_
  simp only [e0]
  (repeat (refine K_seq ?_)); refine K_region (id := 3) ?_; refine mv ?_; (first | (refine cS ?_ ?_ <;> intro hc)) <;> (refine KO_nil ?_)
  · refine k_cond rfl ?_
    all_goals (repeat' (first | refine K_seq ?_ | (refine K_region (id := 4) ?_; refine mv ?_; refine mv ?_; refine mv ?_; skip)))
    (refine KO_fn rfl rfl rfl rfl rfl ((ins_o a1 b1 S h1.2.1 (by omega) (by omega)).mono ?_); rintro _ h ⟨l2, g1, g2, S2⟩) <;> (replace S := S2; clear S2; refine KO_nil ?_)
    all_goals (repeat' (fail))
    refine K_ret ⟨_, rfl, ?_⟩
    exact ⟨l2, h2.trans (g1.mono h1.1 h1.2.2 (by omega)), (D.sw g1 h1.1 h1.2.2).finish g2, S⟩
  have hbig2 : 12 < b1 - a1 ∧ b1 - a1 < 50 := by omega
  refine k_cond rfl ?_; refine K_skip ?_
  (repeat (refine K_seq ?_)); refine K_region (id := 5) ?_; refine mv ?_; (first | (refine cS ?_ ?_ <;> intro hc)) <;> (refine KO_nil ?_)
  · refine k_cond rfl ?_
    all_goals (repeat' (first | refine K_seq ?_ | (refine K_region (id := 6) ?_; refine mv ?_; refine mv ?_; refine mv ?_; skip)))
    (refine KO_fn rfl rfl rfl rfl rfl ((heap_o a1 b1 S (by omega) (by omega) (by omega)).mono ?_); rintro _ h ⟨l2, g1, g2, S2⟩) <;> (replace S := S2; clear S2; refine KO_nil ?_)
    all_goals (repeat' (fail))
    refine K_ret ⟨_, rfl, ?_⟩
    exact ⟨l2, h2.trans (g1.mono h1.1 h1.2.2 (by omega)), (D.sw g1 h1.1 h1.2.2).finish g2, S⟩
  refine k_cond rfl ?_; refine K_skip ?_
  refine K_cut (σ := Nat × List Int) (fun (lim, m2) h' => Hs h0 h' (.sl v 3 1 eI m2 :: rs) ∧ lim ≤ 1000 ∧ Sw a1 b1 m m2) (fun (lim, m2) => [(0, v), (1, .int .i64 a1), (2, .int .i64 b1), (3, .int .i64 lim), (8, .bool wb), (9, .bool wp), (10, .int .i64 (b1 - a1 : Nat))]) ?_ ?_
  · cases wb
    · all_goals (repeat' (first | refine K_seq ?_ | refine k_cond rfl ?_ | (refine K_region (id := 7) ?_; refine mv ?_; refine vl ?_; refine KO_nil ?_) | (refine K_region (id := 8) ?_; refine mv ?_; refine mv ?_; refine mv ?_; skip)))
      (refine KO_fn rfl rfl rfl rfl rfl ((brk_o a1 b1 S hbig2 (by omega) (by omega)).mono ?_); rintro _ h ⟨l2, g1, S2⟩) <;> (replace S := S2; clear S2; refine KO_nil ?_)
      all_goals (repeat' (first | (refine K_region (id := 9) ?_; refine mv ?_; refine sb ?_; refine mv ?_; refine KO_nil ?_)))
      exact ⟨(lim - 1, l2), ⟨S, by show lim - 1 ≤ 1000; omega, g1⟩, ((by repeat (first | exact Ks.le_nil _ | refine Ks.le_cons rfl ?_ | refine Ks.le_int ?_)))⟩
    · all_goals (repeat' (first | refine K_seq ?_ | refine k_cond rfl ?_ | refine K_skip ?_ | (refine K_region (id := 7) ?_; refine mv ?_; refine vl ?_; refine KO_nil ?_)))
      exact ⟨(lim, m), ⟨S, hlim, .refl _⟩, ((by repeat (first | exact Ks.le_nil _ | refine Ks.le_cons rfl ?_)))⟩
  clear S hlim
  rintro ⟨lim, m2⟩ h ⟨S, hlim, g1⟩
  have hm2 := g1.len
  skip
  (repeat (refine K_seq ?_)); refine K_region (id := 10) ?_
  refine mv ?_; refine mv ?_; refine mv ?_; skip
  (refine KO_fn rfl rfl rfl rfl rfl ((piv_o a1 b1 S hbig2 (by omega) (by omega)).mono ?_); rintro _ h ⟨q, t, rfl, hq0, S2⟩) <;> (replace S := S2; clear S2; refine mv ?_; refine vl ?_; refine vl ?_; refine mv ?_; refine mv ?_; refine KO_nil ?_)
  refine K_cut (σ := Nat × Int × List Int) (fun (q, t, m3) h' => Hs h0 h' (.sl v 3 1 eI m3 :: rs) ∧ (a1 ≤ q ∧ q < b1) ∧ Sw a1 b1 m2 m3) (fun (q, t, m3) => [(0, v), (1, .int .i64 a1), (2, .int .i64 b1), (3, .int .i64 lim), (8, .bool wb), (9, .bool wp), (10, .int .i64 (b1 - a1 : Nat)), (11, .int .i64 q), (12, .int .i64 t)]) ?_ ?_
  · all_goals (repeat' (first | refine K_seq ?_ | refine k_cond rfl ?_ | refine K_skip ?_ | (refine K_region (id := 11) ?_; refine mv ?_; (first | (refine cS ?_ ?_ <;> intro hc)) <;> (refine KO_nil ?_)) | (refine K_region (id := 12) ?_; refine mv ?_; refine mv ?_; refine mv ?_; skip)))
    · (refine KO_fn rfl rfl rfl rfl rfl ((rev_o a1 b1 S (by omega) (by omega) (by omega)).mono ?_); rintro _ h ⟨l2, k1, S2⟩) <;> (replace S := S2; clear S2; refine KO_nil ?_)
      all_goals (repeat' (first | refine K_seq ?_ | (refine K_region (id := 13) ?_; refine mv ?_; refine sb ?_; refine mv ?_; refine mv ?_; refine sb ?_; refine sb ?_; refine mv ?_; refine KO_nil ?_) | (refine K_region (id := 14) ?_; refine mv ?_; refine KO_nil ?_)))
      exact ⟨(b1 - 1 - (q - a1), 1, l2), ⟨S, by show a1 ≤ b1 - 1 - (q - a1) ∧ b1 - 1 - (q - a1) < b1; omega, k1⟩, ((by repeat (first | exact Ks.le_nil _ | refine Ks.le_cons rfl ?_ | refine Ks.le_int ?_)))⟩
    · exact ⟨(q, t, m2), ⟨S, hq0, .refl _⟩, ((by repeat (first | exact Ks.le_nil _ | refine Ks.le_cons rfl ?_)))⟩
  clear S hq0
  rintro ⟨q, t, m3⟩ h ⟨S, hq0, g2⟩
  have g13 := g1.trans g2
  have D3 := D.sw g13 h1.1 h1.2.2
  have low3 := low m3 g13
  have s3 := h2.trans (g13.mono h1.1 h1.2.2 (by omega))
  have hm3 := g13.len
  skip
  refine K_cut (σ := Unit) (fun _ h' => Hs h0 h' (.sl v 3 1 eI m3 :: rs)) (fun _ => [(0, v), (1, .int .i64 a1), (2, .int .i64 b1), (3, .int .i64 lim), (8, .bool wb), (9, .bool wp), (10, .int .i64 (b1 - a1 : Nat)), (11, .int .i64 q)]) ?_ ?_
  · cases wb
    · all_goals (repeat' (first | refine K_seq ?_ | refine k_cond rfl ?_ | refine K_skip ?_ | (refine K_region (id := 15) ?_; refine mv ?_; refine mv ?_; refine off ?_; refine vl ?_; refine mv ?_; refine off ?_; (refine off ?_) <;> (refine vl ?_; refine KO_nil ?_))))
      exact ⟨(), S, ((by repeat (first | exact Ks.le_nil _ | refine Ks.le_cons rfl ?_)))⟩
    cases wp
    · all_goals (repeat' (first | refine K_seq ?_ | refine k_cond rfl ?_ | refine K_skip ?_ | (refine K_region (id := 15) ?_; refine mv ?_; refine mv ?_; refine mv ?_; refine vl ?_; refine mv ?_; refine off ?_; (refine off ?_) <;> (refine vl ?_; refine KO_nil ?_))))
      exact ⟨(), S, ((by repeat (first | exact Ks.le_nil _ | refine Ks.le_cons rfl ?_)))⟩
    all_goals (repeat' (first | refine K_seq ?_ | refine k_cond rfl ?_ | refine K_skip ?_ | (refine K_region (id := 15) ?_; refine mv ?_; refine mv ?_; refine mv ?_; refine vl ?_; refine mv ?_; refine mv ?_; (first | (first | (refine cS ?_ ?_ <;> intro hc))) <;> (refine vl ?_; refine KO_nil ?_)) | (refine K_region (id := 16) ?_; refine mv ?_; refine mv ?_; refine mv ?_; skip)))
    · (refine KO_fn rfl rfl rfl rfl rfl ((pins_o a1 b1 S hbig2 (by omega) (by omega)).mono ?_); rintro _ h ⟨⟨rfl, hs⟩ | ⟨rfl, hs⟩, S2⟩) <;> (replace S := S2; clear S2; refine KO_nil ?_)
      · all_goals (repeat' (refine k_cond rfl ?_))
        refine K_ret ⟨_, rfl, ?_⟩
        exact ⟨m3, s3, D3.finish hs, S⟩
      · all_goals (repeat' (first | refine k_cond rfl ?_ | refine K_skip ?_))
        exact ⟨(), S, ((by repeat (first | exact Ks.le_nil _ | refine Ks.le_cons rfl ?_)))⟩
    · exact ⟨(), S, ((by repeat (first | exact Ks.le_nil _ | refine Ks.le_cons rfl ?_)))⟩
  clear S
  rintro - h S
  refine K_cut (σ := Unit) (fun _ h' => Hs h0 h' (.sl v 3 1 eI m3 :: rs)) (fun _ => [(0, v), (1, .int .i64 a1), (2, .int .i64 b1), (3, .int .i64 lim), (8, .bool wb), (9, .bool wp), (10, .int .i64 (b1 - a1 : Nat)), (11, .int .i64 q)]) ?_ ?_
  · all_goals (repeat' (first | refine K_seq ?_ | refine k_cond rfl ?_ | refine K_skip ?_ | (refine K_draw (id := 17) ?_; refine mv ?_; (first | (refine cS ?_ ?_ <;> intro hc)) <;> (refine mv ?_; (first | refine off ?_ | refine mv ?_); (first | refine off ?_ | refine mv ?_); (first | refine off ?_ | (refine sb ?_)); (first | refine off ?_ | (refine ixS2 S rfl rfl ?_)); (first | refine off ?_ | (refine lES2 S rfl rfl ?_)); (first | refine off ?_ | refine mv ?_); (first | refine off ?_ | refine mv ?_); (first | refine off ?_ | (refine ixS2 S rfl rfl ?_)); (first | refine off ?_ | (refine lES2 S rfl rfl ?_)); (first | (refine off ?_; refine off ?_; refine vl ?_; refine KO_nil ?_) | skip)))))
    · simp only [toNat_pred, toNat_succ, toNat_sum, Int.toNat_natCast]
      (refine KO_fn rfl rfl rfl rfl rfl ((less_ok S.wf _ _).mono ?_); rintro _ h ⟨⟨rfl, hq⟩ | ⟨rfl, hq⟩, x⟩) <;> (replace S := S.join0 x; clear x; refine vl ?_; refine vl ?_; refine KO_nil ?_)
      · all_goals (repeat' (first | refine k_cond rfl ?_ | refine K_skip ?_))
        exact ⟨(), S, ((by repeat (first | exact Ks.le_nil _ | refine Ks.le_cons rfl ?_)))⟩
      · all_goals (repeat' (first | refine K_seq ?_ | refine k_cond rfl ?_ | (refine K_region (id := 18) ?_; refine mv ?_; refine mv ?_; refine mv ?_; refine mv ?_; skip)))
        (refine KO_fn rfl rfl rfl rfl rfl ((peq_o a1 b1 q S hq0 (by omega) (by omega)).mono ?_); rintro _ h ⟨e, m4, rfl, e1, e2, e3, e4, S2⟩) <;> (replace S := S2; clear S2; refine mv ?_; refine KO_nil ?_)
        all_goals (repeat' (first | refine K_seq ?_ | refine K_exit ?_ | (refine K_region (id := 19) ?_; refine mv ?_; refine mv ?_; refine KO_nil ?_)))
        refine ⟨(e, b1, lim, wb, wp, m4), ?_, ?_, (by repeat (first | exact Ks.le_nil _ | refine Ks.le_cons rfl ?_))⟩
        · show b1 - e < b1 - a1; omega
        · have s4 := low m4 (g13.trans e2) (by omega)
          refine ⟨S, by (try dsimp only); omega, hlim, s3.trans (e2.mono h1.1 h1.2.2 (by omega)), (D3.sw e2 h1.1 h1.2.2).eq_ W (x := m3.getD q default) (show a1 ≤ e ∧ e ≤ b1 by omega) e3 e4 fun k q1 q2 => ?_⟩
          have := s4 k q1 q2
          rw [e2.out (k := a1 - 1) (.inl (by omega))] at this
          exact W.ntr hq this
    · exact ⟨(), S, ((by repeat (first | exact Ks.le_nil _ | refine Ks.le_cons rfl ?_)))⟩
  clear S
  rintro - h S
  skip
  all_goals (repeat' (first | refine K_seq ?_ | (refine K_region (id := 20) ?_; refine mv ?_; refine mv ?_; refine mv ?_; refine mv ?_; skip)))
  (refine KO_fn rfl rfl rfl rfl rfl ((part_o a1 b1 q S hq0 (by omega) (by omega)).mono ?_); rintro _ h ⟨e, f, m4, rfl, e1, e2, e3, S2⟩) <;> (replace S := S2; clear S2; refine mv ?_; refine vl ?_; refine vl ?_; refine mv ?_; refine mv ?_; refine KO_nil ?_)
  have D4 := D3.sw e2 h1.1 h1.2.2
  have s4 := s3.trans (e2.mono h1.1 h1.2.2 (by omega))
  have hm4 := e2.len
  have low4 := low m4 (g13.trans e2)
  skip
  have ee : (e : Int) + 1 = ((e + 1 : Nat) : Int) := by omega
  all_goals (repeat' (first | refine K_seq ?_ | refine k_cond rfl ?_ | (refine K_region (id := 21) ?_; refine mv ?_; refine mv ?_; refine KO_nil ?_) | (refine K_region (id := 22) ?_; refine mv ?_; refine mv ?_; refine sb ?_; refine mv ?_; refine mv ?_; refine sb ?_; refine mv ?_; refine mv ?_; refine KO_nil ?_) | (refine K_region (id := 23) ?_; refine mv ?_; refine qu ?_; refine mv ?_; refine KO_nil ?_) | (refine K_region (id := 24) ?_; refine mv ?_; refine mv ?_; (first | (refine cS ?_ ?_ <;> intro hc)) <;> (refine KO_nil ?_)) | (refine K_region (id := 25) ?_; refine mv ?_; refine mv ?_; (first | (refine cS ?_ ?_ <;> intro hc)) <;> (refine mv ?_; refine KO_nil ?_)) | (refine K_region (id := 26) ?_; refine mv ?_; refine mv ?_; refine mv ?_; refine mv ?_; skip) | (refine K_region (id := 28) ?_; refine mv ?_; refine mv ?_; (first | (refine cS ?_ ?_ <;> intro hc)) <;> (refine mv ?_; refine KO_nil ?_))))
  · (refine KO_fn rfl rfl rfl rfl rfl ((ih (e - a1) (by omega) a1 e lim S rfl (by omega) (by omega) (by omega) (by omega) hlim (fun z k q1 q2 => low4 z k q1 (by omega))).mono ?_); rintro _ h ⟨m5, k1, k2, S2⟩) <;> (replace S := S2; clear S2; refine KO_nil ?_)
    all_goals (repeat' (first | (refine K_region (id := 27) ?_; refine mv ?_; refine ad ?_; refine mv ?_; refine KO_nil ?_)))
    refine ⟨(e + 1, b1, lim, true, f, m5), ?_, ?_, (by repeat (first | exact Ks.le_nil _ | refine Ks.le_cons rfl ?_))⟩
    · show b1 - (e + 1) < b1 - a1; omega
    · exact ⟨S, by (try dsimp only); omega, hlim, s4.trans (k1.mono h1.1 (by omega) (by omega)), D4.left W e3 (by omega) ⟨h1.1, h1.2.2⟩ k1 k2 (by omega)⟩
  · (refine KO_fn rfl rfl rfl rfl rfl ((ih (e - a1) (by omega) a1 e lim S rfl (by omega) (by omega) (by omega) (by omega) hlim (fun z k q1 q2 => low4 z k q1 (by omega))).mono ?_); rintro _ h ⟨m5, k1, k2, S2⟩) <;> (replace S := S2; clear S2; refine KO_nil ?_)
    all_goals (repeat' (first | (refine K_region (id := 27) ?_; refine mv ?_; refine ad ?_; refine mv ?_; refine KO_nil ?_)))
    refine ⟨(e + 1, b1, lim, false, f, m5), ?_, ?_, (by repeat (first | exact Ks.le_nil _ | refine Ks.le_cons rfl ?_))⟩
    · show b1 - (e + 1) < b1 - a1; omega
    · exact ⟨S, by (try dsimp only); omega, hlim, s4.trans (k1.mono h1.1 (by omega) (by omega)), D4.left W e3 (by omega) ⟨h1.1, h1.2.2⟩ k1 k2 (by omega)⟩
  · refine K_region (id := 29) ?_
    (refine mv ?_; refine mv ?_; refine ad ?_; refine mv ?_; refine mv ?_)
    simp only [ee]
    (refine KO_fn rfl rfl rfl rfl rfl ((ih (b1 - (e + 1)) (by omega) (e + 1) b1 lim S rfl (by omega) (by omega) (by omega) (by omega) hlim (fun z k q1 q2 => e3.2 k (by omega) q2)).mono ?_); rintro _ h ⟨m5, k1, k2, S2⟩) <;> (replace S := S2; clear S2; refine KO_nil ?_)
    all_goals (repeat' (first | (refine K_region (id := 30) ?_; refine mv ?_; refine mv ?_; refine KO_nil ?_)))
    refine ⟨(a1, e, lim, true, f, m5), ?_, ?_, (by repeat (first | exact Ks.le_nil _ | refine Ks.le_cons rfl ?_))⟩
    · show e - a1 < b1 - a1; omega
    · exact ⟨S, by (try dsimp only); omega, hlim, s4.trans (k1.mono (by omega) h1.2.2 (by omega)), D4.right W e3 (by omega) ⟨h1.1, h1.2.2⟩ k1 k2 (by omega)⟩
  · refine K_region (id := 29) ?_
    (refine mv ?_; refine mv ?_; refine ad ?_; refine mv ?_; refine mv ?_)
    simp only [ee]
    (refine KO_fn rfl rfl rfl rfl rfl ((ih (b1 - (e + 1)) (by omega) (e + 1) b1 lim S rfl (by omega) (by omega) (by omega) (by omega) hlim (fun z k q1 q2 => e3.2 k (by omega) q2)).mono ?_); rintro _ h ⟨m5, k1, k2, S2⟩) <;> (replace S := S2; clear S2; refine KO_nil ?_)
    all_goals (repeat' (first | (refine K_region (id := 30) ?_; refine mv ?_; refine mv ?_; refine KO_nil ?_)))
    refine ⟨(a1, e, lim, false, f, m5), ?_, ?_, (by repeat (first | exact Ks.le_nil _ | refine Ks.le_cons rfl ?_))⟩
    · show e - a1 < b1 - a1; omega
    · exact ⟨S, by (try dsimp only); omega, hlim, s4.trans (k1.mono (by omega) h1.2.2 (by omega)), D4.right W e3 (by omega) ⟨h1.1, h1.2.2⟩ k1 k2 (by omega)⟩

theorem sort_o {h0 h : AH} {rs : List Rs} {v : Value} {l : List Int} (S : Hs h0 h (.sl v 3 1 eI l :: rs)) (hl : l.length < 50) :
    Fn Tryz.prog Xh 136 [v] h (fun _ h' => ∃ l', Sw 0 l.length l l' ∧ Srt ltI 0 l.length l' ∧ Hs h0 h' (.sl v 3 1 eI l' :: rs)) := by
  have hk : (lenTab.getD l.length 0).toNat < 256 := UInt8.toNat_lt _
  refine Fn_K rfl Tryz.func136 rfl rfl ?_
  all_goals (repeat' (first | refine K_seq ?_ | (refine K_region (id := 0) ?_; refine mv ?_; refine lnS S rfl rfl ?_; refine mv ?_; refine KO_nil ?_) | (refine K_region (id := 1) ?_; refine mv ?_; refine mv ?_; refine mv ?_; refine cW ?_)))
  (refine KO_fn rfl rfl rfl rfl rfl ((len_ok S.wf l.length (by omega)).mono ?_); rintro _ h ⟨rfl, x⟩) <;> (replace S := S.join0 x; clear x)
  (refine KO_fn rfl rfl rfl rfl rfl ((pdq_o l.length 0 l.length (lenTab.getD l.length 0).toNat S rfl (Nat.zero_le _) (Nat.le_refl _) (by omega) (by omega) (by omega) (fun z => by omega)).mono ?_); rintro _ h ⟨l2, g1, g2, S2⟩) <;> (replace S := S2; clear S2; refine KO_nil ?_)
  all_goals (repeat' (fail))
  refine ⟨_, rfl, ?_⟩
  exact ⟨l2, g1, g2, S⟩

end Go.Proofs.Xx

/-
  What the arguments read as is kept in every world whose old blocks are the same.
-/
namespace Go.Proofs.Xx
open Go Go.RowKit
set_option linter.unusedSimpArgs false
set_option linter.unusedVariables false

section
variable {H : Type} {enc : TypeId × Value → H} {P : Program} {W W' : World}

theorem mapM_keep {α β : Type} {f g : α → Option β} : ∀ {l : List α} {r : List β}, l.mapM f = some r → (∀ a b, a ∈ l → b ∈ r → f a = some b → g a = some b) → l.mapM g = some r := by
  intro l
  induction l with
  | nil => intro r h _; simpa using h
  | cons a l ih =>
    intro r h hk
    rw [List.mapM_cons] at h ⊢
    cases hf : f a with
    | none => rw [hf] at h; cases h
    | some b =>
      rw [hf] at h
      cases hm : l.mapM f with
      | none => rw [hm] at h; cases h
      | some r' =>
        rw [hm] at h
        simp at h
        subst h
        rw [hk a b (by simp) (by simp) hf, ih hm fun x y hx hy => hk x y (by simp [hx]) (by simp [hy])]
        rfl

theorem cells_keep (hb : ∀ k, k < W.heap.size → W'.heap[k]? = W.heap[k]?) {base n : Nat} {a : Addr} {cs : List Value} (h : W.cells? base a n = some cs) : W'.cells? base a n = some cs := by
  unfold World.cells? at h ⊢
  split at h
  · rename_i hba
    rw [if_pos hba]
    refine mapM_keep h fun i v _ _ hv => ?_
    have hlt : (a.add i).block < W.heap.size := by
      rcases Nat.lt_or_ge (a.add i).block W.heap.size with q | q
      · exact q
      · have : W.cell? (a.add i) = none := by
          unfold World.cell?
          rw [Array.getElem?_eq_none q]
        rw [this] at hv; cases hv
    rw [← hv]
    exact World.cell?_of_block (w := W) (hb _ hlt)
  · cases h

/-! ### arguments of any plain type -/
def tiles (P : Program) : List Field → Nat → Nat → Bool
  | [], at_, n => Nat.beq at_ n
  | f :: r, at_, n => Nat.beq f.offset at_ && tiles P r (at_ + P.cellsOf f.type) n
def plainT (P : Program) : Nat → TypeId → Bool
  | 0, _ => false
  | m + 1, t => match P.underlying t with
    | some .bool | some .string => Nat.beq (P.cellsOf t) 1
    | some (.int _) => Nat.beq (P.cellsOf t) 1
    | some (.slice e) => Nat.beq (P.cellsOf t) 1 && (plainT P m e && !Nat.beq (P.cellsOf e) 0)
    | some (.struct fs) => fs.toList.all (fun f => plainT P m f.type) && tiles P fs.toList 0 (P.cellsOf t)
    | some (.array n e) => plainT P m e && Nat.beq (P.cellsOf t) (n * P.cellsOf e)
    | _ => false


theorem trod_keep (hb : ∀ k, k < W.heap.size → W'.heap[k]? = W.heap[k]?) {base : Nat} {sp : Nat → Bool} {held : Bool} : ∀ (fuel m : Nat) (t : TypeId) (cs : List Value) (x : DataW H × List MemPlace), plainT P m t = true →
    DataW.trod enc P W base (fun _ => true) held fuel t cs = some x → (∀ p ∈ x.2, sp p.block = true) → DataW.trod enc P W' base sp held fuel t cs = some x := by
  intro fuel
  induction fuel with
  | zero => intro m t cs x _ h _; cases h
  | succ fuel ih =>
    intro m t cs x hp h hsp
    cases m with
    | zero => cases hp
    | succ m =>
    unfold plainT at hp
    cases hu : P.underlying t with
    | none => rw [hu] at hp; cases hp
    | some u =>
      rw [hu] at hp
      cases u with
      | bool => obtain ⟨b, rfl, rfl⟩ := DataW.trod_bool hu h; unfold DataW.trod; rw [hu]
      | int k =>
        obtain ⟨b, rfl, rfl, hwf⟩ := DataW.trod_int hu h
        unfold DataW.trod; rw [hu]
        simp [hwf]
      | string =>
        obtain ⟨b, rfl, rfl, hs⟩ := DataW.trod_string hu h
        unfold DataW.trod; rw [hu]
        simp [hs]
      | struct fs =>
        simp only [Bool.and_eq_true, List.all_eq_true] at hp
        unfold DataW.trod at h ⊢
        rw [hu] at h ⊢
        simp only at h ⊢
        split at h
        · rename_i hc
          rw [if_pos hc]
          simp only [Option.map_eq_some_iff] at h ⊢
          obtain ⟨xs, h1, rfl⟩ := h
          refine ⟨xs, mapM_keep h1 fun f y hf hy hq => ih m _ _ _ (hp.1 f hf) hq fun p hp => hsp p ?_, rfl⟩
          simp only [List.mem_flatMap]
          exact ⟨y, hy, hp⟩
        · cases h
      | array n e =>
        simp only [Bool.and_eq_true] at hp
        unfold DataW.trod at h ⊢
        rw [hu] at h ⊢
        simp only at h ⊢
        split at h
        · rename_i hc
          rw [if_pos hc]
          simp only [Option.map_eq_some_iff] at h ⊢
          obtain ⟨xs, h1, rfl⟩ := h
          refine ⟨xs, mapM_keep h1 fun f y hf hy hq => ih m _ _ _ hp.1 hq fun p hp => hsp p ?_, rfl⟩
          simp only [List.mem_flatMap]
          exact ⟨y, hy, hp⟩
        · cases h
      | slice e =>
        simp only [Bool.and_eq_true, Bool.not_eq_true'] at hp
        have hz : P.cellsOf e ≠ 0 := fun q => by have := hp.2.2; rw [q] at this; simp at this
        rcases DataW.trod_slice hu h with ⟨rfl, rfl⟩ | ⟨a, len, cap, -, -, -, -, rfl, -⟩
        · unfold DataW.trod; rw [hu]; rfl
        · unfold DataW.trod at h ⊢
          rw [hu] at h ⊢
          simp only at h ⊢
          split at h
          · rename_i hc
            rw [if_pos hc]
            simp only [if_true, Option.map_eq_some_iff, Option.bind_eq_some_iff] at h ⊢
            obtain ⟨elems, h1, rest, h2, rfl⟩ := h
            have key : ∀ i y, y ∈ elems ++ rest → (W.cells? base (a.add (i * P.cellsOf e)) (P.cellsOf e)).bind (DataW.trod enc P W base (fun _ => true) held fuel e) = some y →
                (W'.cells? base (a.add (i * P.cellsOf e)) (P.cellsOf e)).bind (DataW.trod enc P W' base sp held fuel e) = some y := by
              intro i y hy hq
              rw [Option.bind_eq_some_iff] at hq ⊢
              obtain ⟨cs', q1, q2⟩ := hq
              refine ⟨cs', cells_keep hb q1, ih m _ _ _ hp.2.1 q2 fun p hp => hsp p ?_⟩
              simp only [List.mem_append, List.mem_flatMap]
              exact .inr ⟨y, by simpa using hy, hp⟩
            refine ⟨elems, mapM_keep h1 fun i y _ hy hq => key i y (by simp [hy]) hq, rest, ?_, rfl⟩
            cases hs : sp a.block with
            | true =>
              simp only [if_true]
              exact mapM_keep h2 fun i y _ hy hq => key (len + i) y (by simp [hy]) hq
            | false =>
              simp only [Bool.false_eq_true, if_false]
              cases rest with
              | nil => rfl
              | cons y rest =>
                have hp' : sp a.block = true := by
                  refine hsp (.cell a.block (a.off + 0)) ?_
                  simp only [List.mem_append]
                  refine .inl ?_
                  unfold MemPlace.row
                  rw [List.mem_map]
                  exact ⟨0, List.mem_range.2 (Nat.mul_pos (by simp only [List.length_cons]; omega) (by omega)), rfl⟩
                rw [hs] at hp'; cases hp'
          · cases h
      | _ => cases hp
theorem trodAll_keep (hb : ∀ k, k < W.heap.size → W'.heap[k]? = W.heap[k]?) {base : Nat} {sp : Nat → Bool} {held : Bool} : ∀ (ts : List TypeId) (vs : List Value) (ds : List (DataW H)) (ps : List MemPlace), ts.all (plainT P 20) = true →
    DataW.TrodAll enc P W base (fun _ => true) held ts vs ds ps → (∀ p ∈ ps, sp p.block = true) → DataW.TrodAll enc P W' base sp held ts vs ds ps
  | [], [], [], ps, _, h, _ => h
  | t :: ts, v :: vs, d :: ds, ps, hp, h, hsp => by
    simp only [List.all_cons, Bool.and_eq_true] at hp
    obtain ⟨p, q, ⟨fuel, h1⟩, h2, rfl⟩ := h
    exact ⟨p, q, ⟨fuel, trod_keep hb fuel 20 t _ _ hp.1 h1 fun x hx => hsp x (by simp [hx])⟩, trodAll_keep hb ts vs ds q hp.2 h2 fun x hx => hsp x (by simp [hx]), rfl⟩
  | [], [], _ :: _, _, _, h, _ => h.elim
  | [], _ :: _, _, _, _, h, _ => h.elim
  | _ :: _, [], _, _, _, h, _ => h.elim
  | _ :: _, _ :: _, [], _, _, h, _ => h.elim
end
end Go.Proofs.Xx

/-
  The arguments of a call, as read-only blocks of the abstract memory.
-/
namespace Go.Proofs.Xx
open Go Go.RowKit
set_option linter.unusedSimpArgs false
set_option linter.unusedVariables false

section
variable {P : Program}

/-- A window of a block, to be read alone. -/
theorem Rel.addRo [Glob] {B : Bs} {e : Emb} {h : AH} {w : World} (r : Rel B e h w) {k sh : Nat} {cc : Array Value} {el : TypeId} {fr : Nat × Nat} {c : List Value} (hkB : k < B.lo) (hk : w.heap[k]? = some (.cells cc el fr)) (hsz : sh + c.length ≤ cc.size)
    (hc : ∀ i v, c[i]? = some v → ∃ v', cc[sh + i]? = some v' ∧ VR (e.put h.next ⟨k, sh, 0⟩) v v') :
    Rel B (e.put h.next ⟨k, sh, 0⟩) (h.add (.cells c el none true)) w ∧ e.le (e.put h.next ⟨k, sh, 0⟩) := by
  have hle := r.le_put ⟨k, sh, 0⟩
  have hlt : k < w.heap.size := (Array.getElem?_eq_some_iff.1 hk).1
  refine ⟨⟨fun b M q => ?_, fun b hb => ?_, fun b M q => ?_, fun b M p q1 q2 => ?_, fun b M p b' M' p' e1 e2 e3 e4 e5 e6 e7 => ?_, fun b M p q1 q2 q3 => ?_, r.base, r.keep, r.glob⟩, hle⟩
  · by_cases hb : b = h.next
    · subst hb; exact Nat.lt_succ_self _
    · rw [Emb.put_ne _ _ hb] at q; exact Nat.lt_succ_of_lt (r.dom b M q)
  · have hb' : h.next + 1 ≤ b := hb
    rw [AH.get_add, if_neg (by omega)]; exact r.wf b (by omega)
  · by_cases hb : b = h.next
    · subst hb; rw [Emb.put_same] at q; cases q; exact hlt
    · rw [Emb.put_ne _ _ hb] at q; exact r.rng b M q
  · rw [AH.get_add] at q2
    by_cases hb : b = h.next
    · subst hb; rw [Emb.put_same] at q1; cases q1; rw [if_pos rfl] at q2; cases q2
      exact ⟨cc, fr, hk, hsz, hc, (fun _ => ⟨rfl, fun q => by cases q⟩), (fun _ q => by cases q), (fun q => by cases q)⟩
    · rw [Emb.put_ne _ _ hb] at q1; rw [if_neg hb] at q2
      exact (r.obj b M p q1 q2).mono hle
  · rw [AH.get_add] at e2 e4
    by_cases hb' : b' = h.next
    · subst hb'; rw [if_pos rfl] at e4; cases e4; cases e7
    · rw [Emb.put_ne _ _ hb'] at e3; rw [if_neg hb'] at e4
      by_cases hb : b = h.next
      · subst hb
        rw [Emb.put_same] at e1; cases e1
        rw [if_pos rfl] at e2; cases e2
        have := r.own b' M' p' e3 e4 e7
        simp only at e5; omega
      · rw [Emb.put_ne _ _ hb] at e1; rw [if_neg hb] at e2
        exact r.inj b M p b' M' p' e1 e2 e3 e4 e5 e6 e7
  · rw [AH.get_add] at q2
    by_cases hb : b = h.next
    · subst hb; rw [if_pos rfl] at q2; cases q2; cases q3
    · rw [Emb.put_ne _ _ hb] at q1; rw [if_neg hb] at q2
      exact r.own b M p q1 q2 q3


/-- The world's own blocks stay as they are. -/
def Bs.of (w : World) : Bs := ⟨w.heap.size, w.heap⟩
def RoH (h : AH) : Prop := ∀ b o, h.get b = some o → writable o = false
/-- h is made of windows of w's blocks, to be read alone. -/
structure WRel [Glob] (w : World) (e : Emb) (h : AH) : Prop where
  rel : Rel (Bs.of w) e h w
  ro : RoH h
theorem WRel.empty [Glob] {w : World} (hg : Glob.ok w.heap.size w.heap) : WRel w (fun _ => none) ⟨.e, 0, 0⟩ :=
  ⟨⟨fun b L q => (by cases q), fun b _ => Tr.get_e b, fun b L q => (by cases q), fun b L o q => (by cases q), fun b L o b' L' o' q => (by cases q), fun b L o q => (by cases q), Nat.le_refl _, fun _ _ => rfl, hg⟩,
    fun b o q => by rw [show (⟨.e, 0, 0⟩ : AH).get b = none from Tr.get_e b] at q; cases q⟩
theorem WRel.wfH [Glob] {w : World} {e : Emb} {h : AH} (r : WRel w e h) : WfH h := r.rel.wf

theorem WRel.addRo [Glob] {e : Emb} {h : AH} {w : World} (r : WRel w e h) {k sh : Nat} {cc : Array Value} {el : TypeId} {fr : Nat × Nat} {c : List Value} (hk : w.heap[k]? = some (.cells cc el fr)) (hsz : sh + c.length ≤ cc.size)
    (hc : ∀ i v, c[i]? = some v → ∃ v', cc[sh + i]? = some v' ∧ VR e v v') :
    ∃ e', WRel w e' (h.add (.cells c el none true)) ∧ e.le e' ∧ Ext h (h.add (.cells c el none true)) ∧ e' h.next = some ⟨k, sh, 0⟩ := by
  have hle := r.rel.le_put ⟨k, sh, 0⟩
  obtain ⟨r1, r2⟩ := Rel.addRo (sh := sh) (c := c) r.rel (show k < w.heap.size from (Array.getElem?_eq_some_iff.1 hk).1) hk hsz (fun i v hi => by obtain ⟨v', h1, h2⟩ := hc i v hi; exact ⟨v', h1, h2.mono hle⟩)
  refine ⟨_, ⟨r1, fun b o q => ?_⟩, r2, (Ext.refl r.wfH).add _, Emb.put_same _ _ _⟩
  rw [AH.get_add] at q
  split at q
  · cases q; rfl
  · exact r.ro b o q

/-- The cells cs, of type t, read well in h. -/
def AR (P : Program) (h : AH) : Nat → TypeId → List Value → Prop
  | 0, _, _ => False
  | f + 1, t, cs =>
    match P.underlying t, cs with
    | some .bool, [.bool _] => True
    | some (.int k), [.int k' n] => k' = k ∧ (Lit.int k n).wf = true
    | some .string, [.string s] => s.size ≤ maxLen
    | some (.slice e), [v] => ∃ n c, Rd h v (P.cellsOf e) n c ∧ n ≤ maxLen ∧ CapOk v ∧ ∀ i, i < n → AR P h f e ((c.drop (i * P.cellsOf e)).take (P.cellsOf e))
    | some (.struct fs), cs => cs.length = P.cellsOf t ∧ ∀ fd ∈ fs.toList, AR P h f fd.type ((cs.drop fd.offset).take (P.cellsOf fd.type))
    | some (.array n e), cs => cs.length = P.cellsOf t ∧ ∀ i, i < n → AR P h f e ((cs.drop (i * P.cellsOf e)).take (P.cellsOf e))
    | _, _ => False
theorem AR.ext {h h' : AH} (w : WfH h) (x : Ext h h') : ∀ (f : Nat) (t : TypeId) (cs : List Value), AR P h f t cs → AR P h' f t cs
  | 0, _, _, q => q
  | f + 1, t, cs, q => by
    unfold AR at q ⊢
    split at q
    · exact q
    · exact q
    · exact q
    · obtain ⟨n, c, h1, h2, hc, h3⟩ := q
      exact ⟨n, c, h1.ext w x, h2, hc, fun i hi => AR.ext w x f _ _ (h3 i hi)⟩
    · exact ⟨q.1, fun fd hf => AR.ext w x f _ _ (q.2 fd hf)⟩
    · exact ⟨q.1, fun i hi => AR.ext w x f _ _ (q.2 i hi)⟩
    · exact q


section
variable {H : Type} {enc : TypeId × Value → H}
theorem tiles_le : ∀ (fs : List Field) (a n : Nat), tiles P fs a n = true → a ≤ n
  | [], a, n, h => by have := Nat.eq_of_beq_eq_true h; omega
  | f :: r, a, n, h => by
    simp only [tiles, Bool.and_eq_true] at h
    have := tiles_le r _ n h.2
    omega
/-- cells of type t that read in w may be taken into h. -/
def Takes [Glob] (enc : TypeId × Value → H) (P : Program) (w : World) (base : Nat) (sp : Nat → Bool) (held : Bool) (n : Nat) (t : TypeId) (cs : List Value) : Prop := ∀ e h, WRel w e h → ∃ e' h' r, WRel w e' h' ∧ e.le e' ∧ Ext h h' ∧ VRs e' r cs ∧ AR P h' n t r

theorem embedFields [Glob] {w : World} {base n : Nat} {sp : Nat → Bool} {held : Bool} {cs : List Value} : ∀ (fs : List Field) (a : Nat), tiles P fs a cs.length = true →
    (∀ fd ∈ fs, Takes enc P w base sp held n fd.type ((cs.drop fd.offset).take (P.cellsOf fd.type))) → ∀ e h, WRel w e h →
    ∃ e' h' r, WRel w e' h' ∧ e.le e' ∧ Ext h h' ∧ VRs e' r (cs.drop a) ∧ ∀ fd ∈ fs, a ≤ fd.offset ∧ AR P h' n fd.type ((r.drop (fd.offset - a)).take (P.cellsOf fd.type))
  | [], a, ht, _, e, h, r => by
    have := Nat.eq_of_beq_eq_true ht
    exact ⟨e, h, [], r, e.le_refl, Ext.refl r.wfH, by rw [this, List.drop_length]; exact .nil, fun fd q => by cases q⟩
  | f :: fs, a, ht, hk, e, h, r => by
    simp only [tiles, Bool.and_eq_true] at ht
    have hoff := Nat.eq_of_beq_eq_true ht.1
    have hle := tiles_le fs _ _ ht.2
    obtain ⟨e1, h1, c1, r1, l1, x1, v1, a1⟩ := hk f (by simp) e h r
    obtain ⟨e2, h2, c2, r2, l2, x2, v2, a2⟩ := embedFields fs _ ht.2 (fun fd q => hk fd (by simp [q])) e1 h1 r1
    have hc1 : c1.length = P.cellsOf f.type := by
      have := v1.length
      rw [List.length_take, List.length_drop, hoff] at this
      omega
    refine ⟨e2, h2, c1 ++ c2, r2, Emb.le_trans l1 l2, x1.trans x2, ?_, ?_⟩
    · have := (v1.mono l2).append v2
      rw [hoff, ← List.drop_drop, List.take_append_drop] at this
      exact this
    · intro fd q
      rcases List.mem_cons.1 q with rfl | q
      · refine ⟨by omega, ?_⟩
        rw [hoff, Nat.sub_self, List.drop_zero, List.take_append_of_le_length (by omega), List.take_of_length_le (by omega)]
        exact a1.ext r1.wfH x2 _ _ _
      · obtain ⟨q1, q2⟩ := a2 fd q
        refine ⟨by omega, ?_⟩
        rw [show fd.offset - a = c1.length + (fd.offset - (a + P.cellsOf f.type)) by omega, ← List.drop_drop, List.drop_left]
        exact q2
theorem embedRow [Glob] {w : World} {base n : Nat} {sp : Nat → Bool} {held : Bool} {ty : TypeId} {z : Nat} {cs : List Value} : ∀ (k : Nat), k * z ≤ cs.length →
    (∀ i, i < k → Takes enc P w base sp held n ty ((cs.drop (i * z)).take z)) → ∀ e h, WRel w e h →
    ∃ e' h' r, WRel w e' h' ∧ e.le e' ∧ Ext h h' ∧ VRs e' r (cs.take (k * z)) ∧ ∀ i, i < k → AR P h' n ty ((r.drop (i * z)).take z)
  | 0, _, _, e, h, r => ⟨e, h, [], r, e.le_refl, Ext.refl r.wfH, by simp; exact .nil, fun i q => by omega⟩
  | k + 1, hk, ht, e, h, r => by
    rw [Nat.add_mul, Nat.one_mul] at hk
    obtain ⟨e1, h1, c1, r1, l1, x1, v1, a1⟩ := embedRow k (by omega) (fun i q => ht i (by omega)) e h r
    obtain ⟨e2, h2, c2, r2, l2, x2, v2, a2⟩ := ht k (by omega) e1 h1 r1
    have hc1 : c1.length = k * z := by
      have := v1.length
      rw [List.length_take] at this; omega
    have hc2 : c2.length = z := by
      have := v2.length
      rw [List.length_take, List.length_drop] at this; omega
    refine ⟨e2, h2, c1 ++ c2, r2, Emb.le_trans l1 l2, x1.trans x2, ?_, fun i hi => ?_⟩
    · have := (v1.mono l2).append v2
      rw [Nat.add_mul, Nat.one_mul, List.take_add]
      exact this
    · by_cases hik : i < k
      · have : (i + 1) * z ≤ k * z := Nat.mul_le_mul_right z hik
        rw [Nat.add_mul, Nat.one_mul] at this
        rw [List.drop_append_of_le_length (by omega), List.take_append_of_le_length (by rw [List.length_drop]; omega)]
        exact (a1 i hik).ext r1.wfH x2 _ _ _
      · obtain rfl : i = k := by omega
        rw [← hc1, List.drop_left, List.take_of_length_le (by omega)]
        exact a2

theorem embed [Glob] {w : World} {base : Nat} {sp : Nat → Bool} (hsp : ∀ b, sp b = true) {held : Bool} (hw : ∃ (k : Nat) (cc : Array Value) (el : TypeId) (fr : Nat × Nat), w.heap[k]? = some (.cells cc el fr)) : ∀ (n m : Nat) (t : TypeId) (cs : List Value) (x : DataW H × List MemPlace), plainT P m t = true →
    DataW.trod enc P w base sp held n t cs = some x → Takes enc P w base sp held n t cs
  | 0, _, _, _, _, _, h => by simp [DataW.trod] at h
  | _ + 1, 0, _, _, _, h, _ => by cases h
  | n + 1, m + 1, t, cs, x, hp, h => by
    intro e h0 r
    unfold plainT at hp
    cases hu : P.underlying t with
    | none => rw [hu] at hp; cases hp
    | some u =>
      rw [hu] at hp
      cases u with
      | bool =>
        obtain ⟨b, rfl, -⟩ := DataW.trod_bool hu h
        exact ⟨e, h0, [.bool b], r, e.le_refl, Ext.refl r.wfH, .one (.bool b), by unfold AR; rw [hu]; trivial⟩
      | int k =>
        obtain ⟨b, rfl, -, hwf⟩ := DataW.trod_int hu h
        exact ⟨e, h0, [.int k b], r, e.le_refl, Ext.refl r.wfH, .one (.int k b), by unfold AR; rw [hu]; exact ⟨rfl, hwf⟩⟩
      | string =>
        obtain ⟨s, rfl, -, hs⟩ := DataW.trod_string hu h
        exact ⟨e, h0, [.string s], r, e.le_refl, Ext.refl r.wfH, .one (.string s), by unfold AR; rw [hu]; exact hs⟩
      | struct fs =>
        simp only [Bool.and_eq_true, List.all_eq_true] at hp
        obtain ⟨xs, n', hn, -, hlen, hxl, hf⟩ := DataW.trod_struct hu h
        obtain rfl : n' = n := by omega
        obtain ⟨e1, h1, c1, r1, l1, x1, v1, a1⟩ := embedFields fs.toList 0 (by rw [hlen]; exact hp.2) (fun fd hfd => by
          obtain ⟨i, hi, rfl⟩ := List.getElem_of_mem hfd
          have hg : fs[i]? = some fs.toList[i] := by rw [← Array.getElem?_toList]; exact List.getElem?_eq_getElem hi
          have h2 := hf i _ hg
          have hix : i < xs.length := by rw [hxl]; simpa using hi
          rw [List.getElem?_eq_getElem hix] at h2
          exact embed hsp hw n' m _ _ _ (hp.1 _ (List.getElem_mem hi)) h2) e h0 r
        refine ⟨e1, h1, c1, r1, l1, x1, by simpa using v1, ?_⟩
        unfold AR; rw [hu]
        have hl1 := v1.length
        simp only [List.drop_zero] at hl1
        exact ⟨by omega, fun fd hfd => by have := (a1 fd hfd).2; simpa using this⟩
      | array k el =>
        simp only [Bool.and_eq_true] at hp
        have hsz := Nat.eq_of_beq_eq_true hp.2
        obtain ⟨xs, n', hn, -, hlen, hxl, hf⟩ := DataW.trod_array hu h
        obtain rfl : n' = n := by omega
        obtain ⟨e1, h1, c1, r1, l1, x1, v1, a1⟩ := embedRow (z := P.cellsOf el) (ty := el) (cs := cs) k (by omega) (fun i hi => by
          have h2 := hf i hi
          have hix : i < xs.length := by omega
          rw [List.getElem?_eq_getElem hix] at h2
          exact embed hsp hw n' m _ _ _ hp.1 h2) e h0 r
        rw [List.take_of_length_le (by omega)] at v1
        refine ⟨e1, h1, c1, r1, l1, x1, v1, ?_⟩
        unfold AR; rw [hu]
        exact ⟨by have := v1.length; omega, a1⟩
      | slice el =>
        simp only [Bool.and_eq_true, Bool.not_eq_true'] at hp
        have hz : P.cellsOf el ≠ 0 := fun q => by have := hp.2.2; rw [q] at this; simp at this
        rcases DataW.trod_slice hu h with ⟨rfl, -⟩ | ⟨a, len, cap, elems, rest, n', hn, rfl, -, hb, hl, hm, hlen, hel, hrest, -⟩
        · refine ⟨e, h0, [.slice none 0 0], r, e.le_refl, Ext.refl r.wfH, .one .nilSlice, ?_⟩
          unfold AR; rw [hu]
          exact ⟨0, [], Rd.none_ _ _, Nat.zero_le _, Nat.le_refl _, fun i hi => by omega⟩
        · obtain rfl : n' = n := by omega
          obtain ⟨hr1, hr2⟩ := hrest (hsp _)
          rcases Nat.eq_zero_or_pos cap with hc0 | hc0
          · subst hc0
            obtain rfl : len = 0 := by omega
            obtain ⟨k, cc, el0, fr, hk⟩ := hw
            obtain ⟨e1, r1, l1, x1, q1⟩ := r.addRo (sh := 0) (c := []) hk (by simp) (fun i v hi => by simp at hi)
            refine ⟨e1, _, [.slice (some ⟨h0.next, 0, none⟩) 0 0], r1, l1, x1, .one (.slice h0.next 0 a 0 0 ⟨k, 0, 0⟩ q1 (Nat.le_refl _) (.inr ⟨rfl, rfl⟩)), ?_⟩
            unfold AR; rw [hu]
            exact ⟨0, [], .inr ⟨h0.next, 0, 0, [], el0, none, true, rfl, by rw [AH.get_add, if_pos rfl], by simp [takeAt]⟩, Nat.zero_le _, Nat.le_refl _, fun i hi => by omega⟩
          · -- the first cell is there
            have hfirst : ∃ cs0 y, w.cells? base a (P.cellsOf el) = some cs0 ∧ DataW.trod enc P w base sp held n' el cs0 = some y := by
              rcases Nat.eq_zero_or_pos len with h0' | h0'
              · have h2 := hr2 0 (by omega)
                have hix : 0 < rest.length := by omega
                rw [List.getElem?_eq_getElem hix, h0', Option.bind_eq_some_iff] at h2
                obtain ⟨cs0, q1, q2⟩ := h2
                exact ⟨cs0, _, by simpa [Addr.add] using q1, q2⟩
              · have h2 := hel 0 h0'
                have hix : 0 < elems.length := by omega
                rw [List.getElem?_eq_getElem hix, Option.bind_eq_some_iff] at h2
                obtain ⟨cs0, q1, q2⟩ := h2
                exact ⟨cs0, _, by simpa [Addr.add] using q1, q2⟩
            obtain ⟨cs0, y0, g1, -⟩ := hfirst
            obtain ⟨-, g2, g3⟩ := World.cells?_some g1
            have g4 := g3 0 (by omega)
            rw [List.getElem?_eq_getElem (by omega)] at g4
            obtain ⟨ab, ao, asp⟩ := a
            simp only [Addr.add, if_true] at g4
            unfold World.cell? at g4
            simp only at g4
            cases hblk : w.heap[ab]? with
            | none => rw [hblk] at g4; cases g4
            | some ob =>
              rw [hblk] at g4
              cases ob with
              | cells cc el0 fr =>
                simp only at g4
                cases asp with
                | some s => simp at g4
                | none =>
                  simp only [Option.isSome_none, Bool.false_eq_true, if_false] at g4
                  have hao : ao < cc.size := (Array.getElem?_eq_some_iff.1 g4).1
                  have hcell : ∀ (i : Nat) (v : Value), w.cell? ⟨ab, ao + i, none⟩ = some v ↔ cc[ao + i]? = some v := fun i v => by
                    unfold World.cell?
                    simp [hblk]
                  -- each element's cells
                  have helem : ∀ i, i < len → ∃ y, DataW.trod enc P w base sp held n' el (((cc.toList.drop ao).drop (i * P.cellsOf el)).take (P.cellsOf el)) = some y ∧ ao + i * P.cellsOf el + P.cellsOf el ≤ cc.size := by
                    intro i hi
                    have h2 := hel i hi
                    have hix : i < elems.length := by omega
                    rw [List.getElem?_eq_getElem hix, Option.bind_eq_some_iff] at h2
                    obtain ⟨ci, q1, q2⟩ := h2
                    obtain ⟨-, q3, q4⟩ := World.cells?_some q1
                    have hadd : ∀ j, ((⟨ab, ao, none⟩ : Addr).add (i * P.cellsOf el)).add j = ⟨ab, ao + (i * P.cellsOf el + j), none⟩ := fun j => by rw [add_none, add_none, Nat.add_assoc]
                    have hlast : ao + i * P.cellsOf el + P.cellsOf el ≤ cc.size := by
                      have q5 := q4 (P.cellsOf el - 1) (by omega)
                      rw [List.getElem?_eq_getElem (by omega), hadd, hcell] at q5
                      have := (Array.getElem?_eq_some_iff.1 q5).1
                      omega
                    refine ⟨elems[i], ?_, hlast⟩
                    rw [← q2]
                    congr 1
                    refine List.ext_getElem? fun j => ?_
                    by_cases hj : j < P.cellsOf el
                    · rw [List.getElem?_take, if_pos hj, List.getElem?_drop, List.getElem?_drop]
                      have q5 := q4 j hj
                      have e2 : ci[j]? = some (ci[j]'(by omega)) := List.getElem?_eq_getElem (by omega)
                      rw [e2, hadd, hcell] at q5
                      rw [e2, Array.getElem?_toList]
                      exact q5
                    · rw [List.getElem?_eq_none (by rw [List.length_take]; omega), List.getElem?_eq_none (by omega)]
                  have hfit : ao + len * P.cellsOf el ≤ cc.size := by
                    rcases Nat.eq_zero_or_pos len with h0' | h0'
                    · rw [h0', Nat.zero_mul]; omega
                    · obtain ⟨-, -, q⟩ := helem (len - 1) (by omega)
                      have : (len - 1) * P.cellsOf el + P.cellsOf el = len * P.cellsOf el := by
                        rw [← Nat.succ_mul]; congr 1; omega
                      omega
                  obtain ⟨e1, h1, c1, r1, l1, x1, v1, a1⟩ := embedRow (z := P.cellsOf el) (ty := el) (cs := cc.toList.drop ao) len (by simp; omega) (fun i hi => by
                    obtain ⟨y, q1, -⟩ := helem i hi
                    exact embed hsp hw n' m _ _ _ hp.2.1 q1) e h0 r
                  have hc1 : c1.length = len * P.cellsOf el := by
                    have := v1.length
                    rw [List.length_take, List.length_drop, Array.length_toList] at this; omega
                  obtain ⟨e2, r2, l2, x2, q2⟩ := r1.addRo (sh := ao) (c := c1) hblk (by omega) (fun i v hi => by
                    obtain ⟨v', q1, q2⟩ := v1.get i v hi
                    refine ⟨v', ?_, q2⟩
                    rw [List.getElem?_take, List.getElem?_drop, Array.getElem?_toList] at q1
                    split at q1
                    · exact q1
                    · cases q1)
                  refine ⟨e2, _, [.slice (some ⟨h1.next, 0, none⟩) len cap], r2, Emb.le_trans l1 l2, x1.trans x2, .one (.slice h1.next 0 ⟨ab, ao, none⟩ len cap ⟨ab, ao, 0⟩ q2 hl (.inl rfl)), ?_⟩
                  unfold AR; rw [hu]
                  refine ⟨len, c1, .inr ⟨h1.next, 0, cap, c1, el0, none, true, rfl, by rw [AH.get_add, if_pos rfl], by rw [← hc1]; exact takeAt_all c1⟩, by omega, hl, fun i hi => (a1 i hi).ext r1.wfH x2 _ _ _⟩
              | _ => cases g4
      | _ => cases hp
end
end
end Go.Proofs.Xx

/-
  From a law's contract over the checked run to the machine's call.
-/
namespace Go.Proofs.Xx
open Go Go.RowKit Go.WideShapes Go.ChangeShapes
set_option linter.unusedSimpArgs false
set_option linter.unusedVariables false

theorem VRs.one_inv {e : Emb} {r : List Value} {v : Value} (h : VRs e r [v]) : ∃ u, r = [u] ∧ VR e u v := by
  cases h with
  | cons u v' s s' h1 h2 => cases h2; exact ⟨u, rfl, h1⟩
section
variable {P : Program}
/-- A value of type t, by its cells. -/
def absV (P : Program) (t : TypeId) (r : List Value) : Value :=
  match P.underlying t with
  | some (.struct _) | some (.array _ _) => .agg r.toArray
  | _ => r.headD .nilFunc
theorem absV_ok {w : World} {rc : Reach} {b0 m : Nat} {t : TypeId} {v : Value} {e : Emb} {r : List Value} (hp : plainT P m t = true) (hval : Value.okWide P w rc b0 t v) (hv : VRs e r v.cells.toList) : VR e (absV P t r) v := by
  cases m with
  | zero => cases hp
  | succ m =>
    unfold plainT at hp
    unfold absV
    unfold Value.okWide at hval
    cases hu : P.underlying t with
    | none => rw [hu] at hp; cases hp
    | some u =>
      rw [hu] at hp hval
      cases u with
      | struct fs =>
        obtain ⟨cs, rfl, -⟩ := hval
        exact VR.agg (f := e) r cs.toList (by simpa [Value.cells] using hv)
      | array n el =>
        obtain ⟨cs, rfl, -⟩ := hval
        exact VR.agg (f := e) r cs.toList (by simpa [Value.cells] using hv)
      | bool =>
        have : ∃ b, v = .bool b := by cases v <;> simp_all [Cell.okWide, Cell.ok]
        obtain ⟨b, rfl⟩ := this
        obtain ⟨x, rfl, h1⟩ := VRs.one_inv (show VRs e r [.bool b] from hv)
        exact h1
      | int k =>
        have : ∃ k' b, v = .int k' b := by cases v <;> simp_all [Cell.okWide, Cell.ok]
        obtain ⟨k', b, rfl⟩ := this
        obtain ⟨x, rfl, h1⟩ := VRs.one_inv (show VRs e r [.int k' b] from hv)
        exact h1
      | string =>
        have : ∃ b, v = .string b := by cases v <;> simp_all [Cell.okWide, Cell.ok]
        obtain ⟨b, rfl⟩ := this
        obtain ⟨x, rfl, h1⟩ := VRs.one_inv (show VRs e r [.string b] from hv)
        exact h1
      | slice el =>
        have : ∃ a l c, v = .slice a l c := by cases v <;> simp_all [Cell.okWide, Cell.ok]
        obtain ⟨a, l, c, rfl⟩ := this
        obtain ⟨x, rfl, h1⟩ := VRs.one_inv (show VRs e r [.slice a l c] from hv)
        exact h1
      | _ => cases hp

/-- The values us, of types ts, read well in h. -/
def ArgsR (P : Program) (h : AH) : List TypeId → List Value → Prop
  | [], [] => True
  | t :: ts, u :: us => (∃ n r, AR P h n t r ∧ u = absV P t r) ∧ ArgsR P h ts us
  | _, _ => False
theorem ArgsR.ext {h h' : AH} (w : WfH h) (x : Ext h h') : ∀ (ts : List TypeId) (us : List Value), ArgsR P h ts us → ArgsR P h' ts us
  | [], [], q => q
  | t :: ts, u :: us, q => ⟨let ⟨n, r, h1, h2⟩ := q.1; ⟨n, r, h1.ext w x _ _ _, h2⟩, ArgsR.ext w x ts us q.2⟩
  | [], _ :: _, q => q.elim
  | _ :: _, [], q => q.elim

theorem ArgsR.cons_inv {h : AH} {t : TypeId} {ts : List TypeId} {us : List Value} (a : ArgsR P h (t :: ts) us) : ∃ n r us', us = absV P t r :: us' ∧ AR P h n t r ∧ ArgsR P h ts us' := by
  cases us with
  | nil => exact a.elim
  | cons u us =>
    obtain ⟨⟨n, r, h1, rfl⟩, h2⟩ := a
    exact ⟨n, r, us, rfl, h1, h2⟩
theorem ArgsR.nil_inv {h : AH} {us : List Value} (a : ArgsR P h [] us) : us = [] := by
  cases us with
  | nil => rfl
  | cons u us => exact a.elim

section
variable {H : Type} {enc : TypeId × Value → H}
theorem embedArgs [Glob] {w : World} {rc : Reach} {b0 base : Nat} {held : Bool} (hw : ∃ (k : Nat) (cc : Array Value) (el : TypeId) (fr : Nat × Nat), w.heap[k]? = some (.cells cc el fr)) : ∀ (ts : List TypeId) (vs : List Value) (ds : List (DataW H)) (ps : List MemPlace),
    ts.all (plainT P 20) = true → (∀ (j : Nat) t v, ts[j]? = some t → vs[j]? = some v → Value.okWide P w rc b0 t v) → DataW.TrodAll enc P w base (fun _ => true) held ts vs ds ps → ∀ e h, WRel w e h →
    ∃ e' h' us, WRel w e' h' ∧ e.le e' ∧ Ext h h' ∧ VRs e' us vs ∧ ArgsR P h' ts us
  | [], [], [], _, _, _, _, e, h, r => ⟨e, h, [], r, e.le_refl, Ext.refl r.wfH, .nil, trivial⟩
  | t :: ts, v :: vs, d :: ds, ps, hp, hval, hA, e, h, r => by
    simp only [List.all_cons, Bool.and_eq_true] at hp
    obtain ⟨p, q, ⟨fuel, h1⟩, h2, rfl⟩ := hA
    obtain ⟨e1, g1, r1, w1, l1, x1, v1, a1⟩ := embed (fun _ => rfl) hw fuel 20 t _ _ hp.1 h1 e h r
    obtain ⟨e2, g2, us, w2, l2, x2, v2, a2⟩ := embedArgs hw ts vs ds q hp.2 (fun j t v q1 q2 => hval (j + 1) t v (by simpa using q1) (by simpa using q2)) h2 e1 g1 w1
    exact ⟨e2, g2, absV P t r1 :: us, w2, Emb.le_trans l1 l2, x1.trans x2, .cons _ _ _ _ (absV_ok hp.1 (hval 0 t v rfl rfl) (v1.mono l2)) v2, ⟨fuel, r1, a1.ext w1.wfH x2 _ _ _, rfl⟩, a2⟩
  | [], [], _ :: _, _, _, _, h, _, _, _ => h.elim
  | [], _ :: _, _, _, _, _, h, _, _, _ => h.elim
  | _ :: _, [], _, _, _, _, h, _, _, _ => h.elim
  | _ :: _, _ :: _, [], _, _, _, h, _, _, _ => h.elim

/-- A LAW'S CALL: what its contract gives. -/
theorem law_calls [Glob] {X : Extern} (hm : P.follows .mixedOrders = true) (hX : XOk P X) (hN : ∀ (f : FuncId) (fn : Func), P.funcs[f]? = some fn → fn.body.isSome = true → (fn.name == "runtime.NumGoroutine") = false)
    {f : FuncId} {fn : Func} {body : Code} (hfn : P.funcs[f]? = some fn) (hb : fn.body = some body) (hXn : ∀ us h, X f us h = none) (hpl : fn.params.toList.all (plainT P 20) = true)
    (core : ∀ h us, WfH h → ArgsR P h fn.params.toList us → Fn P X f us h (fun x _ => x = .bool true))
    {w : World} {rc : Reach} {b0 : Nat} {args : Array Value} {ds : List (DataW H)} {ps : List MemPlace} (hg : Glob.ok w.heap.size w.heap) (hw : ∃ (k : Nat) (cc : Array Value) (el : TypeId) (fr : Nat × Nat), w.heap[k]? = some (.cells cc el fr))
    (hval : ∀ (j : Nat) t v, fn.params[j]? = some t → args[j]? = some v → Value.okWide P w rc b0 t v) (hA : DataW.TrodAll enc P w 0 (fun _ => true) true fn.params.toList args.toList ds ps) :
    Calls P f args w fun e w' => e = .returned (.bool true) ∧ Below w.heap.size w w' := by
  obtain ⟨e, h, us, r, -, -, v1, a1⟩ := embedArgs (P := P) hw fn.params.toList args.toList ds ps hpl (fun j t v q1 q2 => hval j t v (by simpa using q1) (by simpa using q2)) hA _ _ (WRel.empty hg)
  obtain ⟨n, v, h', hc, rfl⟩ := core h us r.wfH a1
  obtain ⟨e', v', w', r1, t1, hv, hcalls⟩ := callA_calls (exec_sound hm hX hN n) hc (hXn us h) hfn hb r.rel v1
  cases hv
  rw [Array.toArray_toList] at hcalls
  refine hcalls.mono fun en w'' ⟨q1, q2⟩ => ?_
  subst q2
  exact ⟨q1, t1.os, t1.tape, t1.output, t1.size, fun k hk => r1.keep k hk⟩
end
end
end Go.Proofs.Xx

/-
  Small lemmas for the rows.
-/
namespace Go.Proofs.Xx
open Go Go.RowKit Go.WideShapes Go.ChangeShapes
set_option linter.unusedSimpArgs false
set_option linter.unusedVariables false

section
variable {H : Type} {enc : TypeId × Value → H} {P : Program}
theorem trodAll_length {W : World} {base : Nat} {sp : Nat → Bool} {held : Bool} : ∀ {ts : List TypeId} {vs : List Value} {ds : List (DataW H)} {ps : List MemPlace}, DataW.TrodAll enc P W base sp held ts vs ds ps → ds.length = ts.length
  | [], [], [], _, _ => rfl
  | t :: ts, v :: vs, d :: ds, ps, h => by
    obtain ⟨p, q, _, h2, _⟩ := h
    simp [trodAll_length h2]
  | [], [], _ :: _, _, h => h.elim
  | [], _ :: _, _, _, h => h.elim
  | _ :: _, [], _, _, h => h.elim
  | _ :: _, _ :: _, [], _, h => h.elim

theorem post_of_below {f : Func} {s : ChangeSpec} {apart fresh handsOn again : Bool} {W W' : World} {args : Array Value} {v : Value} {ds gs : List (DataW H)} {before pa pv : List MemPlace}
    (hW : DataW.Whole enc P f.params.toList s.vars apart W args.toList ds gs before)
    (hres : ∀ (b : Nat) (sp : Nat → Bool) (hd : Bool), DataW.TrodAll enc P W' b sp hd f.resultTypes.toList (v.resultList f.resultTypes.size) (s.fn H (ds ++ gs)).results [])
    (hargs : ∀ sp : Nat → Bool, (∀ p ∈ before, sp p.block = true) → DataW.TrodAll enc P W' 0 sp true f.params.toList args.toList (s.fn H (ds ++ gs)).args pa)
    (hvars : ∀ sp : Nat → Bool, (∀ p ∈ before, sp p.block = true) → DataW.TrodVars enc P W' sp s.vars (s.fn H (ds ++ gs)).vars pv)
    (hps : before = pa ++ pv) (hb : Below W.heap.size W W')
    (hok : ∀ (j : Nat) (t : TypeId) (r : Value), f.resultTypes[j]? = some t → (v.resultList f.resultTypes.size)[j]? = some r → Value.okWide P W' .any 0 t r) :
    s.post enc P f apart fresh handsOn again W args v W' := by
  have hlt : ∀ p ∈ before, p.block < W.heap.size := fun p hp => hW.lt p hp
  have hold : ∀ p ∈ before, (fun b => decide (b < W.heap.size)) p.block = true := fun p hp => by simpa using hlt p hp
  refine ⟨ds, gs, before, [], pa, pv, hW, hres _ _ _, hargs _ hold, hvars _ hold, World.keptBut_mono (fun p hp => ⟨hp, ?_⟩) (hb.frame (· ∈ before)), fun _ => ?_⟩
  · rw [hps, List.mem_append] at hp
    exact Or.inr hp
  · obtain ⟨_, _, _, _, _, hz, hn⟩ := hW
    refine ⟨hok, _, _, ([] ++ pa) ++ pv, ⟨[] ++ pa, pv, trodAll_append (hargs _ (fun _ _ => rfl)) (hres _ _ _), hvars _ (fun _ _ => rfl), rfl, ?_, ?_⟩, ?_⟩
    · intro b off hp
      have hin : MemPlace.cell b off ∈ before := by rw [hps]; simpa using hp
      rw [hb.frozen (hlt _ hin)]
      exact hz b off hin
    · intro ha
      have := hn ha
      rw [hps] at this
      simpa using this
    · intro p hp _
      rw [hps]
      simpa using hp
end
end Go.Proofs.Xx

/-
  Arguments of a law, opened by their types.
-/
namespace Go.Proofs.Xx
open Go
set_option linter.unusedSimpArgs false
set_option linter.unusedVariables false

section
variable {P : Program} {h : AH}
theorem AR.int1 {n : Nat} {t : TypeId} {r : List Value} {k : IntKind} (a : AR P h n t r) (hu : P.underlying t = some (.int k)) : ∃ x : Int, r = [.int k x] ∧ (Lit.int k x).wf = true := by
  cases n with
  | zero => exact a.elim
  | succ n =>
    unfold AR at a
    rw [hu] at a
    split at a
    all_goals (first | exact a.elim | (rename_i q _; cases q; done) | (rename_i q; cases q; done) | skip)
    rename_i k0 k' x q
    cases q
    obtain ⟨rfl, h2⟩ := a
    exact ⟨x, rfl, h2⟩
theorem AR.struct1 {n : Nat} {t : TypeId} {r : List Value} {fs : Array Field} {m : List (Nat × TypeId)} {z : Nat} (a : AR P h n t r) (hu : P.underlying t = some (.struct fs)) (hm : fs.toList.map (fun f => (f.offset, f.type)) = m) (hz : P.cellsOf t = z) :
    ∃ n', r.length = z ∧ ∀ p ∈ m, AR P h n' p.2 ((r.drop p.1).take (P.cellsOf p.2)) := by
  cases n with
  | zero => exact a.elim
  | succ n =>
    unfold AR at a
    rw [hu] at a
    replace a : r.length = P.cellsOf t ∧ ∀ fd ∈ fs.toList, AR P h n fd.type ((r.drop fd.offset).take (P.cellsOf fd.type)) := a
    refine ⟨n, by rw [a.1, hz], fun p hp => ?_⟩
    rw [← hm, List.mem_map] at hp
    obtain ⟨fd, hf, rfl⟩ := hp
    exact a.2 fd hf
theorem pieces {α : Type} {z : Nat} {enc : α → List Value} {good : α → Prop} : ∀ (n : Nat) (c : List Value), c.length = n * z → (∀ i, i < n → ∃ y, (c.drop (i * z)).take z = enc y ∧ good y) → ∃ l : List α, l.length = n ∧ c = l.flatMap enc ∧ ∀ y ∈ l, good y
  | 0, c, hc, _ => ⟨[], rfl, by rw [Nat.zero_mul] at hc; rw [List.length_eq_zero_iff.1 hc]; rfl, fun y q => by cases q⟩
  | n + 1, c, hc, hk => by
    rw [Nat.add_mul, Nat.one_mul] at hc
    obtain ⟨y, h1, h2⟩ := hk 0 (by omega)
    obtain ⟨l, l1, l2, l3⟩ := pieces (z := z) (enc := enc) (good := good) n (c.drop z) (by rw [List.length_drop, hc]; omega) (fun i hi => by
      obtain ⟨y, q1, q2⟩ := hk (i + 1) (by omega)
      refine ⟨y, ?_, q2⟩
      rw [List.drop_drop, ← q1, Nat.add_mul, Nat.one_mul, Nat.add_comm z])
    rw [Nat.zero_mul, List.drop_zero] at h1
    refine ⟨y :: l, by simp [l1], ?_, fun x q => ?_⟩
    · rw [List.flatMap_cons, ← h1, ← l2, List.take_append_drop]
    · rcases List.mem_cons.1 q with rfl | q
      · exact h2
      · exact l3 x q
theorem AR.slice1 {α : Type} [Inhabited α] {n : Nat} {t e : TypeId} {r : List Value} {z : Nat} (enc : α → List Value) (good : α → Prop) (a : AR P h n t r) (hu : P.underlying t = some (.slice e)) (hz : P.cellsOf e = z) (hk : ∀ n cs, AR P h n e cs → ∃ y, cs = enc y ∧ good y) :
    ∃ v l, r = [v] ∧ RdL h v z enc l ∧ l.length ≤ maxLen ∧ CapOk v ∧ ∀ i, i < l.length → good (l.getD i default) := by
  cases n with
  | zero => exact a.elim
  | succ n =>
    unfold AR at a
    rw [hu] at a
    split at a
    all_goals (first | exact a.elim | (rename_i q _; cases q; done) | (rename_i q; cases q; done) | skip)
    rename_i e' v q
    cases q
    obtain ⟨k, c, h1, h2, hc, h3⟩ := a
    rw [hz] at h1 h3
    obtain ⟨l, l1, l2, l3⟩ := pieces (enc := enc) (good := good) k c h1.length (fun i hi => hk n _ (h3 i hi))
    subst l1 l2
    refine ⟨v, l, rfl, h1, h2, hc, fun i hi => ?_⟩
    rw [List.getD_eq_getElem?_getD, List.getElem?_eq_getElem hi]
    exact l3 _ (List.getElem_mem hi)
theorem AR.bytes1 {n : Nat} {t e : TypeId} {r : List Value} (a : AR P h n t r) (hu : P.underlying t = some (.slice e)) (he : P.underlying e = some (.int .u8)) (hc : P.cellsOf e = 1) :
    ∃ v l, r = [v] ∧ RdL h v 1 eU l ∧ l.length ≤ maxLen ∧ CapOk v ∧ ∀ i, i < l.length → l.getD i default < 256 :=
  AR.slice1 eU (fun x => x < 256) a hu hc (fun n cs q => by
    obtain ⟨x, hx, hw⟩ := q.int1 he
    have : 0 ≤ x ∧ x < 256 := by
      simp [Lit.wf, IntKind.min, IntKind.max, IntKind.signed, IntKind.bits] at hw
      omega
    refine ⟨x.toNat, ?_, by omega⟩
    rw [hx]; unfold eU; rw [Int.toNat_of_nonneg this.1])
end
end Go.Proofs.Xx

/-
  Tables and lists of tables among the arguments.
-/
namespace Go.Proofs.Xx
open Go Go.Proofs
set_option linter.unusedSimpArgs false
set_option linter.unusedVariables false
set_option maxRecDepth 100000

/-- What a table among the arguments reads as: any lengths. -/
structure TabA (h : AH) (t : Tab) : Prop where
  rd : RdL h t.ov 1 eI t.opn
  cap : CapOk t.ov
  name : t.name.length ≤ maxLen
  opn : t.opn.length ≤ maxLen
theorem TabA.ext {h h' : AH} {t : Tab} (a : TabA h t) (w : WfH h) (x : Ext h h') : TabA h' t := ⟨a.rd.ext w x, a.cap, a.name, a.opn⟩
/-- A hall among the arguments. -/
structure HallA (h : AH) (v : Value) (l : List Tab) : Prop where
  rd : RdL h v 7 eT l
  cap : CapOk v
  len : l.length ≤ maxLen
  tab : ∀ i, i < l.length → TabA h (tb l i)
theorem HallA.ext {h h' : AH} {v : Value} {l : List Tab} (a : HallA h v l) (w : WfH h) (x : Ext h h') : HallA h' v l := ⟨a.rd.ext w x, a.cap, a.len, fun i hi => (a.tab i hi).ext w x⟩
end Go.Proofs.Xx

/-
  Codes of tables among the arguments.
-/
namespace Go.Proofs.Xx
open Go Go.Proofs
set_option linter.unusedSimpArgs false
set_option linter.unusedVariables false
set_option maxRecDepth 100000

/-- A code of a table. -/
structure Cod where
  s : Nat
  a : Nat
  b : Nat
  os : SlV
  opn : List Nat
instance : Inhabited Cod := ⟨⟨0, 0, 0, ⟨none, 0, 0⟩, []⟩⟩
def eC (c : Cod) : List Value := [.int .u8 c.s, .int .u8 c.a, .int .u8 c.b, c.os.val]
abbrev codV (c : Cod) : Value := .agg (eC c).toArray
structure CodA (h : AH) (c : Cod) : Prop where
  rd : RdL h c.os.val 1 eU c.opn
  cap : CapOk c.os.val
  len : c.opn.length ≤ maxLen
  b1 : c.s < 256 ∧ c.a < 256 ∧ c.b < 256
  b2 : ∀ i, i < c.opn.length → c.opn.getD i default < 256
theorem CodA.ext {h h' : AH} {c : Cod} (a : CodA h c) (w : WfH h) (x : Ext h h') : CodA h' c := ⟨a.rd.ext w x, a.cap, a.len, a.b1, a.b2⟩
theorem AR.u81 {h : AH} {n : Nat} {t : TypeId} {r : List Value} (a : AR Tryz.prog h n t r) (hu : (Tryz.prog).underlying t = some (.int .u8)) : ∃ x : Nat, r = [.int .u8 x] ∧ x < 256 := by
  obtain ⟨x, hx, hw⟩ := a.int1 hu
  have : 0 ≤ x ∧ x < 256 := by
    simp [Lit.wf, IntKind.min, IntKind.max, IntKind.signed, IntKind.bits] at hw
    omega
  exact ⟨x.toNat, by rw [hx, Int.toNat_of_nonneg this.1], by omega⟩
theorem AR.code1 {h : AH} {n : Nat} {r : List Value} (a : AR Tryz.prog h n 50 r) : ∃ c, r = eC c ∧ CodA h c := by
  obtain ⟨n', hl, hk⟩ := a.struct1 (m := [(0, 5), (1, 5), (2, 5), (3, 48)]) (z := 4) rfl (by kernel_rfl) (by kernel_rfl)
  match r, hl with
  | [x0, x1, x2, x3], _ =>
    obtain ⟨y0, e0, h0⟩ := AR.u81 (show AR Tryz.prog h n' 5 [x0] from hk (0, 5) (by simp)) (by kernel_rfl)
    obtain ⟨y1, e1, h1⟩ := AR.u81 (show AR Tryz.prog h n' 5 [x1] from hk (1, 5) (by simp)) (by kernel_rfl)
    obtain ⟨y2, e2, h2⟩ := AR.u81 (show AR Tryz.prog h n' 5 [x2] from hk (2, 5) (by simp)) (by kernel_rfl)
    obtain ⟨v, l, e3, h3, h4, h5, h6⟩ := AR.bytes1 (e := 5) (show AR Tryz.prog h n' 48 [x3] from hk (3, 48) (by simp)) (by kernel_rfl) (by kernel_rfl) (by kernel_rfl)
    cases e0; cases e1; cases e2
    obtain ⟨sv, rfl⟩ := h3.isSl
    cases e3
    exact ⟨⟨y0, y1, y2, sv, l⟩, rfl, h3, h5, h4, ⟨h0, h1, h2⟩, h6⟩
abbrev cd (l : List Cod) (i : Nat) : Cod := l.getD i default
structure CodesA (h : AH) (v : Value) (l : List Cod) : Prop where
  rd : RdL h v 4 eC l
  cap : CapOk v
  len : l.length ≤ maxLen
  cod : ∀ i, i < l.length → CodA h (cd l i)
theorem CodesA.ext {h h' : AH} {v : Value} {l : List Cod} (a : CodesA h v l) (w : WfH h) (x : Ext h h') : CodesA h' v l := ⟨a.rd.ext w x, a.cap, a.len, fun i hi => (a.cod i hi).ext w x⟩
end Go.Proofs.Xx

/-
  Compact; valid tables and halls that are made of codes.
-/
namespace Go.Proofs.Xx
open Go Go.Proofs
set_option linter.unusedSimpArgs false
set_option linter.unusedVariables false
set_option maxRecDepth 100000

/-- In strict order. -/
def StrictI (l : List Int) : Prop := ∀ i, 0 < i → i < l.length → l.getD (i - 1) default < l.getD i default
def SubI (l m : List Int) : Prop := ∀ i, i < l.length → ∃ j, j < m.length ∧ l.getD i default = m.getD j default
theorem getD_take (l : List Int) {k i : Nat} (h : i < k) : (l.take k).getD i default = l.getD i default := by
  simp only [List.getD_eq_getElem?_getD, List.getElem?_take, if_pos h]
theorem sl_rd {h0 h : AH} {rs : List Rs} {v : Value} {e : TypeId} {l : List Int} (S : Hs h0 h (.sl v e 1 eI l :: rs)) : Hs h0 h (.rd v 1 eI l :: rs) :=
  S.same .here fun fp k => by
    rcases k with ⟨rfl, rfl⟩ | ⟨b, o, cc, slk, g1, g2, g3, g4, g5⟩
    · exact .inl ⟨rfl, rfl⟩
    · exact .inr ⟨b, o, _, cc, e, slk, false, g1, g2, g3, g4⟩

theorem compact_ok {h0 h : AH} {rs : List Rs} {v : Value} {l : List Int} (S : Hs h0 h (.sl v 3 1 eI l :: rs)) (hl : l.length ≤ 1000000) (hs : Srt ltI 0 l.length l) :
    Fn Tryz.prog Xh 137 [v] h (fun r h' => ∃ out, StrictI out ∧ SubI out l ∧ out.length ≤ l.length ∧ Hs h0 h' (.rd r 1 eI out :: rs)) := by
  have hle : ∀ i j, i ≤ j → j < l.length → l.getD i default ≤ l.getD j default := fun i j q1 q2 => by
    rcases Nat.lt_or_ge i j with q | q
    · have := hs i j (Nat.zero_le _) q q2
      unfold ltI at this; omega
    · have : i = j := by omega
      subst this; omega
  refine Fn_K rfl Tryz.func137 rfl rfl ?_
  all_goals (repeat' (first | refine K_seq ?_ | refine k_cond rfl ?_ | refine K_skip ?_ | refine k_block ?_ | (refine K_region (id := 0) ?_; refine mv ?_; refine KO_nil ?_) | (refine K_region (id := 1) ?_; refine mv ?_; refine lnS S rfl rfl ?_; (first | (refine cS ?_ ?_ <;> intro hc)) <;> (refine KO_nil ?_)) | (refine K_region (id := 2) ?_; refine mv ?_; refine mv ?_; refine KO_nil ?_) | (refine K_region (id := 3) ?_; refine mv ?_; refine KO_nil ?_)))
  · refine K_ret ⟨_, rfl, ?_⟩
    exact ⟨l, fun i q1 q2 => by omega, fun i hi => ⟨i, hi, rfl⟩, Nat.le_refl _, sl_rd S⟩
  have hn : 2 ≤ l.length := by omega
  refine k_loop (σ := Nat) (fun k h' => Hs h0 h' (.sl v 3 1 eI l :: rs) ∧ (1 ≤ k ∧ k ≤ l.length) ∧ ∀ i, 0 < i → i < k → l.getD (i - 1) default < l.getD i default) (fun k => l.length - k) (fun k => [(0, v), (3, .int .i64 k)]) 1 (by repeat (first | exact Ks.le_nil _ | refine Ks.le_cons rfl ?_)) ?_ ?_
  · exact ⟨S, by omega, fun i q1 q2 => by omega⟩
  clear S
  rintro K h ⟨S, h1, h2⟩
  all_goals (repeat' (first | refine K_seq ?_ | refine k_cond rfl ?_ | refine K_skip ?_ | refine K_exit ?_ | refine k_block ?_ | (refine K_region (id := 4) ?_; refine mv ?_; refine mv ?_; refine lnS S rfl rfl ?_; (first | (refine cS ?_ ?_ <;> intro hc)) <;> (refine KO_nil ?_)) | (refine K_draw (id := 6) ?_; refine mv ?_; refine mv ?_; refine ixS2 S rfl rfl ?_; refine lES2 S rfl rfl ?_; refine mv ?_; refine mv ?_; refine sb ?_; refine ixS2 S rfl rfl ?_; refine lES2 S rfl rfl ?_; (first | (refine cS ?_ ?_ <;> intro hc)) <;> (refine KO_nil ?_))))
  · simp only [toNat_pred, Int.toNat_natCast] at hc
    have hK : K < l.length := by omega
    refine K_region (id := 7) ?_
    refine mv ?_; refine mv ?_
    refine dv S rfl rfl ?_
    intro v2 V
    rw [Int.toNat_natCast] at V
    refine mv ?_
    refine KO_nil ?_
    all_goals (repeat' (first | refine K_seq ?_ | refine k_block ?_ | (refine K_region (id := 8) ?_; refine mv ?_; refine KO_nil ?_)))
    refine k_loop (σ := Nat × Nat × List Int) (fun (k, j, m) h' => Hs h0 h' (.sl v 3 1 eI m :: rs) ∧ (K ≤ k ∧ k + 1 ≤ K + j ∧ 1 ≤ j ∧ j ≤ l.length - K) ∧ m.length = l.length ∧ (∀ i, k ≤ i → m.getD i default = l.getD i default) ∧ m.getD (k - 1) default = l.getD (K + j - 1) default ∧ (∀ i, 0 < i → i < k → m.getD (i - 1) default < m.getD i default) ∧ (∀ i, i < k → ∃ x, x < l.length ∧ m.getD i default = l.getD x default)) (fun (k, j, m) => l.length - j) (fun (k, j, m) => [(0, v), (3, .int .i64 k), (4, v2), (5, .int .i64 j)]) (K, 1, l) (by repeat (first | exact Ks.le_nil _ | refine Ks.le_cons rfl ?_)) ?_ ?_
    · exact ⟨S, by omega, rfl, fun i _ => rfl, by rw [Nat.add_sub_cancel]; exact hc.symm, h2, fun i hi => ⟨i, by omega, rfl⟩⟩
    clear S h2
    rintro ⟨k, j, m⟩ h ⟨S, k1, k2, k3, k4, k5, k6⟩
    have V := V
    rw [← k2] at V
    have rv := V.rd (Rd.of_sl S .here) (fun _ => rfl) (by omega)
    have rvl : (m.drop K).length = l.length - K := by rw [List.length_drop, k2]
    (repeat (refine K_seq ?_)); refine K_region (id := 9) ?_
    refine mv ?_; refine mv ?_
    refine m_len rfl rfl rfl rfl rv rfl ?_
    rw [rvl]
    (first | (refine cS ?_ ?_ <;> intro hc)) <;> (refine KO_nil ?_)
    all_goals (repeat' (first | refine K_seq ?_ | refine k_cond rfl ?_ | refine K_skip ?_ | refine K_exit ?_ | refine k_block ?_))
    · have hj : j < l.length - K := by omega
      refine K_draw (id := 11) ?_
      refine mv ?_; refine mv ?_
      refine m_idx (z := 1) rfl rfl rfl rfl rfl rv (by omega) rfl ?_
      rw [V.el]
      refine lES2 S rfl rfl ?_
      refine mv ?_; refine mv ?_; refine sb ?_
      refine m_idx (z := 1) rfl rfl rfl rfl rfl rv (by omega) rfl ?_
      rw [V.el]
      refine lES2 S rfl rfl ?_
      rw [toNat_pred, Int.toNat_natCast, k3 (K + j) (by omega)]
      rw [k3 (K + (j - 1)) (by omega), show K + (j - 1) = K + j - 1 by omega]
      (first | (refine cS ?_ ?_ <;> intro hc)) <;> (refine KO_nil ?_)
      · all_goals (repeat' (first | refine K_seq ?_ | refine k_cond rfl ?_))
        refine K_region (id := 12) ?_
        refine mv ?_; refine mv ?_; refine mv ?_; refine mv ?_
        refine m_idx (z := 1) rfl rfl rfl rfl rfl rv (by omega) rfl ?_
        rw [V.el]
        refine lES2 S rfl rfl ?_
        rw [Int.toNat_natCast, k3 (K + j) (by omega)]
        (refine ixS2 S rfl rfl ?_); (first | (refine sE2 S rfl rfl ?_; clear S; intro h S)); refine KO_nil ?_
        rw [Int.toNat_natCast] at S
        all_goals (repeat' (first | (refine K_region (id := 10) ?_; refine mv ?_; refine ad ?_; refine mv ?_; refine KO_nil ?_) | (refine K_region (id := 13) ?_; refine mv ?_; refine ad ?_; refine mv ?_; refine KO_nil ?_)))
        have hlt : l.getD (K + j - 1) default < l.getD (K + j) default := by
          have := hle (K + j - 1) (K + j) (by omega) (by omega)
          omega
        have g := fun i => getD_set m (i := k) (l.getD (K + j) default) (by omega) i
        refine ⟨(k + 1, j + 1, m.set k (l.getD (K + j) default)), ?_, ?_, (by repeat (first | exact Ks.le_nil _ | refine Ks.le_cons rfl ?_))⟩
        · show l.length - (j + 1) < l.length - j; omega
        · refine ⟨S, by omega, by simpa using k2, fun i q => ?_, ?_, fun i q1 q2 => ?_, fun i q => ?_⟩
          · rw [g, if_neg (by omega)]; exact k3 i (by omega)
          · rw [g, if_pos (by omega)]; rfl
          · rw [g, g, if_neg (by omega)]
            split
            · rename_i e; subst e; rw [k4]; exact hlt
            · exact k5 i q1 (by omega)
          · rw [g]
            split
            · exact ⟨K + j, by omega, rfl⟩
            · exact k6 i (by omega)
      · all_goals (repeat' (first | refine k_cond rfl ?_ | refine K_skip ?_ | (refine K_region (id := 10) ?_; refine mv ?_; refine ad ?_; refine mv ?_; refine KO_nil ?_)))
        refine ⟨(k, j + 1, m), ?_, ?_, (by repeat (first | exact Ks.le_nil _ | refine Ks.le_cons rfl ?_))⟩
        · show l.length - (j + 1) < l.length - j; omega
        · exact ⟨S, by omega, k2, k3, by rw [k4, show K + (j + 1) - 1 = K + j by omega]; omega, k5, k6⟩
    · have hkl : k < m.length := by omega
      refine K_region (id := 14) ?_
      refine mv ?_; refine mv ?_
      refine dv S rfl rfl ?_
      intro v3 V3
      rw [Int.toNat_natCast] at V3
      refine cl (0 : Int) S V3 rfl rfl ?_
      clear S
      intro h S
      refine KO_nil ?_
      (repeat (refine K_seq ?_)); refine K_region (id := 15) ?_
      refine mv ?_; refine mv ?_
      refine th k S rfl rfl ?_
      clear S
      intro v4 S
      refine mv ?_; refine KO_nil ?_
      all_goals (repeat' (fail))
      refine K_ret ⟨_, rfl, ?_⟩
      have el : ((m.take k ++ List.replicate (m.length - k) 0).take k) = m.take k := by rw [List.take_left' (by simp; omega)]
      rw [el] at S
      have ll : (m.take k).length = k := by simp; omega
      refine ⟨m.take k, fun i q1 q2 => ?_, fun i hi => ?_, by omega, S⟩
      · rw [getD_take _ (by omega), getD_take _ (by omega)]; exact k5 i q1 (by omega)
      · rw [getD_take _ (by omega)]; exact k6 i (by omega)
  · simp only [toNat_pred, Int.toNat_natCast] at hc
    all_goals (repeat' (first | (refine K_region (id := 5) ?_; refine mv ?_; refine ad ?_; refine mv ?_; refine KO_nil ?_)))
    refine ⟨K + 1, ?_, ?_, (by repeat (first | exact Ks.le_nil _ | refine Ks.le_cons rfl ?_))⟩
    · show l.length - (K + 1) < l.length - K; omega
    · refine ⟨S, by omega, fun i q1 q2 => ?_⟩
      rcases Nat.lt_or_ge i K with q | q
      · exact h2 i q1 q
      · obtain rfl : i = K := by omega
        have := hle (i - 1) i (by omega) (by omega)
        omega
  · obtain rfl : K = l.length := by omega
    all_goals (repeat' (first | (refine K_region (id := 16) ?_; refine mv ?_; refine mv ?_; refine KO_nil ?_)))
    refine K_ret ⟨_, rfl, ?_⟩
    exact ⟨l, fun i q1 q2 => h2 i q1 q2, fun i hi => ⟨i, hi, rfl⟩, Nat.le_refl _, sl_rd S⟩
end Go.Proofs.Xx

/-
  The reference's seats beside and across.
-/
namespace Go.Proofs.Xx
open Go Go.Proofs
set_option linter.unusedSimpArgs false
set_option linter.unusedVariables false
set_option maxRecDepth 100000
set_option maxHeartbeats 4000000

def nx (a k : Int) : Int := if k + 1 = a then 0 else k + 1
def spX (a b k : Int) : Int := if k < a then k else if 0 < b ∧ k = a then a else if k - a - (if 0 < b then 1 else 0) < a then a - 1 - (k - a - (if 0 < b then 1 else 0)) else -1
def spY (a b k : Int) : Int := if k < a then 0 else if 0 < b ∧ k = a then 1 else if k - a - (if 0 < b then 1 else 0) < a then 2 else 1
/-- A table whose sizes fit. -/
structure TabS (t : Tab) : Prop where
  b : TabB t
  pos : 0 < tsize t
theorem TabS.of (t : Tab) (h : 0 < tsize t) : TabS t := by
  refine ⟨?_, h⟩
  unfold tsize sizeOf1 roundSize longSize shoeSize rowSize at h
  unfold TabB
  repeat' split at h
  all_goals omega
theorem TabS.s1 {t : Tab} (h : TabS t) (q : t.shape = 1) : 1 ≤ t.A ∧ t.A ≤ 24 ∧ t.B = 0 ∧ tsize t = t.A := by
  have := h.pos
  unfold tsize sizeOf1 roundSize at this ⊢
  rw [if_pos q] at this ⊢
  split at this <;> simp_all
theorem TabS.s2 {t : Tab} (h : TabS t) (q : t.shape = 2) : 1 ≤ t.A ∧ t.A ≤ 11 ∧ 0 ≤ t.B ∧ t.B ≤ 2 ∧ tsize t = 2 * t.A + t.B := by
  have := h.pos
  unfold tsize sizeOf1 longSize at this ⊢
  rw [if_neg (by omega), if_pos q] at this ⊢
  split at this <;> simp_all
theorem TabS.s3 {t : Tab} (h : TabS t) (q : t.shape = 3) : 1 ≤ t.A ∧ t.A ≤ 8 ∧ 1 ≤ t.B ∧ t.B ≤ 8 ∧ tsize t = t.A + 2 * t.B := by
  have := h.pos
  unfold tsize sizeOf1 shoeSize at this ⊢
  rw [if_neg (by omega), if_neg (by omega), if_pos q] at this ⊢
  split at this <;> simp_all
theorem TabS.s4 {t : Tab} (h : TabS t) (q : t.shape = 4) : 1 ≤ t.A ∧ t.A ≤ 24 ∧ 0 ≤ t.B ∧ t.B ≤ t.A ∧ tsize t = t.A := by
  have := h.pos
  unfold tsize sizeOf1 rowSize at this ⊢
  rw [if_neg (by omega), if_neg (by omega), if_neg (by omega), if_pos q] at this ⊢
  split at this <;> simp_all
theorem TabS.shape {t : Tab} (h : TabS t) : t.shape = 1 ∨ t.shape = 2 ∨ t.shape = 3 ∨ t.shape = 4 := by have := h.b; unfold TabB at this; omega

theorem besideP_symm (t : Tab) (p q : Int) : besideP t p q ↔ besideP t q p := by
  unfold besideP
  rw [Int.min_comm, Int.max_comm]
  exact ⟨fun h => ⟨fun e => h.1 e.symm, h.2⟩, fun h => ⟨fun e => h.1 e.symm, h.2⟩⟩
theorem acrossP_symm (t : Tab) (p q : Int) : acrossP t p q ↔ acrossP t q p := by
  unfold acrossP
  rw [Int.min_comm, Int.max_comm]
  exact ⟨fun h => ⟨fun e => h.1 e.symm, h.2⟩, fun h => ⟨fun e => h.1 e.symm, h.2⟩⟩
section
variable {t : Tab} {p q : Int}
end

end Go.Proofs.Xx

/-
  Valid tables and halls that are made of codes.
-/
namespace Go.Proofs.Xx
open Go Go.Proofs
set_option linter.unusedSimpArgs false
set_option linter.unusedVariables false
set_option maxRecDepth 100000

structure MadeT (c : Cod) (nm : List UInt8) (t : Tab) : Prop where
  name : t.name = nm
  shape : t.shape = 1 + (c.s : Int) % 4
  ts : TabS t
  opn : OpnOk (tsize t) t.opn
  len : t.opn.length ≤ 24
  xy : t.X = 0 ∧ t.Y = 0
  round : (c.s : Int) % 4 = 0 → t.A = 1 + (c.a : Int) % 24 ∧ t.B = 0
def SizeOk (c : Cod) (A B : Int) (n : Nat) : Prop := sizeOf1 (1 + (c.s : Int) % 4) A B = n ∧ 0 < n ∧ n ≤ 24 ∧ ((c.s : Int) % 4 = 0 → A = 1 + (c.a : Int) % 24 ∧ B = 0)

theorem made_ok {h0 : AH} (w : WfH h0) (c : Cod) (A : CodA h0 c) (nm : List UInt8) : Fn Tryz.prog Xh 82 [codV c, str nm] h0 (fun r h' => ∃ t, r = tabV t ∧ MadeT c nm t ∧ Hs h0 h' [.rd t.ov 1 eI t.opn]) := by
  have S := Hs.start w
  obtain ⟨z1, z2, z3⟩ := A.b1
  have hrd := A.rd
  refine Fn_K rfl Tryz.func82 rfl rfl ?_
  (repeat (refine K_seq ?_)); refine K_region (id := 0) ?_
  refine bx S ?_; clear S; intro bc h S; refine al S ?_; clear S; intro br h S; refine KO_nil ?_
  (repeat (refine K_seq ?_)); refine K_region (id := 1) ?_; refine mv ?_; refine vl ?_; refine lB S rfl rfl ?_; refine rmU ?_; refine aU ?_; refine vl ?_; (refine al S ?_; clear S; intro b h S); (first | (refine sB S rfl rfl ?_; clear S; intro h S)); refine KO_nil ?_
  obtain ⟨bt, hnm⟩ : ∃ x, x = b := ⟨_, rfl⟩; subst hnm
  (repeat (refine K_seq ?_)); refine K_region (id := 2) ?_; refine mv ?_; refine KO_nil ?_
  refine K_cut (σ := Int × Int × Nat) (fun (a, b, n) h' => Hs h0 h' [.blk bt [str nm, .int .u8 (1 + (c.s : Int) % 4), .int .i64 a, .int .i64 b, .slice none 0 0, .int .i64 0, .int .i64 0] 25, .blk br [str [], .int .u8 0, .int .i64 0, .int .i64 0, .slice none 0 0, .int .i64 0, .int .i64 0] 25, .blk bc (eC c) 50] ∧ SizeOk c a b n) (fun (a, b, n) => [(2, .pointer (some ⟨bc, 0, none⟩)), (4, .pointer (some ⟨br, 0, none⟩)), (5, .pointer (some ⟨bt, 0, none⟩)), (6, .int .i64 n)]) ?_ ?_
  · all_goals (repeat' (first | refine K_seq ?_ | refine k_cond rfl ?_ | refine k_block ?_ | (refine K_region (id := 3) ?_; refine vl ?_; refine lB S rfl rfl ?_; refine KO_nil ?_) | (refine K_region (id := 4) ?_; refine vl ?_; refine lB S rfl rfl ?_; refine rmU ?_; refine cI ?_; refine ad ?_; refine vl ?_; (first | (refine sB S rfl rfl ?_; clear S; intro h S)); refine KO_nil ?_) | (refine K_region (id := 5) ?_; refine vl ?_; refine lB S rfl rfl ?_; refine cI ?_; refine vl ?_; refine lB S rfl rfl ?_; refine ad ?_; refine rm ?_; refine vl ?_; (first | (refine sB S rfl rfl ?_; clear S; intro h S)); refine KO_nil ?_) | (refine K_region (id := 6) ?_; refine vl ?_; refine lB S rfl rfl ?_; refine mv ?_; refine KO_nil ?_) | (refine K_region (id := 7) ?_; (first | (refine cS ?_ ?_ <;> intro hc)) <;> (refine mv ?_; refine KO_nil ?_)) | (refine K_region (id := 8) ?_; refine vl ?_; refine lB S rfl rfl ?_; refine rmU ?_; refine cI ?_; refine ad ?_; refine vl ?_; (first | (refine sB S rfl rfl ?_; clear S; intro h S)); refine KO_nil ?_) | (refine K_region (id := 9) ?_; refine vl ?_; refine lB S rfl rfl ?_; refine mv ?_; refine KO_nil ?_) | (refine K_region (id := 10) ?_; (first | (refine cS ?_ ?_ <;> intro hc)) <;> (refine mv ?_; refine KO_nil ?_)) | (refine K_region (id := 13) ?_; (first | (refine cS ?_ ?_ <;> intro hc)) <;> (refine mv ?_; refine KO_nil ?_))))
    · refine ⟨(1 + (c.a : Int) % 24, 0, 1 + c.a % 24), ⟨S, ?_⟩, ((by repeat (first | exact Ks.le_nil _ | refine Ks.le_cons rfl ?_)))⟩
      unfold SizeOk sizeOf1 roundSize; (repeat' split) <;> omega
    · refine K_drawX (id := 11) [(6, (0, 1)), (8, (0, 1))] [some (bc), none] ?_; refine KX_cons ?_; (first | (refine vl ?_ <;> refine KO_nil ⟨⟨by (first | exact True.intro), rfl⟩, ?_⟩)); refine KX_cons ?_; (first | (refine lB S rfl rfl ?_ <;> refine KO_nil ⟨⟨by (first | exact True.intro), rfl⟩, ?_⟩)); refine KX_cons ?_; (first | (refine rmU ?_ <;> refine KO_nil ⟨⟨by (first | exact True.intro), rfl⟩, ?_⟩)); refine KX_cons ?_; (first | (refine cI ?_ <;> refine KO_nil ⟨⟨by (first | exact True.intro), rfl⟩, ?_⟩)); refine KX_cons ?_; (first | (refine ad ?_ <;> refine KO_nil ⟨⟨by (first | exact True.intro), rfl⟩, ?_⟩)); refine KX_cons ?_; (first | (refine vl ?_ <;> refine KO_nil ⟨⟨by (first | exact True.intro), rfl⟩, ?_⟩)); refine KX_cons ?_; (first | (refine lB S rfl rfl ?_ <;> refine KO_nil ⟨⟨by (first | exact Or.inr rfl), rfl⟩, ?_⟩)); refine KX_cons ?_; (first | (refine rmU ?_ <;> refine KO_nil ⟨⟨by (first | exact True.intro), rfl⟩, ?_⟩)); refine KX_cons ?_; (first | (refine cI ?_ <;> refine KO_nil ⟨⟨by (first | exact ⟨Or.inr rfl, rfl⟩), rfl⟩, ?_⟩)); refine KX_cons ?_; (first | (refine vl ?_ <;> refine KO_nil ⟨⟨by (first | exact True.intro), rfl⟩, ?_⟩)); refine KX_cons ?_; (first | ((refine sB S rfl rfl ?_; have S0 := S; clear S; intro h S); refine KO_nil ⟨⟨True.intro, ?_⟩, ?_⟩; (focus ((show keepsX _ _ _ _ _; simp only [keepsX]; (repeat' (first | exact True.intro | refine And.intro ?_ ?_)); all_goals (intro hw; first | exact (S.gB).trans (S0.gB).symm)))); clear S0)); refine KX_cons ?_; (first | (refine vl ?_ <;> refine KO_nil ⟨⟨by (first | exact True.intro), rfl⟩, ?_⟩)); refine KX_cons ?_; (first | ((refine sB S rfl rfl ?_; have S0 := S; clear S; intro h S); refine KO_nil ⟨⟨True.intro, ?_⟩, ?_⟩; (focus ((show keepsX _ _ _ _ _; simp only [keepsX]; (repeat' (first | exact True.intro | refine And.intro ?_ ?_)); all_goals (intro hw; first | exact (S.gB).trans (S0.gB).symm)))); clear S0)); refine KX_nil ?_
      all_goals (repeat' (first | (refine K_region (id := 12) ?_; refine vl ?_; refine lB S rfl rfl ?_; refine ml ?_; refine vl ?_; refine lB S rfl rfl ?_; refine ad ?_; refine mv ?_; refine KO_nil ?_)))
      refine ⟨(1 + (c.a : Int) % 11, (c.b : Int) % 3, 2 * (1 + c.a % 11) + c.b % 3), ⟨S, ?_⟩, ((by repeat (first | exact Ks.le_nil _ | refine Ks.le_cons rfl ?_)))⟩
      unfold SizeOk sizeOf1 longSize; (repeat' split) <;> omega
    · refine K_drawX (id := 14) [(6, (0, 1)), (8, (0, 1))] [some (bc), none] ?_; refine KX_cons ?_; (first | (refine vl ?_ <;> refine KO_nil ⟨⟨by (first | exact True.intro), rfl⟩, ?_⟩)); refine KX_cons ?_; (first | (refine lB S rfl rfl ?_ <;> refine KO_nil ⟨⟨by (first | exact True.intro), rfl⟩, ?_⟩)); refine KX_cons ?_; (first | (refine rmU ?_ <;> refine KO_nil ⟨⟨by (first | exact True.intro), rfl⟩, ?_⟩)); refine KX_cons ?_; (first | (refine cI ?_ <;> refine KO_nil ⟨⟨by (first | exact True.intro), rfl⟩, ?_⟩)); refine KX_cons ?_; (first | (refine ad ?_ <;> refine KO_nil ⟨⟨by (first | exact True.intro), rfl⟩, ?_⟩)); refine KX_cons ?_; (first | (refine vl ?_ <;> refine KO_nil ⟨⟨by (first | exact True.intro), rfl⟩, ?_⟩)); refine KX_cons ?_; (first | (refine lB S rfl rfl ?_ <;> refine KO_nil ⟨⟨by (first | exact Or.inr rfl), rfl⟩, ?_⟩)); refine KX_cons ?_; (first | (refine rmU ?_ <;> refine KO_nil ⟨⟨by (first | exact True.intro), rfl⟩, ?_⟩)); refine KX_cons ?_; (first | (refine cI ?_ <;> refine KO_nil ⟨⟨by (first | exact ⟨Or.inr rfl, rfl⟩), rfl⟩, ?_⟩)); refine KX_cons ?_; (first | (refine ad ?_ <;> refine KO_nil ⟨⟨by (first | exact True.intro), rfl⟩, ?_⟩)); refine KX_cons ?_; (first | (refine vl ?_ <;> refine KO_nil ⟨⟨by (first | exact True.intro), rfl⟩, ?_⟩)); refine KX_cons ?_; (first | ((refine sB S rfl rfl ?_; have S0 := S; clear S; intro h S); refine KO_nil ⟨⟨True.intro, ?_⟩, ?_⟩; (focus ((show keepsX _ _ _ _ _; simp only [keepsX]; (repeat' (first | exact True.intro | refine And.intro ?_ ?_)); all_goals (intro hw; first | exact (S.gB).trans (S0.gB).symm)))); clear S0)); refine KX_cons ?_; (first | (refine vl ?_ <;> refine KO_nil ⟨⟨by (first | exact True.intro), rfl⟩, ?_⟩)); refine KX_cons ?_; (first | ((refine sB S rfl rfl ?_; have S0 := S; clear S; intro h S); refine KO_nil ⟨⟨True.intro, ?_⟩, ?_⟩; (focus ((show keepsX _ _ _ _ _; simp only [keepsX]; (repeat' (first | exact True.intro | refine And.intro ?_ ?_)); all_goals (intro hw; first | exact (S.gB).trans (S0.gB).symm)))); clear S0)); refine KX_nil ?_
      all_goals (repeat' (first | (refine K_region (id := 15) ?_; refine vl ?_; refine lB S rfl rfl ?_; refine vl ?_; refine lB S rfl rfl ?_; refine ml ?_; refine ad ?_; refine mv ?_; refine KO_nil ?_)))
      refine ⟨(1 + (c.a : Int) % 8, 1 + (c.b : Int) % 8, (1 + c.a % 8) + 2 * (1 + c.b % 8)), ⟨S, ?_⟩, ((by repeat (first | exact Ks.le_nil _ | refine Ks.le_cons rfl ?_)))⟩
      unfold SizeOk sizeOf1 shoeSize; (repeat' split) <;> omega
    · refine ⟨(1 + (c.a : Int) % 24, (c.b : Int) % (1 + (c.a : Int) % 24 + 1), 1 + c.a % 24), ⟨S, ?_⟩, ((by repeat (first | exact Ks.le_nil _ | refine Ks.le_cons rfl ?_)))⟩
      have g1 : 0 ≤ (c.b : Int) % (1 + (c.a : Int) % 24 + 1) := Int.emod_nonneg _ (by omega)
      have g2 : (c.b : Int) % (1 + (c.a : Int) % 24 + 1) < 1 + (c.a : Int) % 24 + 1 := Int.emod_lt_of_pos _ (by omega)
      unfold SizeOk sizeOf1 rowSize; (repeat' split) <;> omega
  clear S
  rintro ⟨a, b, n⟩ h ⟨S, Z⟩
  obtain ⟨y1, y2, y3, y4⟩ := Z
  (repeat (refine K_seq ?_)); refine K_region (id := 16) ?_
  (refine vl ?_); refine lB S rfl rfl ?_; refine vl ?_; refine lB S rfl rfl ?_; refine lnB S ?_; refine mn ?_
  have e : min (c.opn.length : Int) 24 = ((min c.opn.length 24 : Nat) : Int) := by omega
  rw [e]
  refine su0 0 (min c.opn.length 24) S w hrd A.cap ?_
  intro vs hvs hcs
  obtain ⟨lb, hlb⟩ : ∃ lb, lb = ((c.opn.drop 0).take (min c.opn.length 24 - 0)) := ⟨_, rfl⟩
  have hll : lb.length = min c.opn.length 24 := by rw [hlb]; simp
  rw [← hlb] at hvs
  (refine lnB S ?_); refine mv ?_; refine KO_nil ?_
  all_goals (repeat' (refine k_block ?_))
  refine k_loop (σ := Nat × SlV × List Int) (fun (i, os, opn) h' => Hs h0 h' [.sl os.val 3 1 eI opn, .blk bt [str nm, .int .u8 (1 + (c.s : Int) % 4), .int .i64 a, .int .i64 b, os.val, .int .i64 0, .int .i64 0] 25, .blk br [str [], .int .u8 0, .int .i64 0, .int .i64 0, .slice none 0 0, .int .i64 0, .int .i64 0] 25, .blk bc (eC c) 50] ∧ i ≤ lb.length ∧ opn.length = i ∧ ∀ x, x < i → 0 ≤ opn.getD x default ∧ opn.getD x default < n) (fun (i, os, opn) => lb.length - i) (fun (i, os, opn) => [(2, .pointer (some ⟨bc, 0, none⟩)), (4, .pointer (some ⟨br, 0, none⟩)), (5, .pointer (some ⟨bt, 0, none⟩)), (6, .int .i64 n), (88, vs), (89, .int .i64 lb.length), (90, .int .i64 i)]) (0, ⟨none, 0, 0⟩, []) (by repeat (first | exact Ks.le_nil _ | refine Ks.le_cons rfl ?_)) ?_ ?_
  · exact ⟨S.nilS, Nat.zero_le _, rfl, fun x hx => by omega⟩
  clear S
  rintro ⟨i, os, opn⟩ h ⟨S, h1, h2, h3⟩
  all_goals (repeat' (first | refine K_seq ?_ | refine k_cond rfl ?_ | refine K_skip ?_ | refine K_exit ?_ | refine k_block ?_ | (refine K_region (id := 17) ?_; (first | (refine cS ?_ ?_ <;> intro hc)) <;> (refine KO_nil ?_)) | (refine K_region (id := 18) ?_; refine ixB S ?_; refine lEB S ?_; refine mv ?_; refine KO_nil ?_) | (refine K_region (id := 21) ?_; refine vl ?_; refine lB S rfl rfl ?_)))
  · (try simp only [Int.toNat_natCast] at *)
    have hx0 : lb.getD i default < 256 := by
      have e2 : lb.getD i default = c.opn.getD i default := by
        rw [hlb]
        simp only [List.drop_zero, Nat.sub_zero, List.getD_eq_getElem?_getD, List.getElem?_take]
        rw [if_pos (by omega)]
      rw [e2]; exact A.b2 i (by omega)
    refine K_drawX (id := 19) [(1, (0, 1))] [some (bt)] ?_; refine KX_cons ?_; (first | (refine vl ?_ <;> refine KO_nil ⟨⟨by (first | exact True.intro), rfl⟩, ?_⟩)); refine KX_cons ?_; (first | (refine lB S rfl rfl ?_ <;> refine KO_nil ⟨⟨by (first | exact Or.inr rfl), rfl⟩, ?_⟩)); refine KX_cons ?_; (first | (refine mv ?_ <;> refine KO_nil ⟨⟨by (first | exact True.intro), rfl⟩, ?_⟩)); refine KX_cons ?_; (first | (refine cI ?_ <;> refine KO_nil ⟨⟨by (first | exact True.intro), rfl⟩, ?_⟩)); refine KX_cons ?_; (first | (refine mv ?_ <;> refine KO_nil ⟨⟨by (first | exact True.intro), rfl⟩, ?_⟩)); refine KX_cons ?_; (first | (refine rm ?_ <;> refine KO_nil ⟨⟨by (first | exact True.intro), rfl⟩, ?_⟩)); refine KX_cons ?_; (first | ((refine one 1 S ?_; have S0 := S; clear S; intro u h S); refine KO_nil ⟨⟨True.intro, ?_⟩, ?_⟩; (focus ((show keepsX _ _ _ _ _; simp only [keepsX]; (repeat' (first | exact True.intro | refine And.intro ?_ ?_)); all_goals (intro hw; first | exact (S.gB).trans (S0.gB).symm)))); clear S0))
    refine KX_cons ?_; refine app (y0 := ((lb.getD i default : Nat) : Int) % (n : Int)) S rfl rfl ?_; have S0 := S; clear S; intro v h S; refine KO_nil ⟨⟨True.intro, ?_⟩, ?_⟩; (focus ((show keepsX _ _ _ _ _; simp only [keepsX]; (repeat' (first | exact True.intro | refine And.intro ?_ ?_)); all_goals (intro hw; first | exact (S.gB).trans (S0.gB).symm)))); clear S0
    obtain ⟨sv, rfl⟩ := (Rd.of_sl S .here).isSl
    refine KX_cons ?_; (first | (refine vl ?_ <;> refine KO_nil ⟨⟨by (first | exact True.intro), rfl⟩, ?_⟩)); refine KX_cons ?_; (first | ((refine sB S rfl rfl ?_; have S0 := S; clear S; intro h S); refine KO_nil ⟨⟨True.intro, ?_⟩, ?_⟩; (focus ((show keepsX _ _ _ _ _; simp only [keepsX]; (repeat' (first | exact True.intro | refine And.intro ?_ ?_)); all_goals (intro hw; first | exact absurd hw (by decide +kernel))))); clear S0)); refine KX_nil ?_
    all_goals (repeat' (first | (refine K_region (id := 20) ?_; refine ad ?_; refine mv ?_; refine KO_nil ?_)))
    have m1 : 0 ≤ ((lb.getD i default : Nat) : Int) % (n : Int) := Int.emod_nonneg _ (by omega)
    have m2 : ((lb.getD i default : Nat) : Int) % (n : Int) < n := Int.emod_lt_of_pos _ (by omega)
    refine ⟨(i + 1, sv, opn ++ [((lb.getD i default : Nat) : Int) % (n : Int)]), ?_, ?_, (by repeat (first | exact Ks.le_nil _ | refine Ks.le_cons rfl ?_))⟩
    · show lb.length - (i + 1) < lb.length - i; omega
    · refine ⟨S, by omega, by simp; omega, fun x hx => ?_⟩
      rcases Nat.lt_or_ge x i with q | q
      · rw [getD_snoc1 _ _ (by omega)]; exact h3 x q
      · rw [getD_snoc2 _ _ (by omega)]; exact ⟨m1, m2⟩
  · have hol : opn.length ≤ 24 := by omega
    (refine KO_fn rfl rfl rfl rfl rfl ((sort_o S (by omega)).mono ?_); rintro _ h ⟨l2, g1, g2, S2⟩) <;> (replace S := S2; clear S2; refine KO_nil ?_)
    have gl := g1.len
    have g2' : Srt ltI 0 l2.length l2 := by rw [gl]; exact g2
    all_goals (repeat' (first | refine K_seq ?_ | (refine K_region (id := 22) ?_; refine vl ?_; refine lB S rfl rfl ?_)))
    (refine KO_fn rfl rfl rfl rfl rfl ((compact_ok S (by omega) g2').mono ?_); rintro r h ⟨out, k1, k2, k3, S2⟩) <;> (replace S := S2; clear S2; obtain ⟨so, rfl⟩ := (Rd.of_rd S .here).isSl; refine vl ?_; (first | (refine sB S rfl rfl ?_; clear S; intro h S)); refine KO_nil ?_)
    all_goals (repeat' (first | refine K_seq ?_ | (refine K_region (id := 23) ?_; refine lB S rfl rfl ?_; (first | (refine sB S rfl rfl ?_; clear S; intro h S)); refine KO_nil ?_)))
    refine K_ret ⟨_, ret_cell S rfl (by first | exact .there (.there .here)) (by exact rfl) (by exact rfl), ?_⟩
    have hsz : tsize (⟨nm, 1 + (c.s : Int) % 4, a, b, so, out, 0, 0⟩ : Tab) = n := y1
    refine ⟨⟨nm, 1 + (c.s : Int) % 4, a, b, so, out, 0, 0⟩, rfl, ⟨rfl, rfl, TabS.of _ (by rw [hsz]; omega), fun x hx => ⟨?_, fun hx0 => k1 x hx0 hx⟩, by show out.length ≤ 24; omega, ⟨rfl, rfl⟩, y4⟩, S.only .here⟩
    obtain ⟨j, j1, j2⟩ := k2 x hx
    rw [hsz]
    obtain ⟨m, m1, m2, m3⟩ := g1.in_ (k := j) (Nat.zero_le _) (by omega)
    show 0 ≤ out.getD x default ∧ out.getD x default < n
    rw [j2, m3]
    exact h3 m (by omega)
end Go.Proofs.Xx

/-
  Halls that are made of codes.
-/
namespace Go.Proofs.Xx
open Go Go.Proofs
set_option linter.unusedSimpArgs false
set_option linter.unusedVariables false
set_option maxRecDepth 100000

abbrev letter (i : Nat) : List UInt8 := [UInt8.ofNat (97 + i)]
theorem letter_lt {i : Nat} (h : i < 16) : (UInt8.ofNat (97 + i)).toNat = 97 + i := by
  rw [UInt8.toNat_ofNat']; omega
theorem letter_inj {i j : Nat} (hi : i < 16) (hj : j < 16) (h : letter i = letter j) : i = j := by
  have : UInt8.ofNat (97 + i) = UInt8.ofNat (97 + j) := by simpa [letter] using h
  have := congrArg UInt8.toNat this
  rw [letter_lt hi, letter_lt hj] at this
  omega
/-- The hall of codes. -/
structure MadeH (cs : List Cod) (l : List Tab) : Prop where
  len : l.length = min cs.length 16
  tab : ∀ i, i < l.length → ∃ t, MadeT (cd cs i) (letter i) t ∧ tb l i = { t with X := 7 * (i : Int), Y := 100 - (i : Int) }
def OpnA (l : List Tab) (h : AH) (fp : Fp) : Prop := ∀ j, j < l.length → RdL h (tb l j).ov 1 eI (tb l j).opn
theorem MadeH.le {cs : List Cod} {l : List Tab} (m : MadeH cs l) : l.length ≤ 16 := by have := m.len; omega
theorem MadeH.name {cs : List Cod} {l : List Tab} (m : MadeH cs l) {i : Nat} (h : i < l.length) : (tb l i).name = letter i := by
  obtain ⟨t, h1, h2⟩ := m.tab i h
  rw [h2]; exact h1.name
theorem tsize_xy (t : Tab) (x y : Int) : tsize { t with X := x, Y := y } = tsize t := rfl
theorem MadeH.chk {cs : List Cod} {l : List Tab} (m : MadeH cs l) {i : Nat} (h : i < l.length) : chk (tb l i) = 0 := by
  have hle := m.le
  obtain ⟨t, h1, h2⟩ := m.tab i h
  rw [h2]
  unfold Xx.chk
  have hn : nameP t.name := by
    rw [h1.name]
    refine ⟨by simp, by simp, fun j hj => ?_⟩
    obtain rfl : j = 0 := by simpa using hj
    show lowB (UInt8.ofNat (97 + i))
    unfold lowB
    rw [letter_lt (by omega)]; omega
  have hp := h1.ts.pos
  rw [if_neg (by simpa using hn), tsize_xy, if_neg (by omega), if_neg (by simpa using h1.opn), if_neg]
  simp only [XYok, Classical.not_not]
  omega
theorem MadeH.valid {cs : List Cod} {l : List Tab} (m : MadeH cs l) : ValidL l := by
  have hle := m.le
  refine ⟨hle, fun j hj => ⟨m.chk hj, fun ⟨i, hi, he⟩ => ?_⟩⟩
  rw [m.name (by omega), m.name hj] at he
  have := letter_inj (by omega) (by omega) he
  omega
theorem MadeH.opnLen {cs : List Cod} {l : List Tab} (m : MadeH cs l) {i : Nat} (h : i < l.length) : (tb l i).opn.length ≤ 24 := by
  obtain ⟨t, h1, h2⟩ := m.tab i h
  rw [h2]; exact h1.len
theorem Hs.pushOpn {h0 h : AH} {rs : List Rs} {t : Tab} {l : List Tab} (S : Hs h0 h (.rd t.ov 1 eI t.opn :: .any (OpnA l) :: rs)) : Hs h0 h (.any (OpnA (l ++ [t])) :: rs) :=
  S.merge fun f1 f2 k1 k2 h'' hh j hj => by
    have k2 := k2 h'' fun b hb => hh b (.inr hb)
    have k1 := k1.local fun b hb => hh b (.inl hb)
    rw [List.length_append, List.length_cons, List.length_nil] at hj
    rcases Nat.lt_or_ge j l.length with q | q
    · rw [show tb (l ++ [t]) j = tb l j from getD_snoc1 _ _ q]; exact k2 j q
    · rw [show tb (l ++ [t]) j = t from getD_snoc2 _ _ (by omega)]
      rcases k1 with ⟨e1, e2⟩ | ⟨bb, o, cap, cc, e, sk, r, e1, e2, -, e3⟩
      · rw [e1, e2]; exact Rd.none_ _ 1
      · exact .inr ⟨bb, o, cap, cc, e, sk, r, e1, e2, e3⟩
theorem MadeH.hallR {cs : List Cod} {l : List Tab} {h0 h : AH} {rs : List Rs} {v : Value} {e : TypeId} (m : MadeH cs l) (S : Hs h0 h rs) (a : At rs (.sl v e 7 eT l)) (b : At rs (.any (OpnA l))) : HallR h v l := by
  have hle := m.le
  obtain ⟨fp, k⟩ := S.anyP b
  refine ⟨Rd.of_sl S a, fun i hi => ⟨k i hi, ?_, ?_⟩, by omega, S.capS a⟩
  · rw [m.name hi]; simp
  · have := m.opnLen hi; omega

theorem madeAll_ok {h0 : AH} (w : WfH h0) (v : Value) (cs : List Cod) (A : CodesA h0 v cs) : Fn Tryz.prog Xh 28 [v] h0 (fun r h' => ∃ l, MadeH cs l ∧ Hs h0 h' [.sl r 25 7 eT l, .any (OpnA l)]) := by
  have S := Hs.start w
  have hr := A.rd
  refine Fn_K rfl Tryz.func28 rfl rfl ?_
  all_goals (repeat' (first | refine K_seq ?_ | (refine K_region (id := 0) ?_; refine mv ?_; refine KO_nil ?_) | (refine K_region (id := 1) ?_; refine mv ?_; refine KO_nil ?_) | (refine K_region (id := 2) ?_; refine mv ?_; refine mv ?_; refine lnB S ?_; refine mn ?_)))
  have e : min (cs.length : Int) 16 = ((min cs.length 16 : Nat) : Int) := by omega
  rw [e]
  refine su0 0 (min cs.length 16) S w hr A.cap ?_
  intro vs hvs hcs
  obtain ⟨lb, hlb⟩ : ∃ lb, lb = ((cs.drop 0).take (min cs.length 16 - 0)) := ⟨_, rfl⟩
  have hll : lb.length = min cs.length 16 := by rw [hlb]; simp
  have hlg : ∀ i, i < lb.length → lb.getD i default = cd cs i := fun i hi => by
    rw [hlb]
    simp only [cd, List.drop_zero, Nat.sub_zero, List.getD_eq_getElem?_getD, List.getElem?_take]
    rw [if_pos (by omega)]
  rw [← hlb] at hvs
  clear hr
  (refine lnB S ?_); refine mv ?_; refine KO_nil ?_
  all_goals (repeat' (refine k_block ?_))
  refine k_loop (σ := Nat × List Tab × Value) (fun (i, l, vo) h' => Hs h0 h' [.sl vo 25 7 eT l, .any (OpnA l)] ∧ i ≤ lb.length ∧ l.length = i ∧ ∀ j, j < i → ∃ t, MadeT (cd cs j) (letter j) t ∧ tb l j = { t with X := 7 * (j : Int), Y := 100 - (j : Int) }) (fun (i, l, vo) => lb.length - i) (fun (i, l, vo) => [(3, vo), (11, vs), (12, .int .i64 lb.length), (13, .int .i64 i)]) (0, [], .slice none 0 0) (by repeat (first | exact Ks.le_nil _ | refine Ks.le_cons rfl ?_)) ?_ ?_
  · exact ⟨(S.anyS fun h' j hj => absurd hj (Nat.not_lt_zero _)).nilS, Nat.zero_le _, rfl, fun j hj => by omega⟩
  clear S
  rintro ⟨i, l, vo⟩ h ⟨S, h1, h2, h3⟩
  all_goals (repeat' (first | refine K_seq ?_ | refine k_cond rfl ?_ | refine K_skip ?_ | refine K_exit ?_ | refine k_block ?_ | (refine K_region (id := 3) ?_; (first | (refine cS ?_ ?_ <;> intro hc)) <;> (refine KO_nil ?_)) | (refine K_region (id := 4) ?_; refine mv ?_; refine ixB S ?_; refine lEB S ?_; (refine al S ?_; clear S; intro b h S); refine mv ?_; (first | (refine sB S rfl rfl ?_; clear S; intro h S)); refine KO_nil ?_) | (refine K_region (id := 5) ?_; refine lB S rfl rfl ?_; refine mv ?_; refine ad ?_; refine cU ?_; (refine one 1 S ?_; clear S; intro u h S)) | (refine K_region (id := 9) ?_; refine mv ?_; refine mv ?_; refine KO_nil ?_)))
  · (try simp only [Int.toNat_natCast] at *)
    have hi : i < lb.length := by omega
    have e1 : (97 : Int) + (i : Int) = ((97 + i : Nat) : Int) := by omega
    simp only [e1] at S
    have S1 := S.one eU (97 + i) rfl
    refine bS (l := [97 + i]) (Rd.of_sl S1 .here) ?_
    clear S1
    have hC : CodA h0 (lb.getD i default) := by rw [hlg i hi]; exact A.cod i (by omega)
    (refine KO_fn rfl rfl rfl rfl rfl ((made_ok S.wf (lb.getD i default) (hC.ext w S.ext) (letter i)).mono ?_); rintro _ h ⟨t, rfl, hm, x⟩) <;> (replace S := S.join1 x; clear x; (refine al S ?_; clear S; intro b h S); (first | (refine sB S rfl rfl ?_; clear S; intro h S)); refine KO_nil ?_)
    rw [hlg i hi] at hm
    all_goals (repeat' (first | refine K_seq ?_ | (refine K_region (id := 6) ?_; refine mv ?_; refine ml ?_; refine mv ?_; refine sb ?_; refine vl ?_; (first | (refine sB S rfl rfl ?_; clear S; intro h S)); refine vl ?_; (first | (refine sB S rfl rfl ?_; clear S; intro h S)); refine KO_nil ?_) | (refine K_region (id := 7) ?_; refine mv ?_; refine lB S rfl rfl ?_; (refine one 7 S ?_; clear S; intro u h S))))
    refine app (y0 := { t with X := 7 * (i : Int), Y := 100 - (i : Int) }) S rfl rfl ?_; clear S; intro v h S; refine mv ?_; refine KO_nil ?_
    all_goals (repeat' (first | (refine K_region (id := 8) ?_; refine ad ?_; refine mv ?_; refine KO_nil ?_)))
    refine ⟨(i + 1, l ++ [{ t with X := 7 * (i : Int), Y := 100 - (i : Int) }], v), ?_, ?_, (by repeat (first | exact Ks.le_nil _ | refine Ks.le_cons rfl ?_))⟩
    · show lb.length - (i + 1) < lb.length - i; omega
    · have S := ((S.del (.there .here)).del (.there (.there .here))).del (.there (.there .here))
      have S := (S.front (.there (.there .here))).front (.there (.there .here))
      have S := Hs.pushOpn (t := { t with X := 7 * (i : Int), Y := 100 - (i : Int) }) S
      refine ⟨S.front (.there .here), by omega, by simp; omega, fun j hj => ?_⟩
      rcases Nat.lt_or_ge j i with q | q
      · rw [show tb (l ++ [{ t with X := 7 * (i : Int), Y := 100 - (i : Int) }]) j = tb l j from getD_snoc1 _ _ (by omega)]; exact h3 j q
      · obtain rfl : j = i := by omega
        rw [show tb (l ++ [{ t with X := 7 * (j : Int), Y := 100 - (j : Int) }]) j = _ from getD_snoc2 _ _ (by omega)]
        exact ⟨t, hm, rfl⟩
  · refine K_ret ⟨_, rfl, ?_⟩
    exact ⟨l, ⟨by omega, fun j hj => h3 j (by omega)⟩, S⟩

/-- The hall of one code. -/
theorem one_ok {h0 : AH} (w : WfH h0) (c : Cod) (A : CodA h0 c) : Fn Tryz.prog Xh 38 [codV c] h0 (fun r h' => ∃ (v : Value) (l : List Tab) (n : Nat), r = .tuple #[v, .int .i64 n, .bool true] ∧ MadeH [c] l ∧ l.length = 1 ∧ tsize (tb l 0) = n ∧ 0 < n ∧ n ≤ 24 ∧ Hs h0 h' [.sl v 25 7 eT l, .any (OpnA l)]) := by
  have S := Hs.start w
  refine Fn_K rfl Tryz.func38 rfl rfl ?_
  all_goals (repeat' (first | refine K_seq ?_ | (refine K_region (id := 0) ?_; (refine bx S ?_; clear S; intro b h S); refine mv ?_; refine mv ?_; refine mv ?_; refine KO_nil ?_) | (refine K_region (id := 1) ?_; refine lB S rfl rfl ?_; (refine one 4 S ?_; clear S; intro u h S))))
  replace S := S.one eC c rfl
  have CA : CodesA h u [c] := ⟨Rd.of_sl S .here, S.capS .here, by simp [maxLen], fun i hi => by
    obtain rfl : i = 0 := by simpa using hi
    exact A.ext w S.ext⟩
  (refine KO_fn rfl rfl rfl rfl rfl ((madeAll_ok S.wf u [c] CA).mono ?_); rintro vh h ⟨l, hm, x⟩) <;> (replace S := S.join2 x; clear x; refine mv ?_; refine KO_nil ?_)
  replace S := (S.del (.there (.there .here))).del (.there (.there .here))
  have hlen : l.length = 1 := by have := hm.len; simpa using this
  have H := hm.hallR S .here (.there .here)
  have ht := tsize_le (tb l 0)
  have hpos := (TabS.of (tb l 0) (by
    obtain ⟨t, h1, h2⟩ := hm.tab 0 (by omega)
    rw [h2, tsize_xy]; exact h1.ts.pos)).pos
  obtain ⟨n, hn⟩ := Int.eq_ofNat_of_zero_le ht.1
  have hcv : countV l = n := by
    unfold countV
    rw [if_pos hm.valid, hlen]
    simp only [sumT, Int.zero_add]; exact hn
  have hsv : seatsV (tb l 0) = n := by
    unfold seatsV
    rw [if_pos (hm.chk (by omega))]; exact hn
  all_goals (repeat' (first | refine K_seq ?_ | (refine K_region (id := 2) ?_; refine mv ?_)))
  (refine KO_fn rfl rfl rfl rfl rfl ((count_ok S.wf vh l H).mono ?_); rintro _ h ⟨rfl, x⟩) <;> (replace S := S.join0 x; clear x; rw [hcv]; refine mv ?_; refine KO_nil ?_)
  all_goals (repeat' (first | refine K_seq ?_ | (refine K_region (id := 3) ?_; refine mv ?_; refine mv ?_; refine mv ?_; (refine cT ?_) <;> (refine mv ?_; refine mv ?_; (first | (refine cT ?_)) <;> (refine vl ?_; refine mv ?_; refine mv ?_; (first | (refine ixS2 S rfl rfl ?_)); (first | (refine lES2 S rfl rfl ?_)); (skip))))))
  (refine KO_fn rfl rfl rfl rfl rfl ((seats_ok S.wf (tb l 0) ((hm.hallR S .here (.there .here)).tab 0 (by omega))).mono ?_); rintro _ h ⟨rfl, x⟩) <;> (replace S := S.join0 x; clear x; rw [hsv]; refine mv ?_; (first | (refine cT ?_)) <;> (refine vl ?_; refine mv ?_; refine mv ?_; refine mv ?_; refine KO_nil ?_))
  all_goals (repeat' (fail))
  refine K_ret ⟨_, rfl, ?_⟩
  exact ⟨vh, l, n, rfl, hm, hlen, hn, by omega, by omega, S⟩
end Go.Proofs.Xx
