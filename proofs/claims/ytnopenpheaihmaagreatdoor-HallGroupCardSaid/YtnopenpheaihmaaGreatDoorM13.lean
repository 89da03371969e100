/-
  Quicksort.
-/
import Derived.Test.YtnopenpheaihmaaGreatDoorM12
import Derived.Test.YtnopenpheaihmaaGreatDoorM10
import Derived.Test.YtnopenpheaihmaaGreatDoorM11
import Derived.Test.YtnopenpheaihmaaGreatDoorM8
import Derived.Test.YtnopenpheaihmaaGreatDoorM4

namespace Go.Proofs.Xx
open Go Go.Proofs
set_option linter.unusedSimpArgs false
set_option linter.unusedVariables false
set_option maxRecDepth 100000

theorem pdq_c {h0 : AH} {rs : List Rs} {v : Value} {g : Nat} {cap : List Value} {lt : PL → PL → Prop} {p : PL → Prop} (C : CmpFn h0 v rs g cap lt p) (W : WOrd lt) : ∀ (n : Nat) {h : AH} {l : List PL} (a b lim : Nat) (S : Hs h0 h (.sl v 23 1 eP l :: rs)) (hp : ∀ k, k < l.length → p (l.getD k default)) (hn : b - a = n) (hab : a ≤ b) (hb : b ≤ l.length) (hl : l.length ≤ 1000000) (hbig : b - a < 50) (hlim : lim ≤ 1000) (hlow : 0 < a → ∀ k, a ≤ k → k < b → ¬ lt (l.getD k default) (l.getD (a - 1) default)),
    Fn Tryz.prog Xh 140 [v, .int .i64 a, .int .i64 b, .int .i64 lim, cvV g cap] h (fun _ h' => ∃ l', Sw a b l l' ∧ Srt lt a b l' ∧ Hs h0 h' (.sl v 23 1 eP l' :: rs)) := by
  intro n
  induction n using Nat.strongRecOn with
  | _ n ih =>
  intro h l a b lim S hp hn hab hb hl hbig hlim hlow
  refine Fn_K rfl Tryz.func140 rfl rfl ?_
  all_goals (repeat' (first | refine K_seq ?_ | refine k_block ?_ | (refine K_region (id := 0) ?_; refine mv ?_; refine KO_nil ?_) | (refine K_region (id := 1) ?_; refine mv ?_; refine KO_nil ?_)))
  refine k_loop (σ := Nat × Nat × Nat × Bool × Bool × List PL) (fun (a1, b1, lim, wb, wp, m) h' => Hs h0 h' (.sl v 23 1 eP m :: rs) ∧ (a ≤ a1 ∧ a1 ≤ b1 ∧ b1 ≤ b) ∧ lim ≤ 1000 ∧ Sw a b l m ∧ DoneI lt a b a1 b1 m) (fun (a1, b1, lim, wb, wp, m) => b1 - a1) (fun (a1, b1, lim, wb, wp, m) => [(0, v), (1, .int .i64 a1), (2, .int .i64 b1), (3, .int .i64 lim), (4, cvV g cap), (10, .bool wb), (11, .bool wp)]) (a, b, lim, true, true, l) (by repeat (first | exact Ks.le_nil _ | refine Ks.le_cons rfl ?_)) ?_ ?_
  · exact ⟨S, by omega, hlim, .refl _, .start⟩
  clear S hlim
  rintro ⟨a1, b1, lim, wb, wp, m⟩ h ⟨S, h1, hlim, h2, D⟩
  have hml := h2.len
  have hpm := h2.lift hp hb
  have low : ∀ m', Sw a1 b1 m m' → 0 < a1 → ∀ k, a1 ≤ k → k < b1 → ¬ lt (m'.getD k default) (m'.getD (a1 - 1) default) := fun m' s q1 k q2 q3 => by
    rcases Nat.lt_or_ge a a1 with q | q
    · exact (D.sw s h1.1 h1.2.2).low q h1.2.2 k q2 q3
    · obtain rfl : a = a1 := by omega
      have s2 := h2.trans (s.mono (Nat.le_refl _) h1.2.2 (by omega))
      rw [s2.out (k := a - 1) (.inl (by omega))]
      exact s2.all (p := fun y => ¬ lt y (l.getD (a - 1) default)) (hlow q1) k q2 (by omega)
  have e0 : (b1 : Int) - (a1 : Int) = ((b1 - a1 : Nat) : Int) := by omega
  refine k_block ?_
  (repeat (refine K_seq ?_)); refine K_region (id := 2) ?_; refine mv ?_; refine mv ?_; refine sb ?_; refine mv ?_; refine KO_nil ?_
  simp only [e0]
  (repeat (refine K_seq ?_)); refine K_region (id := 3) ?_; refine mv ?_; (first | (refine cS ?_ ?_ <;> intro hc)) <;> (refine KO_nil ?_)
  · refine k_cond rfl ?_
    all_goals (repeat' (first | refine K_seq ?_ | (refine K_region (id := 4) ?_; refine mv ?_; refine mv ?_; refine mv ?_; refine mv ?_; skip)))
    (refine KO_fn rfl rfl rfl rfl rfl ((ins_c a1 b1 S C hpm W h1.2.1 (by omega) (by omega)).mono ?_); rintro _ h ⟨l2, g1, g2, S2⟩) <;> (replace S := S2; clear S2; refine KO_nil ?_)
    all_goals (repeat' (fail))
    refine K_ret ⟨_, rfl, ?_⟩
    exact ⟨l2, h2.trans (g1.mono h1.1 h1.2.2 (by omega)), (D.sw g1 h1.1 h1.2.2).finish g2, S⟩
  have hbig2 : 12 < b1 - a1 ∧ b1 - a1 < 50 := by omega
  refine k_cond rfl ?_; refine K_skip ?_
  (repeat (refine K_seq ?_)); refine K_region (id := 5) ?_; refine mv ?_; (first | (refine cS ?_ ?_ <;> intro hc)) <;> (refine KO_nil ?_)
  · refine k_cond rfl ?_
    all_goals (repeat' (first | refine K_seq ?_ | (refine K_region (id := 6) ?_; refine mv ?_; refine mv ?_; refine mv ?_; refine mv ?_; skip)))
    (refine KO_fn rfl rfl rfl rfl rfl ((heap_c a1 b1 S C hpm W (by omega) (by omega) (by omega)).mono ?_); rintro _ h ⟨l2, g1, g2, S2⟩) <;> (replace S := S2; clear S2; refine KO_nil ?_)
    all_goals (repeat' (fail))
    refine K_ret ⟨_, rfl, ?_⟩
    exact ⟨l2, h2.trans (g1.mono h1.1 h1.2.2 (by omega)), (D.sw g1 h1.1 h1.2.2).finish g2, S⟩
  refine k_cond rfl ?_; refine K_skip ?_
  refine K_cut (σ := Nat × List PL) (fun (lim, m2) h' => Hs h0 h' (.sl v 23 1 eP m2 :: rs) ∧ lim ≤ 1000 ∧ Sw a1 b1 m m2) (fun (lim, m2) => [(0, v), (1, .int .i64 a1), (2, .int .i64 b1), (3, .int .i64 lim), (4, cvV g cap), (10, .bool wb), (11, .bool wp), (12, .int .i64 (b1 - a1 : Nat))]) ?_ ?_
  · cases wb
    · all_goals (repeat' (first | refine K_seq ?_ | refine k_cond rfl ?_ | (refine K_region (id := 7) ?_; refine mv ?_; refine vl ?_; refine KO_nil ?_) | (refine K_region (id := 8) ?_; refine mv ?_; refine mv ?_; refine mv ?_; refine mv ?_; skip)))
      (refine KO_fn rfl rfl rfl rfl rfl ((brk_c a1 b1 S C hpm W hbig2 (by omega) (by omega)).mono ?_); rintro _ h ⟨l2, g1, S2⟩) <;> (replace S := S2; clear S2; refine KO_nil ?_)
      all_goals (repeat' (first | (refine K_region (id := 9) ?_; refine mv ?_; refine sb ?_; refine mv ?_; refine KO_nil ?_)))
      exact ⟨(lim - 1, l2), ⟨S, by show lim - 1 ≤ 1000; omega, g1⟩, ((by repeat (first | exact Ks.le_nil _ | refine Ks.le_cons rfl ?_ | refine Ks.le_int ?_)))⟩
    · all_goals (repeat' (first | refine K_seq ?_ | refine k_cond rfl ?_ | refine K_skip ?_ | (refine K_region (id := 7) ?_; refine mv ?_; refine vl ?_; refine KO_nil ?_)))
      exact ⟨(lim, m), ⟨S, hlim, .refl _⟩, ((by repeat (first | exact Ks.le_nil _ | refine Ks.le_cons rfl ?_)))⟩
  clear S hlim
  rintro ⟨lim, m2⟩ h ⟨S, hlim, g1⟩
  have hm2 := g1.len
  have hpm2 := (g1.mono h1.1 h1.2.2 (by omega)).lift hpm (by omega)
  (repeat (refine K_seq ?_)); refine K_region (id := 10) ?_
  refine mv ?_; refine mv ?_; refine mv ?_; refine mv ?_; skip
  (refine KO_fn rfl rfl rfl rfl rfl ((piv_c a1 b1 S C hpm2 W hbig2 (by omega) (by omega)).mono ?_); rintro _ h ⟨q, t, rfl, hq0, S2⟩) <;> (replace S := S2; clear S2; refine mv ?_; refine vl ?_; refine vl ?_; refine mv ?_; refine mv ?_; refine KO_nil ?_)
  refine K_cut (σ := Nat × Int × List PL) (fun (q, t, m3) h' => Hs h0 h' (.sl v 23 1 eP m3 :: rs) ∧ (a1 ≤ q ∧ q < b1) ∧ Sw a1 b1 m2 m3) (fun (q, t, m3) => [(0, v), (1, .int .i64 a1), (2, .int .i64 b1), (3, .int .i64 lim), (4, cvV g cap), (10, .bool wb), (11, .bool wp), (12, .int .i64 (b1 - a1 : Nat)), (13, .int .i64 q), (14, .int .i64 t)]) ?_ ?_
  · all_goals (repeat' (first | refine K_seq ?_ | refine k_cond rfl ?_ | refine K_skip ?_ | (refine K_region (id := 11) ?_; refine mv ?_; (first | (refine cS ?_ ?_ <;> intro hc)) <;> (refine KO_nil ?_)) | (refine K_region (id := 12) ?_; refine mv ?_; refine mv ?_; refine mv ?_; refine mv ?_; skip)))
    · (refine KO_fn rfl rfl rfl rfl rfl ((rev_c a1 b1 S C hpm2 W (by omega) (by omega) (by omega)).mono ?_); rintro _ h ⟨l2, k1, S2⟩) <;> (replace S := S2; clear S2; refine KO_nil ?_)
      all_goals (repeat' (first | refine K_seq ?_ | (refine K_region (id := 13) ?_; refine mv ?_; refine sb ?_; refine mv ?_; refine mv ?_; refine sb ?_; refine sb ?_; refine mv ?_; refine KO_nil ?_) | (refine K_region (id := 14) ?_; refine mv ?_; refine KO_nil ?_)))
      exact ⟨(b1 - 1 - (q - a1), 1, l2), ⟨S, by show a1 ≤ b1 - 1 - (q - a1) ∧ b1 - 1 - (q - a1) < b1; omega, k1⟩, ((by repeat (first | exact Ks.le_nil _ | refine Ks.le_cons rfl ?_ | refine Ks.le_int ?_)))⟩
    · exact ⟨(q, t, m2), ⟨S, hq0, .refl _⟩, ((by repeat (first | exact Ks.le_nil _ | refine Ks.le_cons rfl ?_)))⟩
  clear S hq0
  rintro ⟨q, t, m3⟩ h ⟨S, hq0, g2⟩
  have g13 := g1.trans g2
  have D3 := D.sw g13 h1.1 h1.2.2
  have low3 := low m3 g13
  have s3 := h2.trans (g13.mono h1.1 h1.2.2 (by omega))
  have hm3 := g13.len
  have hpm3 := s3.lift hp hb
  refine K_cut (σ := Unit) (fun _ h' => Hs h0 h' (.sl v 23 1 eP m3 :: rs)) (fun _ => [(0, v), (1, .int .i64 a1), (2, .int .i64 b1), (3, .int .i64 lim), (4, cvV g cap), (10, .bool wb), (11, .bool wp), (12, .int .i64 (b1 - a1 : Nat)), (13, .int .i64 q)]) ?_ ?_
  · cases wb
    · all_goals (repeat' (first | refine K_seq ?_ | refine k_cond rfl ?_ | refine K_skip ?_ | (refine K_region (id := 15) ?_; refine mv ?_; refine mv ?_; refine off ?_; refine vl ?_; refine mv ?_; refine off ?_; (refine off ?_) <;> (refine vl ?_; refine KO_nil ?_))))
      exact ⟨(), S, ((by repeat (first | exact Ks.le_nil _ | refine Ks.le_cons rfl ?_)))⟩
    cases wp
    · all_goals (repeat' (first | refine K_seq ?_ | refine k_cond rfl ?_ | refine K_skip ?_ | (refine K_region (id := 15) ?_; refine mv ?_; refine mv ?_; refine mv ?_; refine vl ?_; refine mv ?_; refine off ?_; (refine off ?_) <;> (refine vl ?_; refine KO_nil ?_))))
      exact ⟨(), S, ((by repeat (first | exact Ks.le_nil _ | refine Ks.le_cons rfl ?_)))⟩
    all_goals (repeat' (first | refine K_seq ?_ | refine k_cond rfl ?_ | refine K_skip ?_ | (refine K_region (id := 15) ?_; refine mv ?_; refine mv ?_; refine mv ?_; refine vl ?_; refine mv ?_; refine mv ?_; (first | (first | (refine cS ?_ ?_ <;> intro hc))) <;> (refine vl ?_; refine KO_nil ?_)) | (refine K_region (id := 16) ?_; refine mv ?_; refine mv ?_; refine mv ?_; refine mv ?_; skip)))
    · (refine KO_fn rfl rfl rfl rfl rfl ((pins_c a1 b1 S C hpm3 W hbig2 (by omega) (by omega)).mono ?_); rintro _ h ⟨⟨rfl, hs⟩ | ⟨rfl, hs⟩, S2⟩) <;> (replace S := S2; clear S2; refine KO_nil ?_)
      · all_goals (repeat' (refine k_cond rfl ?_))
        refine K_ret ⟨_, rfl, ?_⟩
        exact ⟨m3, s3, D3.finish hs, S⟩
      · all_goals (repeat' (first | refine k_cond rfl ?_ | refine K_skip ?_))
        exact ⟨(), S, ((by repeat (first | exact Ks.le_nil _ | refine Ks.le_cons rfl ?_)))⟩
    · exact ⟨(), S, ((by repeat (first | exact Ks.le_nil _ | refine Ks.le_cons rfl ?_)))⟩
  clear S
  rintro - h S
  refine K_cut (σ := Unit) (fun _ h' => Hs h0 h' (.sl v 23 1 eP m3 :: rs)) (fun _ => [(0, v), (1, .int .i64 a1), (2, .int .i64 b1), (3, .int .i64 lim), (4, cvV g cap), (10, .bool wb), (11, .bool wp), (12, .int .i64 (b1 - a1 : Nat)), (13, .int .i64 q)]) ?_ ?_
  · all_goals (repeat' (first | refine K_seq ?_ | refine k_cond rfl ?_ | refine K_skip ?_ | (refine K_draw (id := 17) ?_; refine mv ?_; (first | (refine cS ?_ ?_ <;> intro hc)) <;> (refine mv ?_; (first | refine off ?_ | refine mv ?_); (first | refine off ?_ | refine mv ?_); (first | refine off ?_ | refine mv ?_); (first | refine off ?_ | (refine sb ?_)); (first | refine off ?_ | (refine ixS2 S rfl rfl ?_)); (first | refine off ?_ | (refine lES2 S rfl rfl ?_)); (first | refine off ?_ | refine mv ?_); (first | refine off ?_ | refine mv ?_); (first | refine off ?_ | (refine ixS2 S rfl rfl ?_)); (first | refine off ?_ | (refine lES2 S rfl rfl ?_)); (first | (refine off ?_; (refine off ?_) <;> ((refine off ?_); refine vl ?_; refine KO_nil ?_)) | skip)))))
    · (try simp only [toNat_pred, toNat_succ, toNat_sum, Int.toNat_natCast])
      (refine KO_call rfl rfl rfl rfl ((C _ _ _ _ S (hpm3 (a1 - 1) (by omega)) (hpm3 q (by omega))).mono ?_); rintro _ h ⟨d, rfl, ⟨hd, hq⟩ | ⟨hd, hq⟩, x⟩) <;> (replace S := S.join0 x; clear x; (first | (first | refine cT ?_ | refine cF ?_)) <;> ((refine vl ?_); refine vl ?_; refine KO_nil ?_))
      · all_goals (repeat' (first | refine k_cond rfl ?_ | refine K_skip ?_))
        exact ⟨(), S, ((by repeat (first | exact Ks.le_nil _ | refine Ks.le_cons rfl ?_)))⟩
      · all_goals (repeat' (first | refine K_seq ?_ | refine k_cond rfl ?_ | (refine K_region (id := 18) ?_; refine mv ?_; refine mv ?_; refine mv ?_; refine mv ?_; refine mv ?_; skip)))
        (refine KO_fn rfl rfl rfl rfl rfl ((peq_c a1 b1 q S C hpm3 W hq0 (by omega) (by omega)).mono ?_); rintro _ h ⟨e, m4, rfl, e1, e2, e3, e4, S2⟩) <;> (replace S := S2; clear S2; refine mv ?_; refine KO_nil ?_)
        all_goals (repeat' (first | refine K_seq ?_ | refine K_exit ?_ | (refine K_region (id := 19) ?_; refine mv ?_; refine mv ?_; refine KO_nil ?_)))
        refine ⟨(e, b1, lim, wb, wp, m4), ?_, ?_, (by repeat (first | exact Ks.le_nil _ | refine Ks.le_cons rfl ?_))⟩
        · show b1 - e < b1 - a1; omega
        · have s4 := low m4 (g13.trans e2) (by omega)
          refine ⟨S, by (try dsimp only); omega, hlim, s3.trans (e2.mono h1.1 h1.2.2 (by omega)), (D3.sw e2 h1.1 h1.2.2).eq_ W (x := m3.getD q default) (show a1 ≤ e ∧ e ≤ b1 by omega) e3 e4 fun k q1 q2 => ?_⟩
          have := s4 k q1 q2
          rw [e2.out (k := a1 - 1) (.inl (by omega))] at this
          exact W.ntr hq this
    · exact ⟨(), S, ((by repeat (first | exact Ks.le_nil _ | refine Ks.le_cons rfl ?_)))⟩
  clear S
  rintro - h S
  skip
  all_goals (repeat' (first | refine K_seq ?_ | (refine K_region (id := 20) ?_; refine mv ?_; refine mv ?_; refine mv ?_; refine mv ?_; refine mv ?_; skip)))
  (refine KO_fn rfl rfl rfl rfl rfl ((part_c a1 b1 q S C hpm3 W hq0 (by omega) (by omega)).mono ?_); rintro _ h ⟨e, f, m4, rfl, e1, e2, e3, S2⟩) <;> (replace S := S2; clear S2; refine mv ?_; refine vl ?_; refine vl ?_; refine mv ?_; refine mv ?_; refine KO_nil ?_)
  have D4 := D3.sw e2 h1.1 h1.2.2
  have s4 := s3.trans (e2.mono h1.1 h1.2.2 (by omega))
  have hm4 := e2.len
  have low4 := low m4 (g13.trans e2)
  have hpm4 := s4.lift hp hb
  have ee : (e : Int) + 1 = ((e + 1 : Nat) : Int) := by omega
  all_goals (repeat' (first | refine K_seq ?_ | refine k_cond rfl ?_ | (refine K_region (id := 21) ?_; refine mv ?_; refine mv ?_; refine KO_nil ?_) | (refine K_region (id := 22) ?_; refine mv ?_; refine mv ?_; refine sb ?_; refine mv ?_; refine mv ?_; refine sb ?_; refine mv ?_; refine mv ?_; refine KO_nil ?_) | (refine K_region (id := 23) ?_; refine mv ?_; refine qu ?_; refine mv ?_; refine KO_nil ?_) | (refine K_region (id := 24) ?_; refine mv ?_; refine mv ?_; (first | (refine cS ?_ ?_ <;> intro hc)) <;> (refine KO_nil ?_)) | (refine K_region (id := 25) ?_; refine mv ?_; refine mv ?_; (first | (refine cS ?_ ?_ <;> intro hc)) <;> (refine mv ?_; refine KO_nil ?_)) | (refine K_region (id := 26) ?_; refine mv ?_; refine mv ?_; refine mv ?_; refine mv ?_; refine mv ?_; skip) | (refine K_region (id := 28) ?_; refine mv ?_; refine mv ?_; (first | (refine cS ?_ ?_ <;> intro hc)) <;> (refine mv ?_; refine KO_nil ?_))))
  · (refine KO_fn rfl rfl rfl rfl rfl ((ih (e - a1) (by omega) a1 e lim S hpm4 rfl (by omega) (by omega) (by omega) (by omega) hlim (fun z k q1 q2 => low4 z k q1 (by omega))).mono ?_); rintro _ h ⟨m5, k1, k2, S2⟩) <;> (replace S := S2; clear S2; refine KO_nil ?_)
    all_goals (repeat' (first | (refine K_region (id := 27) ?_; refine mv ?_; refine ad ?_; refine mv ?_; refine KO_nil ?_)))
    refine ⟨(e + 1, b1, lim, true, f, m5), ?_, ?_, (by repeat (first | exact Ks.le_nil _ | refine Ks.le_cons rfl ?_))⟩
    · show b1 - (e + 1) < b1 - a1; omega
    · exact ⟨S, by (try dsimp only); omega, hlim, s4.trans (k1.mono h1.1 (by omega) (by omega)), D4.left W e3 (by omega) ⟨h1.1, h1.2.2⟩ k1 k2 (by omega)⟩
  · (refine KO_fn rfl rfl rfl rfl rfl ((ih (e - a1) (by omega) a1 e lim S hpm4 rfl (by omega) (by omega) (by omega) (by omega) hlim (fun z k q1 q2 => low4 z k q1 (by omega))).mono ?_); rintro _ h ⟨m5, k1, k2, S2⟩) <;> (replace S := S2; clear S2; refine KO_nil ?_)
    all_goals (repeat' (first | (refine K_region (id := 27) ?_; refine mv ?_; refine ad ?_; refine mv ?_; refine KO_nil ?_)))
    refine ⟨(e + 1, b1, lim, false, f, m5), ?_, ?_, (by repeat (first | exact Ks.le_nil _ | refine Ks.le_cons rfl ?_))⟩
    · show b1 - (e + 1) < b1 - a1; omega
    · exact ⟨S, by (try dsimp only); omega, hlim, s4.trans (k1.mono h1.1 (by omega) (by omega)), D4.left W e3 (by omega) ⟨h1.1, h1.2.2⟩ k1 k2 (by omega)⟩
  · refine K_region (id := 29) ?_
    (refine mv ?_; refine mv ?_; refine ad ?_; refine mv ?_; refine mv ?_; refine mv ?_; skip)
    simp only [ee]
    (refine KO_fn rfl rfl rfl rfl rfl ((ih (b1 - (e + 1)) (by omega) (e + 1) b1 lim S hpm4 rfl (by omega) (by omega) (by omega) (by omega) hlim (fun z k q1 q2 => e3.2 k (by omega) q2)).mono ?_); rintro _ h ⟨m5, k1, k2, S2⟩) <;> (replace S := S2; clear S2; refine KO_nil ?_)
    all_goals (repeat' (first | (refine K_region (id := 30) ?_; refine mv ?_; refine mv ?_; refine KO_nil ?_)))
    refine ⟨(a1, e, lim, true, f, m5), ?_, ?_, (by repeat (first | exact Ks.le_nil _ | refine Ks.le_cons rfl ?_))⟩
    · show e - a1 < b1 - a1; omega
    · exact ⟨S, by (try dsimp only); omega, hlim, s4.trans (k1.mono (by omega) h1.2.2 (by omega)), D4.right W e3 (by omega) ⟨h1.1, h1.2.2⟩ k1 k2 (by omega)⟩
  · refine K_region (id := 29) ?_
    (refine mv ?_; refine mv ?_; refine ad ?_; refine mv ?_; refine mv ?_; refine mv ?_; skip)
    simp only [ee]
    (refine KO_fn rfl rfl rfl rfl rfl ((ih (b1 - (e + 1)) (by omega) (e + 1) b1 lim S hpm4 rfl (by omega) (by omega) (by omega) (by omega) hlim (fun z k q1 q2 => e3.2 k (by omega) q2)).mono ?_); rintro _ h ⟨m5, k1, k2, S2⟩) <;> (replace S := S2; clear S2; refine KO_nil ?_)
    all_goals (repeat' (first | (refine K_region (id := 30) ?_; refine mv ?_; refine mv ?_; refine KO_nil ?_)))
    refine ⟨(a1, e, lim, false, f, m5), ?_, ?_, (by repeat (first | exact Ks.le_nil _ | refine Ks.le_cons rfl ?_))⟩
    · show e - a1 < b1 - a1; omega
    · exact ⟨S, by (try dsimp only); omega, hlim, s4.trans (k1.mono (by omega) h1.2.2 (by omega)), D4.right W e3 (by omega) ⟨h1.1, h1.2.2⟩ k1 k2 (by omega)⟩

theorem sort_c {h0 h : AH} {rs : List Rs} {v : Value} {l : List PL} {g : Nat} {cap : List Value} {lt : PL → PL → Prop} {p : PL → Prop} (S : Hs h0 h (.sl v 23 1 eP l :: rs)) (C : CmpFn h0 v rs g cap lt p) (hp : ∀ k, k < l.length → p (l.getD k default)) (W : WOrd lt) (hl : l.length < 50) :
    Fn Tryz.prog Xh 98 [v, cvV g cap] h (fun _ h' => ∃ l', Sw 0 l.length l l' ∧ Srt lt 0 l.length l' ∧ Hs h0 h' (.sl v 23 1 eP l' :: rs)) := by
  have hk : (lenTab.getD l.length 0).toNat < 256 := UInt8.toNat_lt _
  refine Fn_K rfl Tryz.func98 rfl rfl ?_
  all_goals (repeat' (first | refine K_seq ?_ | (refine K_region (id := 0) ?_; refine mv ?_; refine lnS S rfl rfl ?_; refine mv ?_; refine KO_nil ?_) | (refine K_region (id := 1) ?_; refine mv ?_; refine mv ?_; refine mv ?_; refine cW ?_)))
  (refine KO_fn rfl rfl rfl rfl rfl ((len_ok S.wf l.length (by omega)).mono ?_); rintro _ h ⟨rfl, x⟩) <;> (replace S := S.join0 x; clear x; refine mv ?_)
  (refine KO_fn rfl rfl rfl rfl rfl ((pdq_c C W l.length 0 l.length (lenTab.getD l.length 0).toNat S hp rfl (Nat.zero_le _) (Nat.le_refl _) (by omega) (by omega) (by omega) (fun z => by omega)).mono ?_); rintro _ h ⟨l2, g1, g2, S2⟩) <;> (replace S := S2; clear S2; refine KO_nil ?_)
  all_goals (repeat' (fail))
  refine ⟨_, rfl, ?_⟩
  exact ⟨l2, g1, g2, S⟩

end Go.Proofs.Xx

/-
  Lists of lists without repetitions, in place.
-/
namespace Go.Proofs.Xx
open Go Go.Proofs
set_option linter.unusedSimpArgs false
set_option linter.unusedVariables false
set_option maxRecDepth 100000

def StrictL (l : List PL) : Prop := ∀ i, 0 < i → i < l.length → ltL (l.getD (i - 1) default).2 (l.getD i default).2
def SrtL (l : List PL) : Prop := ∀ i j, i ≤ j → j < l.length → ¬ ltL (l.getD j default).2 (l.getD i default).2
def SubP (l m : List PL) : Prop := ∀ i, i < l.length → ∃ j, j < m.length ∧ l.getD i default = m.getD j default
def CovP (l m : List PL) : Prop := ∀ j, j < m.length → ∃ i, i < l.length ∧ (l.getD i default).2 = (m.getD j default).2
def EqFn (h0 : AH) (v : Value) (rs : List Rs) (p : PL → Prop) : Prop :=
  ∀ h m x y, Hs h0 h (.sl v 23 1 eP m :: rs) → p x → p y → Fn Tryz.prog Xh 59 [x.1.val, y.1.val] h (fun r h' => BoolIs r (x.2 = y.2) ∧ Hs h h' [])
theorem sl_rdP {h0 h : AH} {rs : List Rs} {v : Value} {e : TypeId} {l : List PL} (S : Hs h0 h (.sl v e 1 eP l :: rs)) : Hs h0 h (.rd v 1 eP l :: rs) :=
  S.same .here fun fp k => by
    rcases k with ⟨rfl, rfl⟩ | ⟨b, o, cc, slk, g1, g2, g3, g4, g5⟩
    · exact .inl ⟨rfl, rfl⟩
    · exact .inr ⟨b, o, _, cc, e, slk, false, g1, g2, g3, g4⟩
theorem getD_setP (l : List PL) {i : Nat} (x : PL) (h : i < l.length) (j : Nat) : (l.set i x).getD j default = if j = i then x else l.getD j default := by
  simp only [List.getD_eq_getElem?_getD, List.getElem?_set]
  by_cases q : i = j
  · subst q; simp [h]
  · rw [if_neg q, if_neg (fun z => q z.symm)]
theorem getD_takeP (l : List PL) {k i : Nat} (h : i < k) : (l.take k).getD i default = l.getD i default := by
  simp only [List.getD_eq_getElem?_getD, List.getElem?_take, if_pos h]
theorem compactF_ok {h0 h : AH} {rs : List Rs} {v : Value} {l : List PL} {p : PL → Prop} (S : Hs h0 h (.sl v 23 1 eP l :: rs)) (hl : l.length ≤ 1000000) (E : EqFn h0 v rs p) (hp : ∀ k, k < l.length → p (l.getD k default)) (hs : SrtL l) :
    Fn Tryz.prog Xh 99 [v, .func (.func 59) #[] #[]] h (fun r h' => ∃ out, StrictL out ∧ SubP out l ∧ CovP out l ∧ out.length ≤ l.length ∧ Hs h0 h' (.rd r 1 eP out :: rs)) := by
  have hlt : ∀ i j, i ≤ j → j < l.length → (l.getD j default).2 ≠ (l.getD i default).2 → ltL (l.getD i default).2 (l.getD j default).2 := fun i j q1 q2 q3 => by
    rcases ltL_tri (l.getD i default).2 (l.getD j default).2 with z | z | z
    · exact z
    · exact absurd z.symm q3
    · exact absurd z (hs i j q1 q2)
  refine Fn_K rfl Tryz.func99 rfl rfl ?_
  all_goals (repeat' (first | refine K_seq ?_ | refine k_cond rfl ?_ | refine K_skip ?_ | refine k_block ?_ | (refine K_region (id := 0) ?_; refine mv ?_; refine KO_nil ?_) | (refine K_region (id := 1) ?_; refine mv ?_; refine lnS S rfl rfl ?_; (first | (refine cS ?_ ?_ <;> intro hc)) <;> (refine KO_nil ?_)) | (refine K_region (id := 2) ?_; refine mv ?_; refine mv ?_; refine KO_nil ?_) | (refine K_region (id := 3) ?_; refine mv ?_; refine KO_nil ?_)))
  · refine K_ret ⟨_, rfl, ?_⟩
    exact ⟨l, fun i q1 q2 => by omega, fun i hi => ⟨i, hi, rfl⟩, fun i hi => ⟨i, hi, rfl⟩, Nat.le_refl _, sl_rdP S⟩
  have hn : 2 ≤ l.length := by omega
  refine k_loop (σ := Nat) (fun k h' => Hs h0 h' (.sl v 23 1 eP l :: rs) ∧ (1 ≤ k ∧ k ≤ l.length) ∧ ∀ i, 0 < i → i < k → ltL (l.getD (i - 1) default).2 (l.getD i default).2) (fun k => l.length - k) (fun k => [(0, v), (1, .func (.func 59) #[] #[]), (5, .int .i64 k)]) 1 (by repeat (first | exact Ks.le_nil _ | refine Ks.le_cons rfl ?_)) ?_ ?_
  · exact ⟨S, by omega, fun i q1 q2 => by omega⟩
  clear S
  rintro K h ⟨S, h1, h2⟩
  all_goals (repeat' (first | refine K_seq ?_ | refine k_cond rfl ?_ | refine K_skip ?_ | refine K_exit ?_ | refine k_block ?_ | (refine K_region (id := 4) ?_; refine mv ?_; refine mv ?_; refine lnS S rfl rfl ?_; (first | (refine cS ?_ ?_ <;> intro hc)) <;> (refine KO_nil ?_)) | (refine K_draw (id := 6) ?_; refine mv ?_; refine mv ?_; refine mv ?_; refine ixS2 S rfl rfl ?_; refine lES2 S rfl rfl ?_; refine mv ?_; refine mv ?_; refine sb ?_; refine ixS2 S rfl rfl ?_; refine lES2 S rfl rfl ?_)))
  · have hK : K < l.length := by omega
    simp only [toNat_pred, Int.toNat_natCast]
    (refine KO_call rfl rfl rfl rfl ((E _ _ (l.getD K default) (l.getD (K - 1) default) S (hp K hK) (hp (K - 1) (by omega))).mono ?_); rintro _ h ⟨⟨rfl, hq⟩ | ⟨rfl, hq⟩, x⟩) <;> (replace S := S.join0 x; clear x; refine KO_nil ?_)
    · skip
      (repeat (refine K_seq ?_)); refine k_cond rfl ?_
      (repeat (refine K_seq ?_))
      refine K_region (id := 7) ?_
      refine mv ?_; refine mv ?_
      refine dv S rfl rfl ?_
      intro v2 V
      rw [Int.toNat_natCast] at V
      refine mv ?_
      refine KO_nil ?_
      all_goals (repeat' (first | refine K_seq ?_ | refine k_block ?_ | (refine K_region (id := 8) ?_; refine mv ?_; refine KO_nil ?_)))
      refine k_loop (σ := Nat × Nat × List PL) (fun (k, j, m) h' => Hs h0 h' (.sl v 23 1 eP m :: rs) ∧ (K ≤ k ∧ k + 1 ≤ K + j ∧ 1 ≤ j ∧ j ≤ l.length - K) ∧ m.length = l.length ∧ (∀ i, k ≤ i → m.getD i default = l.getD i default) ∧ (m.getD (k - 1) default).2 = (l.getD (K + j - 1) default).2 ∧ (∀ i, 0 < i → i < k → ltL (m.getD (i - 1) default).2 (m.getD i default).2) ∧ (∀ i, i < k → ∃ x, x < l.length ∧ m.getD i default = l.getD x default) ∧ (∀ x, x < K + j → ∃ i, i < k ∧ (m.getD i default).2 = (l.getD x default).2)) (fun (k, j, m) => l.length - j) (fun (k, j, m) => [(0, v), (1, .func (.func 59) #[] #[]), (5, .int .i64 k), (6, v2), (7, .int .i64 j)]) (K, 1, l) (by repeat (first | exact Ks.le_nil _ | refine Ks.le_cons rfl ?_)) ?_ ?_
      · refine ⟨S, by omega, rfl, fun i _ => rfl, by rw [Nat.add_sub_cancel]; exact hq.symm, h2, fun i hi => ⟨i, by omega, rfl⟩, fun x hx => ?_⟩
        rcases Nat.lt_or_ge x K with q | q
        · exact ⟨x, q, rfl⟩
        · obtain rfl : x = K := by omega
          exact ⟨x - 1, by omega, hq.symm⟩
      clear S h2 hq
      rintro ⟨k, j, m⟩ h ⟨S, k1, k2, k3, k4, k5, k6, k7⟩
      have V := V
      rw [← k2] at V
      have rv := V.rd (Rd.of_sl S .here) (fun _ => rfl) (by omega)
      have rvl : (m.drop K).length = l.length - K := by rw [List.length_drop, k2]
      (repeat (refine K_seq ?_)); refine K_region (id := 9) ?_
      refine mv ?_; refine mv ?_
      refine m_len rfl rfl rfl rfl rv rfl ?_
      rw [rvl]
      (first | (refine cS ?_ ?_ <;> intro hc)) <;> (refine KO_nil ?_)
      all_goals (repeat' (first | refine K_seq ?_ | refine k_cond rfl ?_ | refine K_skip ?_ | refine K_exit ?_ | refine k_block ?_))
      · have hj : j < l.length - K := by omega
        refine K_draw (id := 11) ?_
        refine mv ?_; refine mv ?_; refine mv ?_
        refine m_idx (z := 1) rfl rfl rfl rfl rfl rv (by omega) rfl ?_
        rw [V.el]
        refine lES2 S rfl rfl ?_
        refine mv ?_; refine mv ?_; refine sb ?_
        refine m_idx (z := 1) rfl rfl rfl rfl rfl rv (by omega) rfl ?_
        rw [V.el]
        refine lES2 S rfl rfl ?_
        rw [toNat_pred, Int.toNat_natCast, k3 (K + j) (by omega)]
        rw [k3 (K + (j - 1)) (by omega), show K + (j - 1) = K + j - 1 by omega]
        (refine KO_call rfl rfl rfl rfl ((E _ _ (l.getD (K + j) default) (l.getD (K + j - 1) default) S (hp _ (by omega)) (hp _ (by omega))).mono ?_); rintro _ h ⟨⟨rfl, hq⟩ | ⟨rfl, hq⟩, x⟩) <;> (replace S := S.join0 x; clear x; refine vl ?_; refine KO_nil ?_)
        · all_goals (repeat' (first | refine k_cond rfl ?_ | refine K_skip ?_ | (refine K_region (id := 10) ?_; refine mv ?_; refine ad ?_; refine mv ?_; refine KO_nil ?_)))
          refine ⟨(k, j + 1, m), ?_, ?_, (by repeat (first | exact Ks.le_nil _ | refine Ks.le_cons rfl ?_))⟩
          · show l.length - (j + 1) < l.length - j; omega
          · refine ⟨S, by omega, k2, k3, by rw [k4, show K + (j + 1) - 1 = K + j by omega]; exact hq.symm, k5, k6, fun x hx => ?_⟩
            rcases Nat.lt_or_ge x (K + j) with q | q
            · exact k7 x q
            · obtain rfl : x = K + j := by omega
              exact ⟨k - 1, by omega, k4.trans hq.symm⟩
        · have rv := V.rd (Rd.of_sl S .here) (fun _ => rfl) (by omega)
          (repeat (refine K_seq ?_)); refine k_cond rfl ?_
          (repeat (refine K_seq ?_))
          refine K_region (id := 12) ?_
          refine mv ?_; refine mv ?_; refine mv ?_; refine mv ?_
          refine m_idx (z := 1) rfl rfl rfl rfl rfl rv (by omega) rfl ?_
          rw [V.el]
          refine lES2 S rfl rfl ?_
          rw [Int.toNat_natCast, k3 (K + j) (by omega)]
          (refine ixS2 S rfl rfl ?_); (first | (refine sE2 S rfl rfl ?_; clear S; intro h S)); refine KO_nil ?_
          rw [Int.toNat_natCast] at S
          all_goals (repeat' (first | (refine K_region (id := 10) ?_; refine mv ?_; refine ad ?_; refine mv ?_; refine KO_nil ?_) | (refine K_region (id := 13) ?_; refine mv ?_; refine ad ?_; refine mv ?_; refine KO_nil ?_)))
          have hlt' := hlt (K + j - 1) (K + j) (by omega) (by omega) hq
          have g := fun i => getD_setP m (i := k) (l.getD (K + j) default) (by omega) i
          refine ⟨(k + 1, j + 1, m.set k (l.getD (K + j) default)), ?_, ?_, (by repeat (first | exact Ks.le_nil _ | refine Ks.le_cons rfl ?_))⟩
          · show l.length - (j + 1) < l.length - j; omega
          · refine ⟨S, by omega, by simpa using k2, fun i q => ?_, ?_, fun i q1 q2 => ?_, fun i q => ?_, fun x hx => ?_⟩
            · rw [g, if_neg (by omega)]; exact k3 i (by omega)
            · rw [g, if_pos (by omega)]; rfl
            · rw [g, g, if_neg (by omega)]
              split
              · rename_i e; subst e; rw [k4]; exact hlt'
              · exact k5 i q1 (by omega)
            · rw [g]
              split
              · exact ⟨K + j, by omega, rfl⟩
              · exact k6 i (by omega)
            · rcases Nat.lt_or_ge x (K + j) with q | q
              · obtain ⟨i, i1, i2⟩ := k7 x q
                exact ⟨i, by omega, by rw [g, if_neg (by omega)]; exact i2⟩
              · obtain rfl : x = K + j := by omega
                exact ⟨k, by omega, by rw [g, if_pos rfl]⟩
      · have hkl : k < m.length := by omega
        have hjl : j = l.length - K := by omega
        refine K_region (id := 14) ?_
        refine mv ?_; refine mv ?_
        refine dv S rfl rfl ?_
        intro v3 V3
        rw [Int.toNat_natCast] at V3
        refine cl (default : PL) S V3 rfl rfl ?_
        clear S
        intro h S
        refine KO_nil ?_
        (repeat (refine K_seq ?_)); refine K_region (id := 15) ?_
        refine mv ?_; refine mv ?_
        refine th k S rfl rfl ?_
        clear S
        intro v4 S
        refine mv ?_; refine KO_nil ?_
        all_goals (repeat' (fail))
        refine K_ret ⟨_, rfl, ?_⟩
        have el : ((m.take k ++ List.replicate (m.length - k) default).take k) = m.take k := by rw [List.take_left' (by simp; omega)]
        rw [el] at S
        have ll : (m.take k).length = k := by simp; omega
        refine ⟨m.take k, fun i q1 q2 => ?_, fun i hi => ?_, fun x hx => ?_, by omega, S⟩
        · rw [getD_takeP _ (by omega), getD_takeP _ (by omega)]; exact k5 i q1 (by omega)
        · rw [getD_takeP _ (by omega)]; exact k6 i (by omega)
        · obtain ⟨i, i1, i2⟩ := k7 x (by omega)
          exact ⟨i, by omega, by rw [getD_takeP _ (by omega)]; exact i2⟩
    · all_goals (repeat' (first | refine k_cond rfl ?_ | refine K_skip ?_ | (refine K_region (id := 5) ?_; refine mv ?_; refine ad ?_; refine mv ?_; refine KO_nil ?_)))
      refine ⟨K + 1, ?_, ?_, (by repeat (first | exact Ks.le_nil _ | refine Ks.le_cons rfl ?_))⟩
      · show l.length - (K + 1) < l.length - K; omega
      · refine ⟨S, by omega, fun i q1 q2 => ?_⟩
        rcases Nat.lt_or_ge i K with q | q
        · exact h2 i q1 q
        · obtain rfl : i = K := by omega
          exact hlt (i - 1) i (by omega) (by omega) hq
  · obtain rfl : K = l.length := by omega
    all_goals (repeat' (first | (refine K_region (id := 16) ?_; refine mv ?_; refine mv ?_; refine KO_nil ?_)))
    refine K_ret ⟨_, rfl, ?_⟩
    exact ⟨l, h2, fun i hi => ⟨i, hi, rfl⟩, fun i hi => ⟨i, hi, rfl⟩, Nat.le_refl _, sl_rdP S⟩
end Go.Proofs.Xx

/-
  Plain facts of lists: sorted lists with the same elements; orbits and stabilizers counted.
-/
namespace Go.Proofs.Xx
set_option linter.unusedSimpArgs false
set_option linter.unusedVariables false

theorem pw_nodup {α : Type} {lt : α → α → Prop} (irr : ∀ a, ¬ lt a a) {a : List α} (h : a.Pairwise lt) : a.Nodup := h.imp fun q e => by subst e; exact irr _ q
theorem nodup_len {α : Type} [DecidableEq α] : ∀ {l m : List α}, l.Nodup → (∀ x, x ∈ l → x ∈ m) → l.length ≤ m.length
  | [], _, _, _ => Nat.zero_le _
  | x :: l, m, h, s => by
    rw [List.nodup_cons] at h
    have hm : x ∈ m := s x (.head _)
    have := nodup_len (l := l) (m := m.erase x) h.2 fun y hy => (List.mem_erase_of_ne (fun e : y = x => h.1 (by subst e; exact hy))).2 (s y (.tail _ hy))
    rw [List.length_erase_of_mem hm] at this
    have h0 : 0 < m.length := List.length_pos_of_mem hm
    simp only [List.length_cons]
    omega
theorem nodup_map {α β : Type} {f : α → β} : ∀ {l : List α}, l.Nodup → (∀ x y, x ∈ l → y ∈ l → f x = f y → x = y) → (l.map f).Nodup
  | [], _, _ => List.nodup_nil
  | x :: l, h, inj => by
    rw [List.nodup_cons] at h
    rw [List.map_cons, List.nodup_cons]
    refine ⟨fun q => ?_, nodup_map h.2 fun a b ha hb => inj a b (.tail _ ha) (.tail _ hb)⟩
    obtain ⟨y, hy, e⟩ := List.mem_map.1 q
    have := inj y x (.tail _ hy) (.head _) e
    subst this
    exact h.1 hy
def sumN : Nat → (Nat → Nat) → Nat
  | 0, _ => 0
  | n + 1, f => sumN n f + f n
end Go.Proofs.Xx

namespace Go.Proofs.Xx
set_option linter.unusedSimpArgs false
set_option linter.unusedVariables false
theorem emA {A x : Int} (h : 0 ≤ x) (h2 : x < 2 * A) : (x < A ∧ x % A = x) ∨ (A ≤ x ∧ x % A = x - A) := by
  by_cases q : x < A
  · exact .inl ⟨q, Int.emod_eq_of_lt h q⟩
  · refine .inr ⟨by omega, ?_⟩
    rw [← Int.sub_emod_right x A]
    exact Int.emod_eq_of_lt (by omega) (by omega)
/-- The moves of a round table in other words. -/
theorem rgv_rot {A : Int} {r : Nat} {k : Int} (hr : (r : Int) < A) (hk : 0 ≤ k ∧ k < A) : rgv A (2 * r) k = if k + r < A then k + r else k + r - A := by
  unfold rgv
  rw [if_pos (by omega), show 2 * r / 2 = r by omega]
  rcases emA (A := A) (x := k + r) (by omega) (by omega) with ⟨q, e⟩ | ⟨q, e⟩
  · rw [e, if_pos q]
  · rw [e, if_neg (by omega)]
theorem rgv_ref {A : Int} {r : Nat} {k : Int} (hr : (r : Int) < A) (hk : 0 ≤ k ∧ k < A) : rgv A (2 * r + 1) k = if r < k then r - k + A else r - k := by
  unfold rgv
  rw [if_neg (by omega), show (2 * r + 1) / 2 = r by omega]
  rcases emA (A := A) (x := r - k + A) (by omega) (by omega) with ⟨q, e⟩ | ⟨q, e⟩
  · rw [e, if_pos (by omega)]
  · rw [e, if_neg (by omega)]; omega
theorem two_cases {A : Int} {j : Nat} (hj : j < (2 * A).toNat) : ∃ r : Nat, (r : Int) < A ∧ (j = 2 * r ∨ j = 2 * r + 1) := ⟨j / 2, by omega, by omega⟩
theorem rgv_b {A : Int} {j : Nat} {k : Int} (hj : j < (2 * A).toNat) (hk : 0 ≤ k ∧ k < A) : 0 ≤ rgv A j k ∧ rgv A j k < A := by
  obtain ⟨r, hr, rfl | rfl⟩ := two_cases hj
  · rw [rgv_rot hr hk]; split <;> omega
  · rw [rgv_ref hr hk]; split <;> omega
theorem rgv_mul {A : Int} {i j : Nat} (hi : i < (2 * A).toNat) (hj : j < (2 * A).toNat) : ∃ m, m < (2 * A).toNat ∧ ∀ k, 0 ≤ k → k < A → rgv A i (rgv A j k) = rgv A m k := by
  obtain ⟨r, hr, rfl | rfl⟩ := two_cases hi <;> obtain ⟨s, hs, rfl | rfl⟩ := two_cases hj
  · by_cases q : (r : Int) + s < A
    · refine ⟨2 * (r + s), by omega, fun k k1 k2 => ?_⟩
      rw [rgv_rot hr (rgv_b hj ⟨k1, k2⟩), rgv_rot hs ⟨k1, k2⟩, rgv_rot (r := r + s) (by omega) ⟨k1, k2⟩]
      repeat' split
      all_goals omega
    · refine ⟨2 * ((r : Int) + s - A).toNat, by omega, fun k k1 k2 => ?_⟩
      rw [rgv_rot hr (rgv_b hj ⟨k1, k2⟩), rgv_rot hs ⟨k1, k2⟩, rgv_rot (r := ((r : Int) + s - A).toNat) (by omega) ⟨k1, k2⟩]
      repeat' split
      all_goals omega
  · by_cases q : (r : Int) + s < A
    · refine ⟨2 * (r + s) + 1, by omega, fun k k1 k2 => ?_⟩
      rw [rgv_rot hr (rgv_b hj ⟨k1, k2⟩), rgv_ref hs ⟨k1, k2⟩, rgv_ref (r := r + s) (by omega) ⟨k1, k2⟩]
      repeat' split
      all_goals omega
    · refine ⟨2 * ((r : Int) + s - A).toNat + 1, by omega, fun k k1 k2 => ?_⟩
      rw [rgv_rot hr (rgv_b hj ⟨k1, k2⟩), rgv_ref hs ⟨k1, k2⟩, rgv_ref (r := ((r : Int) + s - A).toNat) (by omega) ⟨k1, k2⟩]
      repeat' split
      all_goals omega
  · by_cases q : s ≤ r
    · refine ⟨2 * (r - s) + 1, by omega, fun k k1 k2 => ?_⟩
      rw [rgv_ref hr (rgv_b hj ⟨k1, k2⟩), rgv_rot hs ⟨k1, k2⟩, rgv_ref (r := r - s) (by omega) ⟨k1, k2⟩]
      repeat' split
      all_goals omega
    · refine ⟨2 * ((r : Int) - s + A).toNat + 1, by omega, fun k k1 k2 => ?_⟩
      rw [rgv_ref hr (rgv_b hj ⟨k1, k2⟩), rgv_rot hs ⟨k1, k2⟩, rgv_ref (r := ((r : Int) - s + A).toNat) (by omega) ⟨k1, k2⟩]
      repeat' split
      all_goals omega
  · by_cases q : s ≤ r
    · refine ⟨2 * (r - s), by omega, fun k k1 k2 => ?_⟩
      rw [rgv_ref hr (rgv_b hj ⟨k1, k2⟩), rgv_ref hs ⟨k1, k2⟩, rgv_rot (r := r - s) (by omega) ⟨k1, k2⟩]
      repeat' split
      all_goals omega
    · refine ⟨2 * ((r : Int) - s + A).toNat, by omega, fun k k1 k2 => ?_⟩
      rw [rgv_ref hr (rgv_b hj ⟨k1, k2⟩), rgv_ref hs ⟨k1, k2⟩, rgv_rot (r := ((r : Int) - s + A).toNat) (by omega) ⟨k1, k2⟩]
      repeat' split
      all_goals omega
theorem rgv_inv {A : Int} {i : Nat} (hi : i < (2 * A).toNat) : ∃ m, m < (2 * A).toNat ∧ ∀ k, 0 ≤ k → k < A → rgv A i (rgv A m k) = k ∧ rgv A m (rgv A i k) = k := by
  obtain ⟨r, hr, rfl | rfl⟩ := two_cases hi
  · by_cases q : r = 0
    · refine ⟨2 * r, hi, fun k k1 k2 => ?_⟩
      rw [rgv_rot hr (rgv_b hi ⟨k1, k2⟩), rgv_rot hr ⟨k1, k2⟩]
      constructor <;> (repeat' split) <;> omega
    · have hm : 2 * (A - r).toNat < (2 * A).toNat := by omega
      refine ⟨2 * (A - r).toNat, hm, fun k k1 k2 => ?_⟩
      rw [rgv_rot hr (rgv_b hm ⟨k1, k2⟩), rgv_rot (r := (A - r).toNat) (by omega) ⟨k1, k2⟩, rgv_rot (r := (A - r).toNat) (by omega) (rgv_b hi ⟨k1, k2⟩), rgv_rot hr ⟨k1, k2⟩]
      constructor <;> (repeat' split) <;> omega
  · refine ⟨2 * r + 1, hi, fun k k1 k2 => ?_⟩
    rw [rgv_ref hr (rgv_b hi ⟨k1, k2⟩), rgv_ref hr ⟨k1, k2⟩]
    constructor <;> (repeat' split) <;> omega
theorem rgv_one {A k : Int} (hk : 0 ≤ k ∧ k < A) : rgv A 0 k = k := by
  have := rgv_rot (A := A) (r := 0) (k := k) (by omega) hk
  rw [show 2 * 0 = 0 from rfl] at this
  rw [this, if_pos (by omega)]; omega
/-! long tables -/
theorem sd_sd {a b k : Int} (ha : 1 ≤ a) (hb : 0 ≤ b ∧ b ≤ 2) (hk : 0 ≤ k ∧ k < 2 * a + b) : sdF a b (sdF a b k) = k ∧ 0 ≤ sdF a b k ∧ sdF a b k < 2 * a + b := by
  unfold sdF hdP
  repeat' split
  all_goals omega
theorem sd0 (a k : Int) : sdF a 0 k = 2 * a - 1 - k := by
  unfold sdF; rw [if_neg (by unfold hdP; omega)]; omega
theorem en0 (a k : Int) : enF a 0 k = if k < a then a - 1 - k else 3 * a - 1 - k := by
  unfold enF; rw [if_neg (by unfold hdP; omega)]; split <;> omega
theorem sd2 (a k : Int) : sdF a 2 k = if k = a ∨ k = 2 * a + 1 then k else 2 * a - k := by
  unfold sdF
  by_cases q : k = a ∨ k = 2 * a + 1
  · rw [if_pos (by unfold hdP; omega), if_pos q]
  · rw [if_neg (by unfold hdP; omega), if_neg q]; omega
theorem en2 {a : Int} (ha : 1 ≤ a) (k : Int) : enF a 2 k = if k < a then a - 1 - k else 3 * a + 1 - k := by
  unfold enF
  by_cases q : k = a ∨ k = 2 * a + 1
  · rw [if_pos (by unfold hdP; omega), if_neg (by omega)]
  · rw [if_neg (by unfold hdP; omega)]; split <;> omega
theorem en_en {a b k : Int} (ha : 1 ≤ a) (hb : b = 0 ∨ b = 2) (hk : 0 ≤ k ∧ k < 2 * a + b) : enF a b (enF a b k) = k ∧ 0 ≤ enF a b k ∧ enF a b k < 2 * a + b := by
  rcases hb with rfl | rfl
  · by_cases q : k < a
    · rw [en0 a k, if_pos q, en0, if_pos (by omega)]; omega
    · rw [en0 a k, if_neg q, en0, if_neg (by omega)]; omega
  · by_cases q : k < a
    · rw [en2 ha k, if_pos q, en2 ha, if_pos (by omega)]; omega
    · rw [en2 ha k, if_neg q, en2 ha, if_neg (by omega)]; omega
theorem en_sd {a b k : Int} (ha : 1 ≤ a) (hb : b = 0 ∨ b = 2) (hk : 0 ≤ k ∧ k < 2 * a + b) : enF a b (sdF a b k) = sdF a b (enF a b k) := by
  rcases hb with rfl | rfl
  · rw [sd0, sd0, en0, en0]
    repeat' split
    all_goals omega
  · rw [sd2, sd2, en2 ha, en2]
    repeat' split
    all_goals omega
end Go.Proofs.Xx

/-
  The lists of a table's moves; the turns that keep given seats.
-/
namespace Go.Proofs.Xx
open Go Go.Proofs
set_option linter.unusedSimpArgs false
set_option linter.unusedVariables false

def cand (t : Tab) (j : Nat) : List Int := (List.range (tsize t).toNat).map fun k => mvg t j (k : Nat)
theorem cand_len (t : Tab) (j : Nat) : (cand t j).length = (tsize t).toNat := by simp [cand]
theorem cand_at {t : Tab} {j k : Nat} (h : k < (tsize t).toNat) : pAt (cand t j) k = mvg t j k := by
  simp [cand, pAt, List.getD_eq_getElem?_getD, h]
theorem ext_pAt {a b : List Int} (h : a.length = b.length) (e : ∀ k, k < a.length → pAt a k = pAt b k) : a = b := by
  refine List.ext_getElem h fun k h1 h2 => ?_
  have := e k h1
  simpa [pAt, List.getD_eq_getElem?_getD, h1, h2] using this
theorem pAt_setV (p : List Int) {k : Nat} (hk : k < p.length) (x : Int) (j : Nat) : pAt (p.set k x) j = if j = k then x else pAt p j := by
  simp only [pAt, List.getD_eq_getElem?_getD, List.getElem?_set]
  by_cases q : k = j
  · subst q; simp [hk]
  · rw [if_neg q, if_neg (fun z => q z.symm)]
theorem cand_is {t : Tab} {j : Nat} {l : List Int} (h : l.length = (tsize t).toNat) (e : ∀ k, k < (tsize t).toNat → pAt l k = mvg t j k) : l = cand t j :=
  ext_pAt (by rw [h, cand_len]) fun k hk => by rw [e k (by omega), cand_at (by omega)]
def lng (a b : Int) : Nat → Int → Int
  | 0, k => k
  | 1, k => sdF a b k
  | 2, k => enF a b k
  | _ + 3, k => sdF a b (enF a b k)
def shg (n : Int) : Nat → Int → Int
  | 0, k => k
  | _ + 1, k => n - 1 - k
section
variable {t : Tab}
theorem mvg1 (q : t.shape = 1) (j : Nat) (k : Int) : mvg t j k = rgv t.A j k := by unfold mvg; rw [if_pos q]
theorem mvg2 (q : t.shape = 2) (j : Nat) (k : Int) : mvg t j k = lng t.A t.B j k := by
  unfold mvg; rw [if_neg (by omega), if_pos q]
  match j with
  | 0 => rfl
  | 1 => rfl
  | 2 => rfl
  | n + 3 => rfl
theorem mvg3 (q : 3 ≤ t.shape) (j : Nat) (k : Int) : mvg t j k = shg (tsize t) j k := by
  unfold mvg; rw [if_neg (by omega), if_neg (by omega)]
  match j with
  | 0 => rfl
  | n + 1 => rfl
theorem mvg20 (q : t.shape = 2) (k : Int) : mvg t 0 k = k := by rw [mvg2 q]; rfl
theorem mvg30 (q : 3 ≤ t.shape) (k : Int) : mvg t 0 k = k := by rw [mvg3 q]; rfl
theorem mvn1 (q : t.shape = 1) : mvn t = (2 * t.A).toNat := by unfold mvn; rw [if_pos q]
theorem mvn2 (q : t.shape = 2) : mvn t = if t.B = 1 then 2 else 4 := by unfold mvn; rw [if_neg (by omega), if_pos q]
theorem mvn3 (q : 3 ≤ t.shape) : mvn t = 2 := by unfold mvn; rw [if_neg (by omega), if_neg (by omega)]
theorem TabS.cases3 (hs : TabS t) : t.shape = 1 ∨ t.shape = 2 ∨ 3 ≤ t.shape := by have := hs.shape; omega
theorem mvn_le (hs : TabS t) : mvn t ≤ 48 := by
  rcases hs.cases3 with q | q | q
  · have := hs.s1 q; rw [mvn1 q]; omega
  · rw [mvn2 q]; split <;> omega
  · rw [mvn3 q]; omega
theorem mvn_pos (hs : TabS t) : 2 ≤ mvn t := by
  rcases hs.cases3 with q | q | q
  · have := hs.s1 q; rw [mvn1 q]; omega
  · rw [mvn2 q]; split <;> omega
  · rw [mvn3 q]; omega
/-- A long table's move is one of four; with one head seat one of two. -/
theorem TabS.l2 (hs : TabS t) (q : t.shape = 2) {j : Nat} (hj : j < mvn t) : j = 0 ∨ j = 1 ∨ ((j = 2 ∨ j = 3) ∧ (t.B = 0 ∨ t.B = 2)) := by
  have := hs.s2 q
  rw [mvn2 q] at hj
  split at hj <;> omega
theorem mvg_b (hs : TabS t) {j : Nat} (hj : j < mvn t) {k : Int} (hk : 0 ≤ k ∧ k < tsize t) : 0 ≤ mvg t j k ∧ mvg t j k < tsize t := by
  rcases hs.cases3 with q | q | q
  · have := hs.s1 q
    rw [mvg1 q, this.2.2.2]
    rw [mvn1 q] at hj
    exact rgv_b hj ⟨hk.1, by omega⟩
  · have s := hs.s2 q
    have hk2 : 0 ≤ k ∧ k < 2 * t.A + t.B := by omega
    rcases hs.l2 q hj with rfl | rfl | ⟨rfl | rfl, hb⟩
    · rw [mvg2 q]; exact hk
    · rw [mvg2 q, s.2.2.2.2]; exact (sd_sd s.1 ⟨s.2.2.1, s.2.2.2.1⟩ hk2).2
    · rw [mvg2 q, s.2.2.2.2]; exact (en_en s.1 hb hk2).2
    · rw [mvg2 q, s.2.2.2.2]; exact (sd_sd s.1 ⟨s.2.2.1, s.2.2.2.1⟩ (en_en s.1 hb hk2).2).2
  · rw [mvn3 q] at hj
    match j, hj with
    | 0, _ => rw [mvg3 q]; exact hk
    | 1, _ => rw [mvg3 q]; show 0 ≤ tsize t - 1 - k ∧ tsize t - 1 - k < tsize t; omega
theorem mvg_one (hs : TabS t) {k : Int} (hk : 0 ≤ k ∧ k < tsize t) : mvg t 0 k = k := by
  rcases hs.cases3 with q | q | q
  · have := hs.s1 q
    rw [mvg1 q]; exact rgv_one ⟨hk.1, by omega⟩
  · exact mvg20 q k
  · exact mvg30 q k
theorem mvg_mul (hs : TabS t) {i j : Nat} (hi : i < mvn t) (hj : j < mvn t) : ∃ m, m < mvn t ∧ ∀ k, 0 ≤ k → k < tsize t → mvg t i (mvg t j k) = mvg t m k := by
  rcases hs.cases3 with q | q | q
  · have s := hs.s1 q
    rw [mvn1 q] at hi hj
    obtain ⟨m, h1, h2⟩ := rgv_mul hi hj
    refine ⟨m, by rw [mvn1 q]; exact h1, fun k k1 k2 => ?_⟩
    rw [mvg1 q, mvg1 q, mvg1 q]
    exact h2 k k1 (by omega)
  · have s := hs.s2 q
    have ss : ∀ k, 0 ≤ k → k < tsize t → sdF t.A t.B (sdF t.A t.B k) = k := fun k k1 k2 => (sd_sd s.1 ⟨s.2.2.1, s.2.2.2.1⟩ ⟨k1, by omega⟩).1
    have bs : ∀ k, 0 ≤ k → k < tsize t → 0 ≤ sdF t.A t.B k ∧ sdF t.A t.B k < tsize t := fun k k1 k2 => by
      have := (sd_sd (b := t.B) s.1 ⟨s.2.2.1, s.2.2.2.1⟩ (k := k) ⟨k1, by omega⟩).2
      omega
    rcases hs.l2 q hi with rfl | rfl | ⟨ei, hb⟩
    · exact ⟨j, hj, fun k k1 k2 => by rw [mvg20 q]⟩
    · rcases hs.l2 q hj with rfl | rfl | ⟨ej, hb⟩
      · exact ⟨1, hi, fun k k1 k2 => by rw [mvg20 q]⟩
      · exact ⟨0, by omega, fun k k1 k2 => by simp only [mvg2 q, lng]; exact ss k k1 k2⟩
      · have be : ∀ k, 0 ≤ k → k < tsize t → 0 ≤ enF t.A t.B k ∧ enF t.A t.B k < tsize t := fun k k1 k2 => by
          have := (en_en s.1 hb (k := k) ⟨k1, by omega⟩).2
          omega
        have hn : mvn t = 4 := by rw [mvn2 q, if_neg (by omega)]
        rcases ej with rfl | rfl
        · exact ⟨3, by omega, fun k k1 k2 => by simp only [mvg2 q, lng]⟩
        · exact ⟨2, by omega, fun k k1 k2 => by simp only [mvg2 q, lng]; exact ss _ (be k k1 k2).1 (be k k1 k2).2⟩
    · have hn : mvn t = 4 := by rw [mvn2 q, if_neg (by omega)]
      have ee : ∀ k, 0 ≤ k → k < tsize t → enF t.A t.B (enF t.A t.B k) = k := fun k k1 k2 => (en_en s.1 hb ⟨k1, by omega⟩).1
      have be : ∀ k, 0 ≤ k → k < tsize t → 0 ≤ enF t.A t.B k ∧ enF t.A t.B k < tsize t := fun k k1 k2 => by
        have := (en_en s.1 hb (k := k) ⟨k1, by omega⟩).2
        omega
      have es : ∀ k, 0 ≤ k → k < tsize t → enF t.A t.B (sdF t.A t.B k) = sdF t.A t.B (enF t.A t.B k) := fun k k1 k2 => en_sd s.1 hb ⟨k1, by omega⟩
      rcases ei with rfl | rfl
      · rcases hs.l2 q hj with rfl | rfl | ⟨rfl | rfl, -⟩
        · exact ⟨2, hi, fun k k1 k2 => by rw [mvg20 q]⟩
        · exact ⟨3, by omega, fun k k1 k2 => by simp only [mvg2 q, lng]; exact es k k1 k2⟩
        · exact ⟨0, by omega, fun k k1 k2 => by simp only [mvg2 q, lng]; exact ee k k1 k2⟩
        · exact ⟨1, by omega, fun k k1 k2 => by simp only [mvg2 q, lng]; rw [es _ (be k k1 k2).1 (be k k1 k2).2, ee k k1 k2]⟩
      · rcases hs.l2 q hj with rfl | rfl | ⟨rfl | rfl, -⟩
        · exact ⟨3, hi, fun k k1 k2 => by rw [mvg20 q]⟩
        · exact ⟨2, by omega, fun k k1 k2 => by simp only [mvg2 q, lng]; rw [es k k1 k2, ss _ (be k k1 k2).1 (be k k1 k2).2]⟩
        · exact ⟨1, by omega, fun k k1 k2 => by simp only [mvg2 q, lng]; rw [ee k k1 k2]⟩
        · exact ⟨0, by omega, fun k k1 k2 => by simp only [mvg2 q, lng]; rw [es _ (be k k1 k2).1 (be k k1 k2).2, ee k k1 k2, ss k k1 k2]⟩
  · rw [mvn3 q] at hi hj
    match i, hi, j, hj with
    | 0, _, j, hj => exact ⟨j, by rw [mvn3 q]; exact hj, fun k k1 k2 => by rw [mvg30 q]⟩
    | 1, _, 0, _ => exact ⟨1, by rw [mvn3 q]; omega, fun k k1 k2 => by rw [mvg30 q]⟩
    | 1, _, 1, _ => exact ⟨0, by rw [mvn3 q]; omega, fun k k1 k2 => by simp only [mvg3 q, shg]; omega⟩
theorem mvg_inv (hs : TabS t) {i : Nat} (hi : i < mvn t) : ∃ m, m < mvn t ∧ ∀ k, 0 ≤ k → k < tsize t → mvg t i (mvg t m k) = k ∧ mvg t m (mvg t i k) = k := by
  rcases hs.cases3 with q | q | q
  · have s := hs.s1 q
    rw [mvn1 q] at hi
    obtain ⟨m, h1, h2⟩ := rgv_inv hi
    refine ⟨m, by rw [mvn1 q]; exact h1, fun k k1 k2 => ?_⟩
    rw [mvg1 q, mvg1 q, mvg1 q, mvg1 q]
    exact h2 k k1 (by omega)
  · have s := hs.s2 q
    have ss : ∀ k, 0 ≤ k → k < tsize t → sdF t.A t.B (sdF t.A t.B k) = k := fun k k1 k2 => (sd_sd s.1 ⟨s.2.2.1, s.2.2.2.1⟩ ⟨k1, by omega⟩).1
    refine ⟨i, hi, fun k k1 k2 => ?_⟩
    rcases hs.l2 q hi with rfl | rfl | ⟨ei, hb⟩
    · simp only [mvg2 q, lng]; exact ⟨trivial, trivial⟩
    · simp only [mvg2 q, lng]; exact ⟨ss k k1 k2, ss k k1 k2⟩
    · have ee : ∀ k, 0 ≤ k → k < tsize t → enF t.A t.B (enF t.A t.B k) = k := fun k k1 k2 => (en_en s.1 hb ⟨k1, by omega⟩).1
      have be : ∀ k, 0 ≤ k → k < tsize t → 0 ≤ enF t.A t.B k ∧ enF t.A t.B k < tsize t := fun k k1 k2 => by
        have := (en_en s.1 hb (k := k) ⟨k1, by omega⟩).2
        omega
      have es : ∀ k, 0 ≤ k → k < tsize t → enF t.A t.B (sdF t.A t.B k) = sdF t.A t.B (enF t.A t.B k) := fun k k1 k2 => en_sd s.1 hb ⟨k1, by omega⟩
      have z : sdF t.A t.B (enF t.A t.B (sdF t.A t.B (enF t.A t.B k))) = k := by rw [es _ (be k k1 k2).1 (be k k1 k2).2, ee k k1 k2, ss k k1 k2]
      rcases ei with rfl | rfl
      · simp only [mvg2 q, lng]; exact ⟨ee k k1 k2, ee k k1 k2⟩
      · simp only [mvg2 q, lng]; exact ⟨z, z⟩
  · rw [mvn3 q] at hi
    refine ⟨i, by rw [mvn3 q]; exact hi, fun k k1 k2 => ?_⟩
    match i, hi with
    | 0, _ => simp only [mvg3 q, shg]; exact ⟨trivial, trivial⟩
    | 1, _ => simp only [mvg3 q, shg]; omega
theorem cand_b (hs : TabS t) {j k : Nat} (hj : j < mvn t) (hk : k < (tsize t).toNat) : 0 ≤ pAt (cand t j) k ∧ pAt (cand t j) k < tsize t := by
  rw [cand_at hk]
  exact mvg_b hs hj ⟨by omega, by omega⟩
end
/-- The j-th move keeps the table and the seats st. -/
def acc (t : Tab) (st : List Int) (j : Nat) : Prop := KeepP t (cand t j) ∧ ∀ x, x ∈ st → pAt (cand t j) x.toNat = x
/-- The turns of a table that keep the seats st, in order. -/
structure TurnL (t : Tab) (st : List Int) (ls : List (List Int)) : Prop where
  srt : ls.Pairwise ltL
  mem : ∀ p, p ∈ ls ↔ ∃ j, j < mvn t ∧ acc t st j ∧ p = cand t j
def StOk (t : Tab) (st : List Int) : Prop := ∀ x, x ∈ st → 0 ≤ x ∧ x < tsize t
def StayL (t : Tab) (st : List Int) (ls : List (List Int)) : Prop := (chk t = 0 ∧ StOk t st ∧ TurnL t st ls) ∨ (¬ (chk t = 0 ∧ StOk t st) ∧ ls = [])
/-- What the program's list gives: no repetitions, sorted. -/
theorem strict_pw {l : List PL} (h : StrictL l) : (l.map (·.2)).Pairwise ltL := by
  have H : ∀ d i, i + d + 1 < l.length → ltL (l.getD i default).2 (l.getD (i + d + 1) default).2 := by
    intro d
    induction d with
    | zero => intro i hi; exact h (i + 1) (by omega) (by omega)
    | succ d ih => intro i hi; exact ltL_trans (ih i (by omega)) (h (i + d + 2) (by omega) (by omega))
  rw [List.pairwise_iff_getElem]
  intro i j hi hj hij
  rw [List.length_map] at hi hj
  have := H (j - i - 1) i (by omega)
  rw [show i + (j - i - 1) + 1 = j by omega] at this
  simpa [List.getD_eq_getElem?_getD, hi, hj] using this
theorem tabS_chk {t : Tab} (h : chk t = 0) : TabS t := by
  refine TabS.of t ?_
  have := tsize_le t
  unfold chk at h
  repeat' split at h
  all_goals first | omega | skip
end Go.Proofs.Xx

/-
  Sorted lists of lists: putting in, looking up.
-/
namespace Go.Proofs.Xx
open Go Go.Proofs
set_option linter.unusedSimpArgs false
set_option linter.unusedVariables false

abbrev lAt (ls : List (List Int)) (i : Nat) : List Int := ls.getD i default
theorem lAt_mem {ls : List (List Int)} {p : List Int} : p ∈ ls ↔ ∃ i, i < ls.length ∧ lAt ls i = p := by
  rw [List.mem_iff_getElem]
  constructor
  · rintro ⟨k, hk, rfl⟩; exact ⟨k, hk, by simp [lAt, List.getD_eq_getElem?_getD, hk]⟩
  · rintro ⟨k, hk, rfl⟩; exact ⟨k, hk, by simp [lAt, List.getD_eq_getElem?_getD, hk]⟩
theorem pw_at {ls : List (List Int)} (h : ls.Pairwise ltL) {i j : Nat} (hij : i < j) (hj : j < ls.length) : ltL (lAt ls i) (lAt ls j) := by
  have := List.pairwise_iff_getElem.1 h i j (by omega) hj hij
  simpa [lAt, List.getD_eq_getElem?_getD, hj, show i < ls.length by omega] using this
/-- A list put in where it belongs. -/
theorem ins_mem {ls : List (List Int)} {p x : List Int} {at_ : Nat} : x ∈ ls.take at_ ++ [p] ++ ls.drop at_ ↔ x = p ∨ x ∈ ls := by
  have e : x ∈ ls ↔ x ∈ ls.take at_ ∨ x ∈ ls.drop at_ := by rw [← List.mem_append, List.take_append_drop]
  rw [e]
  simp only [List.mem_append, List.mem_singleton]
  constructor
  · rintro ((h | h) | h)
    · exact .inr (.inl h)
    · exact .inl h
    · exact .inr (.inr h)
  · rintro (h | h | h)
    · exact .inl (.inr h)
    · exact .inl (.inl h)
    · exact .inr h
theorem ins_pw {ls : List (List Int)} {p : List Int} {at_ : Nat} (h : ls.Pairwise ltL) (lo : ∀ i, i < at_ → i < ls.length → ltL (lAt ls i) p) (hi : at_ < ls.length → ltL p (lAt ls at_)) : (ls.take at_ ++ [p] ++ ls.drop at_).Pairwise ltL := by
  have e : ls.Pairwise ltL ↔ (ls.take at_ ++ ls.drop at_).Pairwise ltL := by rw [List.take_append_drop]
  have h' := List.pairwise_append.1 (e.1 h)
  have L : ∀ x, x ∈ ls.take at_ → ltL x p := fun x hx => by
    obtain ⟨i, hi, rfl⟩ := List.mem_iff_getElem.1 hx
    rw [List.length_take] at hi
    have := lo i (by omega) (by omega)
    simpa [lAt, List.getD_eq_getElem?_getD, show i < ls.length by omega] using this
  have R : ∀ x, x ∈ ls.drop at_ → ltL p x := fun x hx => by
    obtain ⟨i, hi', rfl⟩ := List.mem_iff_getElem.1 hx
    rw [List.length_drop] at hi'
    have h1 := hi (by omega)
    rcases Nat.eq_zero_or_pos i with rfl | z
    · simpa [lAt, List.getD_eq_getElem?_getD, show at_ < ls.length by omega] using h1
    · have := ltL_trans h1 (pw_at h (i := at_) (j := at_ + i) (by omega) (by omega))
      simpa [lAt, List.getD_eq_getElem?_getD, show at_ + i < ls.length by omega] using this
  rw [List.append_assoc]
  refine List.pairwise_append.2 ⟨h'.1, ?_, ?_⟩
  · rw [List.singleton_append, List.pairwise_cons]
    exact ⟨R, h'.2.1⟩
  · intro x hx y hy
    rw [List.singleton_append] at hy
    rcases List.mem_cons.1 hy with rfl | hy
    · exact L x hx
    · exact h'.2.2 x hx y hy
/-- What a binary search finds. -/
theorem found {ls : List (List Int)} {p : List Int} (h : ls.Pairwise ltL) {i : Nat} (lo : ∀ j, j < i → ltL (lAt ls j) p) (hi : ∀ j, i ≤ j → j < ls.length → ¬ ltL (lAt ls j) p) : (i < ls.length ∧ lAt ls i = p) ↔ p ∈ ls := by
  rw [lAt_mem]
  constructor
  · exact fun h => ⟨i, h.1, h.2⟩
  · rintro ⟨j, hj, rfl⟩
    rcases Nat.lt_trichotomy j i with q | rfl | q
    · exact absurd (lo j q) (ltL_irr _)
    · exact ⟨hj, rfl⟩
    · exact absurd (pw_at h q hj) (hi i (Nat.le_refl _) (by omega))
end Go.Proofs.Xx

/-
  The walk through a table's candidates: each move's list is yielded.
-/
namespace Go.Proofs.Xx
open Go Go.Proofs
set_option linter.unusedSimpArgs false
set_option linter.unusedVariables false
set_option maxRecDepth 100000

section
variable {P : Program} {X : Extern} {inR : Bool} {sz : Nat} {L : Ks} {h h0 : AH} {rs : List Rs} {ops : Array Oper} {os : List Oper} {o : Oper} {R : Ks → AH → Prop} {Q : KQ}
theorem K_seqm {a b : Code} {Q1 : KQ} (w : K P X inR sz a L h Q1) (e1 : ∀ L' h', Q1 .norm L' h' → K P X inR sz b L' h' Q) (e2 : ∀ x L' h', x ≠ .norm → Q1 x L' h' → Q x L' h') : K P X inR sz (.seq a b) L h Q :=
  K_seq (w.mono fun x L' h' q => by
    cases x with
    | norm => exact e1 _ _ q
    | exit id => exact e2 _ _ _ (by intro z; cases z) q
    | ret => exact e2 _ _ _ (by intro z; cases z) q)
/-- What holds behind the first three statements. -/
theorem K_cut3 {σ : Type} {a b c d : Code} (I : σ → AH → Prop) (sl : σ → Ks) (w1 : K P X inR sz a L h (thenK P X inR sz b (thenK P X inR sz c (cutB I sl Q)))) (w2 : ∀ s h', I s h' → K P X inR sz d (sl s) h' Q) : K P X inR sz (.seq a (.seq b (.seq c d))) L h Q :=
  K_seqm w1 (fun L' h' q => K_seqm q (fun L' h' q => K_cut I sl q w2) fun x L' h' hx q => by
    cases x with
    | norm => exact absurd rfl hx
    | exit id => exact q
    | ret => exact q) fun x L' h' hx q => by
    cases x with
    | norm => exact absurd rfl hx
    | exit id => exact q
    | ret => exact q
end
theorem Sep.perm {lo : Nat} {h : AH} {rs rs' : List Rs} (p : rs.Perm rs') : ∀ {U : Fp}, Sep lo h rs U → Sep lo h rs' U := by
  induction p with
  | nil => intro U k; exact k
  | cons x p ih => intro U ⟨fp, h1, h2, h3⟩; exact ⟨fp, h1, h2, ih h3⟩
  | swap x y l =>
    intro U ⟨fy, h1, h2, fx, g1, g2, g3⟩
    exact ⟨fx, g1, fun b hb => ⟨(g2 b hb).1, (g2 b hb).2.1, (g2 b hb).2.2.1⟩, fy, h1, fun b hb => ⟨(h2 b hb).1, (h2 b hb).2.1, (h2 b hb).2.2, fun q => (g2 b q).2.2.2 hb⟩, g3.mono fun b hb => ⟨⟨hb.1.1, hb.2⟩, hb.1.2⟩⟩
  | trans p q ih1 ih2 => intro U k; exact ih2 (ih1 k)
theorem Hs.perm {h0 h : AH} {rs rs' : List Rs} (S : Hs h0 h rs) (p : rs.Perm rs') : Hs h0 h rs' := ⟨S.ext, S.sep.perm p⟩
/-- A move's function, called. -/
theorem mv_fn {h0 h : AH} {rs : List Rs} {t : Tab} {fs : List FV} (S : Hs h0 h rs) (a : At rs (.any (MovR t fs))) {j : Nat} (hj : j < mvn t) (k : Int) (h1 : 0 ≤ k) (h2 : k < tsize t) : Fn Tryz.prog Xh (fs.getD j default).1 (.int .i64 k :: (fs.getD j default).2.toList) h (fun r h3 => r = .int .i64 (mvg t j k) ∧ Hs h h3 []) := by
  obtain ⟨fp, m⟩ := S.anyP a
  exact m.2 j hj h S.wf (fun _ _ => rfl) k h1 h2
theorem mv_len {h0 h : AH} {rs : List Rs} {t : Tab} {fs : List FV} (S : Hs h0 h rs) (a : At rs (.any (MovR t fs))) : fs.length = mvn t := by
  obtain ⟨fp, m⟩ := S.anyP a
  exact m.1
/-- What the yield has to give for the k-th candidate. -/
def YSpec (h0 : AH) (l : Nat) (t : Tab) (RS : Nat → List Rs → Prop) : Prop :=
  ∀ k rs own v h, k < mvn t → RS k rs → Hs h0 h (.sl v 3 1 eI (cand t k) :: (rs ++ own)) → Yd Tryz.prog Xh l [v] h (fun r h' => r = .bool true ∧ ∃ rs', RS (k + 1) rs' ∧ Hs h0 h' (rs' ++ own))
theorem cands_ok {h0 h : AH} {rs : List Rs} {bt l : Nat} (t : Tab) (hs : TabS t) (S : Hs h0 h (.blk bt (eT t) 25 :: rs)) (RS : Nat → List Rs → Prop) (hr : RS 0 rs) (Y : YSpec h0 l t RS) :
    Fn Tryz.prog Xh 139 [yv l, PT bt] h (fun _ h' => ∃ rs', RS (mvn t) rs' ∧ Hs h0 h' (.blk bt (eT t) 25 :: rs')) := by
  have hsp := hs.shape
  have hsz := tsize_le t
  have hpos := hs.pos
  obtain ⟨n, hn⟩ := Int.eq_ofNat_of_zero_le hsz.1
  refine Fn_K rfl Tryz.func139 rfl rfl ?_
  refine K_cut3 (σ := Value × List FV) (fun (vf, fs) h' => Hs h0 h' (.sl vf 152 1 eF fs :: .any (MovR t fs) :: .blk bt (eT t) 25 :: rs)) (fun (vf, fs) => [(0, yv l), (5, .int .i64 n), (24, vf), (25, .int .i64 fs.length), (26, .int .i64 0)]) ?_ ?_
  · all_goals (repeat' (first | (refine K_region (id := 0) ?_; refine vl ?_; refine lB S rfl rfl ?_)))
    (refine KO_fn rfl rfl rfl rfl rfl ((layoutOf_ok S.wf _).mono ?_); rintro _ h ⟨⟨rfl, hq⟩ | ⟨rfl, hq⟩ | ⟨rfl, hq⟩ | ⟨rfl, hq⟩ | ⟨rfl, hq⟩, x⟩) <;> (replace S := S.join0 x; clear x; refine mv ?_; refine vl ?_; refine vl ?_; (refine al S ?_; clear S; intro b h S); (first | (refine sB S rfl rfl ?_; clear S; intro h S)); refine mv ?_; refine KO_nil ?_)
    all_goals (try (exfalso; omega))
    all_goals (all_goals (repeat' (first | (refine K_region (id := 1) ?_; refine lB S rfl rfl ?_))))
    all_goals ((refine KO_fn rfl rfl rfl rfl rfl ((size_ok S.wf t).mono ?_); rintro _ h ⟨rfl, x⟩) <;> (replace S := S.join0 x; clear x; rw [hn]; refine mv ?_; refine KO_nil ?_))
    all_goals (all_goals (repeat' (first | (refine K_region (id := 2) ?_; refine vl ?_; refine lB S rfl rfl ?_; refine vl ?_; refine lB S rfl rfl ?_; refine vl ?_; refine lB S rfl rfl ?_))))
    · (refine KO_call rfl rfl rfl rfl ((roundMoves_okT S.wf t hs hq).mono ?_); rintro vf h ⟨fs, x⟩) <;> (replace S := S.join2 x; clear x; refine lnS S rfl rfl ?_; refine mv ?_; refine KO_nil ?_)
      all_goals (repeat' (fail))
      exact ⟨(vf, fs), S.del (.there (.there .here)), ((by repeat (first | exact Ks.le_nil _ | refine Ks.le_cons rfl ?_)))⟩
    · (refine KO_call rfl rfl rfl rfl ((longMoves_okT S.wf t hs hq).mono ?_); rintro vf h ⟨fs, x⟩) <;> (replace S := S.join2 x; clear x; refine lnS S rfl rfl ?_; refine mv ?_; refine KO_nil ?_)
      all_goals (repeat' (fail))
      exact ⟨(vf, fs), S.del (.there (.there .here)), ((by repeat (first | exact Ks.le_nil _ | refine Ks.le_cons rfl ?_)))⟩
    · (refine KO_call rfl rfl rfl rfl ((shoeMoves_okT S.wf t hs hq).mono ?_); rintro vf h ⟨fs, x⟩) <;> (replace S := S.join2 x; clear x; refine lnS S rfl rfl ?_; refine mv ?_; refine KO_nil ?_)
      all_goals (repeat' (fail))
      exact ⟨(vf, fs), S.del (.there (.there .here)), ((by repeat (first | exact Ks.le_nil _ | refine Ks.le_cons rfl ?_)))⟩
    · (refine KO_call rfl rfl rfl rfl ((rowMoves_okT S.wf t hs hq).mono ?_); rintro vf h ⟨fs, x⟩) <;> (replace S := S.join2 x; clear x; refine lnS S rfl rfl ?_; refine mv ?_; refine KO_nil ?_)
      all_goals (repeat' (fail))
      exact ⟨(vf, fs), S.del (.there (.there .here)), ((by repeat (first | exact Ks.le_nil _ | refine Ks.le_cons rfl ?_)))⟩
  clear S
  rintro ⟨vf, fs⟩ h S
  have hfl := mv_len S (.there .here)
  have hmv := mvn_le hs
  skip
  all_goals (repeat' (refine k_block ?_))
  refine k_loop (σ := Nat) (fun j h' => j ≤ mvn t ∧ ∃ rs', RS j rs' ∧ Hs h0 h' (.sl vf 152 1 eF fs :: .any (MovR t fs) :: .blk bt (eT t) 25 :: rs')) (fun j => mvn t - j) (fun j => [(0, yv l), (5, .int .i64 n), (24, vf), (25, .int .i64 fs.length), (26, .int .i64 j)]) 0 (by repeat (first | exact Ks.le_nil _ | refine Ks.le_cons rfl ?_)) ?_ ?_
  · exact ⟨Nat.zero_le _, rs, hr, S⟩
  clear S hr
  rintro j h ⟨hj, rs, hr, S⟩
  all_goals (repeat' (first | refine K_seq ?_ | refine k_cond rfl ?_ | refine K_skip ?_ | refine K_exit ?_ | refine k_block ?_ | (refine K_region (id := 3) ?_; (first | (refine cS ?_ ?_ <;> intro hc)) <;> (refine KO_nil ?_)) | (refine K_region (id := 4) ?_; refine ixS2 S rfl rfl ?_; refine lES2 S rfl rfl ?_; refine mv ?_; refine KO_nil ?_) | (refine K_region (id := 5) ?_; refine mv ?_)))
  · have hj' : j < mvn t := by omega
    simp only [Int.toNat_natCast]
    refine m_make (z := 1) (by_ := 8) (enc := eI) (y0 := 0) S rfl rfl rfl rfl rfl rfl rfl rfl rfl (by intro _; rfl) (by first | omega) rfl rfl ?_; clear S; intro v h S; refine mv ?_; refine KO_nil ?_
    simp only [Int.toNat_natCast] at S
    all_goals (repeat' (first | refine K_seq ?_ | refine k_block ?_ | (refine K_region (id := 6) ?_; refine mv ?_; refine lnS S rfl rfl ?_; refine mv ?_; refine KO_nil ?_)))
    refine k_loop (σ := Nat × List Int) (fun (k, p) h' => Hs h0 h' (.sl v 3 1 eI p :: .sl vf 152 1 eF fs :: .any (MovR t fs) :: .blk bt (eT t) 25 :: rs) ∧ p.length = n ∧ k ≤ n ∧ ∀ i, i < k → pAt p i = mvg t j i) (fun (k, p) => n - k) (fun (k, p) => [(0, yv l), (5, .int .i64 n), (7, .func (.func (fs.getD j default).1) #[] (fs.getD j default).2), (8, v), (24, vf), (25, .int .i64 fs.length), (26, .int .i64 j), (32, v), (33, .int .i64 n), (34, .int .i64 k)]) (0, List.replicate n 0) (by repeat (first | exact Ks.le_nil _ | refine Ks.le_cons rfl ?_ | refine Ks.le_int ?_)) ?_ ?_
    · exact ⟨S, by simp, Nat.zero_le _, fun i hi => by omega⟩
    clear S
    rintro ⟨k, p⟩ h ⟨S, h1, h2, h3⟩
    all_goals (repeat' (first | refine K_seq ?_ | refine k_cond rfl ?_ | refine K_skip ?_ | refine K_exit ?_ | refine k_block ?_ | (refine K_region (id := 7) ?_; (first | (refine cS ?_ ?_ <;> intro hc)) <;> (refine KO_nil ?_)) | (refine K_region (id := 8) ?_; refine mv ?_; refine mv ?_; refine KO_nil ?_) | (refine K_region (id := 9) ?_; refine mv ?_; refine mv ?_; refine mv ?_; refine mv ?_; skip) | (refine K_region (id := 11) ?_; refine mv ?_; refine mv ?_)))
    · have hk : k < n := by omega
      (refine KO_call rfl rfl rfl rfl ((mv_fn S (.there (.there .here)) hj' k (by omega) (by omega)).mono ?_); rintro _ h ⟨rfl, x⟩) <;> (replace S := S.join0 x; clear x; refine ixS2 S rfl rfl ?_; (first | (refine sE2 S rfl rfl ?_; clear S; intro h S)); refine KO_nil ?_)
      all_goals (repeat' (first | (refine K_region (id := 10) ?_; refine ad ?_; refine mv ?_; refine KO_nil ?_)))
      refine ⟨(k + 1, p.set k (mvg t j k)), ?_, ?_, (by repeat (first | exact Ks.le_nil _ | refine Ks.le_cons rfl ?_))⟩
      · show n - (k + 1) < n - k; omega
      · (try simp only [Int.toNat_natCast] at S)
        refine ⟨S, by simpa using h1, by omega, nxt (fun i hi => ?_) ?_⟩
        · rw [pAt_setV _ (by omega), if_neg (by omega)]; exact h3 i hi
        · rw [pAt_setV _ (by omega), if_pos rfl]
    · have hk : k = n := by omega
      subst hk
      have ep : p = cand t j := cand_is (by omega) fun i hi => h3 i (by omega)
      subst ep
      all_goals (repeat' (fail))
      have pm : (Rs.sl vf 152 1 eF fs :: .any (MovR t fs) :: .blk bt (eT t) 25 :: rs).Perm (rs ++ [Rs.sl vf 152 1 eF fs, .any (MovR t fs), .blk bt (eT t) 25]) := List.perm_append_comm (l₁ := [Rs.sl vf 152 1 eF fs, .any (MovR t fs), .blk bt (eT t) 25]) (l₂ := rs)
      refine KO_yield rfl rfl rfl rfl ((Y j rs _ v h hj' hr (S.perm (pm.cons _))).mono ?_)
      clear S hr
      rintro _ h ⟨rfl, rs', hr, S⟩
      replace S := S.perm (List.perm_append_comm (l₁ := rs') (l₂ := [Rs.sl vf 152 1 eF fs, .any (MovR t fs), .blk bt (eT t) 25]))
      refine vl ?_; refine KO_nil ?_
      all_goals (repeat' (first | refine k_cond rfl ?_ | refine K_skip ?_ | (refine K_region (id := 12) ?_; refine ad ?_; refine mv ?_; refine KO_nil ?_)))
      refine ⟨j + 1, ?_, ?_, (by repeat (first | exact Ks.le_nil _ | refine Ks.le_cons rfl ?_))⟩
      · show mvn t - (j + 1) < mvn t - j; omega
      · exact ⟨by omega, rs', hr, S⟩
  · have e : j = mvn t := by omega
    subst e
    all_goals (repeat' (fail))
    refine ⟨_, rfl, ?_⟩
    exact ⟨rs, hr, (S.del .here).del .here⟩
theorem candf_ok {h0 : AH} (w : WfH h0) (t : Tab) : Fn Tryz.prog Xh 95 [tabV t] h0 (fun v h' => ∃ b, v = .func (.func 139) #[] #[PT b] ∧ Hs h0 h' [.blk b (eT t) 25]) := by
  have S := Hs.start w
  refine Fn_K rfl Tryz.func95 rfl rfl ?_
  all_goals (repeat' (first | refine K_seq ?_ | (refine K_region (id := 0) ?_; (refine bx S ?_; clear S; intro b h S); refine mv ?_; refine KO_nil ?_) | (refine K_region (id := 1) ?_; refine vl ?_; refine mv ?_; refine KO_nil ?_)))
  refine K_ret ⟨_, rfl, ?_⟩
  exact ⟨_, rfl, S⟩
end Go.Proofs.Xx

/-
  The turns of a table that keep given seats: the program's Stay and Turns.
-/
namespace Go.Proofs.Xx
open Go Go.Proofs
set_option linter.unusedSimpArgs false
set_option linter.unusedVariables false
set_option maxRecDepth 100000

/-- Every list of LL is read from a slice of one's own. -/
def LLp (LL : List PL) (h : AH) (fp : Fp) : Prop := ∀ x, x ∈ LL → ∃ f : Fp, (∀ b, f b → fp b) ∧ (Rs.sl x.1.val 3 1 eI x.2).ok h f
theorem LLp.ok {LL : List PL} {h : AH} {fp : Fp} (k : LLp LL h fp) : (Rs.any (LLp LL)).ok h fp := fun h' q x hx => by
  obtain ⟨f, f1, f2⟩ := k x hx
  exact ⟨f, f1, f2.local fun b hb => q b (f1 b hb)⟩
theorem LLp.sub {LL MM : List PL} {h : AH} {fp : Fp} (k : LLp LL h fp) (s : ∀ x, x ∈ MM → x ∈ LL) : LLp MM h fp := fun x hx => k x (s x hx)
theorem LLp.rd {LL : List PL} {h : AH} {fp : Fp} (k : LLp LL h fp) {x : PL} (hx : x ∈ LL) : RdL h x.1.val 1 eI x.2 := by
  obtain ⟨f, -, k⟩ := k x hx
  rcases k with ⟨q1, q2⟩ | ⟨b, o, cc, slk, h1, h2, h3, h4, h5⟩
  · rw [q1, q2]; exact Rd.none_ h 1
  · exact .inr ⟨b, o, _, cc, _, slk, false, h1, h2, h4⟩
theorem Hs.pushP {h0 h : AH} {rs : List Rs} {x : PL} {LL : List PL} (S : Hs h0 h (.sl x.1.val 3 1 eI x.2 :: .any (LLp LL) :: rs)) : Hs h0 h (.any (LLp (LL ++ [x])) :: rs) :=
  S.merge fun f1 f2 k1 k2 => LLp.ok fun y hy => by
    rcases List.mem_append.1 hy with hy | hy
    · obtain ⟨f, q1, q2⟩ := k2 h (fun _ _ => rfl) y hy
      exact ⟨f, fun b hb => .inr (q1 b hb), q2⟩
    · obtain rfl : y = x := by simpa using hy
      exact ⟨f1, fun b hb => .inl hb, k1⟩
theorem Hs.subP {h0 h : AH} {rs : List Rs} {LL MM : List PL} (S : Hs h0 h (.any (LLp LL) :: rs)) (s : ∀ x, x ∈ MM → x ∈ LL) : Hs h0 h (.any (LLp MM) :: rs) :=
  S.conv fun fp k => LLp.ok ((k h fun _ _ => rfl).sub s)
theorem Hs.nilP {h0 h : AH} {rs : List Rs} (S : Hs h0 h rs) : Hs h0 h (.any (LLp []) :: rs) := S.anyS fun h' x hx => by cases hx
theorem Hs.nilRd {h0 h : AH} {rs : List Rs} {α : Type} {z : Nat} {enc : α → List Value} (S : Hs h0 h rs) : Hs h0 h (.rd (.slice none 0 0) z enc [] :: rs) :=
  S.grow (fp := fun _ => False) (Ext.refl S.wf) (.inl ⟨rfl, rfl⟩) fun b hb => hb.elim
theorem stay1_ok {h0 : AH} (w : WfH h0) (t : Tab) {b : Nat} (hb : h0.get b = some (.cells (eT t) 25 none false)) (k : Int) : Fn Tryz.prog Xh 94 [.int .i64 k, PT b] h0 (fun v h' => BoolIs v (k < 0 ∨ tsize t ≤ k) ∧ Hs h0 h' []) := by
  have S := Hs.start w
  refine Fn_K rfl Tryz.func94 rfl rfl ?_
  all_goals (repeat' (first | refine K_seq ?_ | refine k_cond rfl ?_ | refine K_skip ?_ | refine K_exit ?_ | refine k_block ?_ | refine K_scope ?_ | (refine K_region (id := 0) ?_; refine mv ?_; refine KO_nil ?_) | (refine K_region (id := 1) ?_; refine mv ?_; (first | refine cT ?_ | refine cF ?_ | (refine cS ?_ ?_ <;> intro hc)) <;> (refine mv ?_; (first | refine off ?_ | refine mv ?_); (first | refine off ?_ | (first | refine lB S rfl rfl ?_ | refine lES2 S rfl rfl ?_ | refine lEB S ?_ | refine lH S ?_)); (first | (refine off ?_; (first | refine off ?_ | (first | refine cT ?_ | refine cF ?_ | (refine cS ?_ ?_ <;> intro hc))) <;> (refine vl ?_; refine mv ?_; refine KO_nil ?_)) | skip)))))
  · refine K_ret ⟨_, rfl, ?_⟩
    exact ⟨.inl ⟨rfl, .inl hc⟩, S⟩
  · (refine KO_fn rfl rfl rfl rfl rfl ((size_ok S.wf t).mono ?_); rintro _ h ⟨rfl, x⟩) <;> (replace S := S.join0 x; clear x; (first | refine off ?_ | (first | refine cT ?_ | refine cF ?_ | (refine cS ?_ ?_ <;> intro hc))) <;> (refine vl ?_; refine mv ?_; refine KO_nil ?_))
    all_goals (repeat' (first | refine K_seq ?_ | refine k_cond rfl ?_ | refine K_skip ?_ | refine K_exit ?_ | refine k_block ?_ | refine K_scope ?_))
    all_goals (refine K_ret ⟨_, rfl, ?_⟩)
    · exact ⟨.inl ⟨rfl, .inr (by omega)⟩, S⟩
    · exact ⟨.inr ⟨rfl, by omega⟩, S⟩
theorem stay2_ok {h0 : AH} (w : WfH h0) {b : Nat} {pv : Value} {p : List Int} (hb : h0.get b = some (.cells [pv] 23 none false)) (hp : RdL h0 pv 1 eI p) (x : Int) (hx : 0 ≤ x ∧ x < p.length) : Fn Tryz.prog Xh 97 [.int .i64 x, PT b] h0 (fun v h' => BoolIs v (pAt p x.toNat ≠ x) ∧ Hs h0 h' []) := by
  have S := Hs.start w
  refine Fn_K rfl Tryz.func97 rfl rfl ?_
  all_goals (repeat' (first | refine K_seq ?_ | refine k_cond rfl ?_ | refine K_skip ?_ | refine K_exit ?_ | refine k_block ?_ | refine K_scope ?_ | (refine K_region (id := 0) ?_; refine mv ?_; refine KO_nil ?_) | (refine K_region (id := 1) ?_; (first | refine lB S rfl rfl ?_ | refine lES2 S rfl rfl ?_ | refine lEB S ?_ | refine lH S ?_); refine mv ?_; (first | refine ixB S ?_ | refine ixS2 S rfl rfl ?_); (first | refine lB S rfl rfl ?_ | refine lES2 S rfl rfl ?_ | refine lEB S ?_ | refine lH S ?_); refine mv ?_; (first | refine cT ?_ | refine cF ?_ | (refine cS ?_ ?_ <;> intro hc)) <;> (refine mv ?_; refine KO_nil ?_))))
  all_goals (refine K_ret ⟨_, rfl, ?_⟩)
  · exact ⟨.inl ⟨rfl, hc⟩, S⟩
  · exact ⟨.inr ⟨rfl, hc⟩, S⟩
theorem ltP_ord : WOrd (fun x y : PL => ltL x.2 y.2) where
  irr x := ltL_irr _
  tr := ltL_trans
  ntr := fun {x y z} h1 h2 h3 => by
    rcases ltL_tri x.2 y.2 with q | q | q
    · exact h2 (ltL_trans h3 q)
    · exact h2 (by rw [← q]; exact h3)
    · exact h1 q
/-- The candidates among the first k that are taken. -/
structure Took (t : Tab) (st : List Int) (k : Nat) (LL : List PL) : Prop where
  mem : ∀ p, p ∈ LL.map (·.2) ↔ ∃ j, j < k ∧ acc t st j ∧ p = cand t j
  len : LL.length ≤ k
theorem Took.zero {t : Tab} {st : List Int} : Took t st 0 [] := ⟨fun p => ⟨fun h => (List.not_mem_nil h).elim, fun ⟨j, h, _⟩ => by omega⟩, Nat.le_refl _⟩
theorem Took.yes {t : Tab} {st : List Int} {k : Nat} {LL : List PL} (T : Took t st k LL) (a : acc t st k) (s : SlV) : Took t st (k + 1) (LL ++ [(s, cand t k)]) := by
  refine ⟨fun p => ?_, by have := T.len; simp; omega⟩
  rw [List.map_append, List.mem_append, T.mem]
  constructor
  · rintro (⟨j, h1, h2⟩ | h)
    · exact ⟨j, by omega, h2⟩
    · exact ⟨k, by omega, a, by simpa using h⟩
  · rintro ⟨j, h1, h2, rfl⟩
    rcases Nat.lt_or_ge j k with q | q
    · exact .inl ⟨j, q, h2, rfl⟩
    · obtain rfl : j = k := by omega
      exact .inr (by simp)
theorem Took.no {t : Tab} {st : List Int} {k : Nat} {LL : List PL} (T : Took t st k LL) (a : ¬ acc t st k) : Took t st (k + 1) LL := by
  refine ⟨fun p => ?_, by have := T.len; omega⟩
  rw [T.mem]
  constructor
  · rintro ⟨j, h1, h2⟩
    exact ⟨j, by omega, h2⟩
  · rintro ⟨j, h1, h2⟩
    rcases Nat.lt_or_ge j k with q | q
    · exact ⟨j, q, h2⟩
    · obtain rfl : j = k := by omega
      exact absurd h2.1 a
theorem Took.lens {t : Tab} {st : List Int} {k : Nat} {LL : List PL} (T : Took t st k LL) {x : PL} (hx : x ∈ LL) : x.2.length = (tsize t).toNat := by
  obtain ⟨j, -, -, e⟩ := (T.mem x.2).1 (List.mem_map_of_mem hx)
  rw [e, cand_len]
theorem mem_getD {α : Type} [Inhabited α] {l : List α} {x : α} : x ∈ l ↔ ∃ i, i < l.length ∧ l.getD i default = x := by
  rw [List.mem_iff_getElem]
  constructor
  · rintro ⟨k, hk, rfl⟩; exact ⟨k, hk, by simp [List.getD_eq_getElem?_getD, hk]⟩
  · rintro ⟨k, hk, rfl⟩; exact ⟨k, hk, by simp [List.getD_eq_getElem?_getD, hk]⟩
theorem Took.fin {t : Tab} {st : List Int} {LL MM out : List PL} (T : Took t st (mvn t) LL) (pm : MM.Perm LL) (h1 : StrictL out) (h2 : SubP out MM) (h3 : CovP out MM) : TurnL t st (out.map (·.2)) ∧ ∀ x, x ∈ out → x ∈ LL := by
  have sub : ∀ x, x ∈ out → x ∈ LL := fun x hx => by
    obtain ⟨i, hi, rfl⟩ := mem_getD.1 hx
    obtain ⟨j, hj, e⟩ := h2 i hi
    rw [e]
    exact pm.mem_iff.1 (mem_getD.2 ⟨j, hj, rfl⟩)
  refine ⟨⟨strict_pw h1, fun p => ?_⟩, sub⟩
  rw [← T.mem]
  constructor
  · intro h
    obtain ⟨x, hx, rfl⟩ := List.mem_map.1 h
    exact List.mem_map_of_mem (sub x hx)
  · intro h
    obtain ⟨x, hx, rfl⟩ := List.mem_map.1 h
    obtain ⟨j, hj, rfl⟩ := mem_getD.1 (pm.mem_iff.2 hx)
    obtain ⟨i, hi, e⟩ := h3 j hj
    rw [← e]
    exact List.mem_map_of_mem (mem_getD.2 ⟨i, hi, rfl⟩)
/-- What the range over the candidates has of its own. -/
def StR (o : AObj) (l b5 b3 b2 : Nat) (sv : Value) (t : Tab) (st : List Int) (k : Nat) (rs : List Rs) : Prop :=
  ∃ (vs : SlV) (LL : List PL), Took t st k LL ∧ rs = [lpR l o, .blk b5 [vs.val] 53, .sl vs.val 23 1 eP LL, .any (LLp LL), .blk b3 [sv] 23, .blk b2 (eT t) 25]
theorem stay_ok {h0 : AH} (w : WfH h0) (t : Tab) (r : TabR h0 t) (sv : Value) (st : List Int) (hsv : RdL h0 sv 1 eI st) (hst : st.length ≤ 1000000) :
    Fn Tryz.prog Xh 40 [tabV t, sv] h0 (fun v h' => ∃ out : List PL, StayL t st (out.map (·.2)) ∧ Hs h0 h' [.rd v 1 eP out, .any (LLp out)]) := by
  obtain ⟨s0, rfl⟩ := hsv.isSl
  have S := Hs.start w
  refine Fn_K rfl Tryz.func40 rfl rfl ?_
  all_goals (repeat' (first | refine K_seq ?_ | refine k_cond rfl ?_ | refine K_skip ?_ | refine K_exit ?_ | refine k_block ?_ | refine K_scope ?_ | (refine K_region (id := 0) ?_; (refine bx S ?_; clear S; intro b h S); (refine bx S ?_; clear S; intro b h S); refine mv ?_; refine KO_nil ?_) | (refine K_region (id := 1) ?_; (first | refine lB S rfl rfl ?_ | refine lES2 S rfl rfl ?_ | refine lEB S ?_ | refine lH S ?_))))
  obtain ⟨b3, hnm⟩ : ∃ x, x = b := ⟨_, rfl⟩; subst hnm
  obtain ⟨b2, hnm⟩ : ∃ x, x = b := ⟨_, rfl⟩; subst hnm
  (refine KO_fn rfl rfl rfl rfl rfl ((check_ok S.wf t ⟨r.1.ext w S.ext, r.2⟩).mono ?_); rintro _ h ⟨rfl, x⟩) <;> (replace S := S.join0 x; clear x; (first | refine cT ?_ | refine cF ?_ | (refine cS ?_ ?_ <;> intro hc)) <;> (refine mv ?_; (first | refine off ?_ | (first | refine lB S rfl rfl ?_ | refine lES2 S rfl rfl ?_ | refine lEB S ?_ | refine lH S ?_)); (first | refine off ?_ | refine vl ?_); (first | (refine off ?_; refine vl ?_; refine KO_nil ?_) | skip)))
  · refine k_cond rfl ?_
    skip
    all_goals (repeat' (first | refine K_seq ?_ | refine k_cond rfl ?_ | refine K_skip ?_ | refine K_exit ?_ | refine k_block ?_ | refine K_scope ?_ | (refine K_region (id := 2) ?_; refine mv ?_; refine KO_nil ?_)))
    refine K_ret ⟨_, rfl, ?_⟩
    exact ⟨[], .inr ⟨fun q => hc q.1, rfl⟩, S.drop.nilP.nilRd⟩
  have hchk : chk t = 0 := by omega
  have hs := tabS_chk hchk
  (refine KO_fn rfl rfl rfl rfl rfl ((containsFunc_ok S.wf s0.val st (hsv.ext w S.ext) hst (94, #[PT b2]) (fun x => x < 0 ∨ tsize t ≤ x) (fun h1 i x _ _ => stay1_ok x.wf t (x.get S.wf (blk_get S (.there .here))) _)).mono ?_); rintro _ h ⟨⟨rfl, hq⟩ | ⟨rfl, hq⟩, x⟩) <;> (replace S := S.join0 x; clear x; refine vl ?_; refine KO_nil ?_)
  · all_goals (repeat' (first | refine K_seq ?_ | refine k_cond rfl ?_ | refine K_skip ?_ | refine K_exit ?_ | refine k_block ?_ | refine K_scope ?_ | (refine K_region (id := 2) ?_; refine mv ?_; refine KO_nil ?_) | (refine K_region (id := 3) ?_; (refine al S ?_; clear S; intro b h S); refine KO_nil ?_) | (refine K_region (id := 4) ?_; (first | refine lB S rfl rfl ?_ | refine lES2 S rfl rfl ?_ | refine lEB S ?_ | refine lH S ?_))))
    refine K_ret ⟨_, rfl, ?_⟩
    refine ⟨[], .inr ⟨fun q => ?_, rfl⟩, S.drop.nilP.nilRd⟩
    obtain ⟨i, hi, hq⟩ := hq
    have := q.2 _ (mem_getD.2 ⟨i, hi, rfl⟩)
    omega
  have hso : StOk t st := fun x hx => by
    obtain ⟨i, hi, rfl⟩ := mem_getD.1 hx
    have : ¬ (st.getD i default < 0 ∨ tsize t ≤ st.getD i default) := fun q => hq ⟨i, hi, q⟩
    omega
  clear hq
  all_goals (repeat' (first | refine K_seq ?_ | refine k_cond rfl ?_ | refine K_skip ?_ | refine K_exit ?_ | refine k_block ?_ | refine K_scope ?_ | (refine K_region (id := 2) ?_; refine mv ?_; refine KO_nil ?_) | (refine K_region (id := 3) ?_; (refine al S ?_; clear S; intro b h S); refine KO_nil ?_) | (refine K_region (id := 4) ?_; (first | refine lB S rfl rfl ?_ | refine lES2 S rfl rfl ?_ | refine lEB S ?_ | refine lH S ?_))))
  obtain ⟨b5, hnm⟩ : ∃ x, x = b := ⟨_, rfl⟩; subst hnm
  (refine KO_fn rfl rfl rfl rfl rfl ((candf_ok S.wf t).mono ?_); rintro _ h ⟨bt, rfl, x⟩) <;> (replace S := S.join1 x; clear x; refine KO_nil ?_)
  all_goals (repeat' (first | refine K_seq ?_ | refine k_cond rfl ?_ | refine K_skip ?_ | refine K_exit ?_ | refine k_block ?_ | refine K_scope ?_))
  refine K_range S rfl ?_
  intro l tt h1 hk S1
  clear S
  replace S1 := S1.nilP.nilS (α := PL) (e := 23) (z := 1) (enc := eP)
  have S := ((S1.front (.there (.there (.there (.there .here))))).front (.there (.there (.there .here)))).front (.there (.there (.there (.there .here))))
  refine (cands_ok t hs S (StR _ l b5 b3 b2 s0.val t st) ⟨⟨none, 0, 0⟩, [], .zero, rfl⟩ ?_).mono ?_
  · clear S S1
    rintro k rs own v h hk' ⟨vs, LL, T, rfl⟩ S
    simp only [List.cons_append, List.nil_append] at S
    have hll := T.len
    have hmn := mvn_le hs
    have htl := tsize_le t
    have hbd : ∀ i, i < st.length → 0 ≤ st.getD i default ∧ st.getD i default < ((cand t k).length : Int) := fun i hi => by
      have := hso _ (mem_getD.2 ⟨i, hi, rfl⟩)
      rw [cand_len]; omega
    have hcl : ((cand t k).length : Int) = tsize t := by rw [cand_len]; omega
    have hcb : ∀ i, i < (cand t k).length → 0 ≤ pAt (cand t k) i ∧ pAt (cand t k) i < tsize t := fun i hi => cand_b hs hk' (by rw [cand_len] at hi; exact hi)
    obtain ⟨pv, rfl⟩ := (Rd.of_sl S .here).isSl
    replace S := S.front (.there .here)
    refine Yd_S hk S rfl ?_
    skip
    all_goals (repeat' (first | refine K_seq ?_ | refine k_cond rfl ?_ | refine K_skip ?_ | refine K_exit ?_ | refine k_block ?_ | refine K_scope ?_ | (refine K_region (id := 5) ?_; (refine al S ?_; clear S; intro b h S); (first | (refine sB S rfl rfl ?_; clear S; intro h S) | (refine sE2 S rfl rfl ?_; clear S; intro h S)); refine KO_nil ?_)))
    obtain ⟨b6, hnm⟩ : ∃ x, x = b := ⟨_, rfl⟩; subst hnm
    refine ⟨rfl, _, S.front (.there .here), ?_⟩
    clear S
    intro h S
    skip
    all_goals (repeat' (first | refine K_seq ?_ | refine k_cond rfl ?_ | refine K_skip ?_ | refine K_exit ?_ | refine k_block ?_ | refine K_scope ?_ | (refine K_region (id := 6) ?_; (first | refine lB S rfl rfl ?_ | refine lES2 S rfl rfl ?_ | refine lEB S ?_ | refine lH S ?_); (first | refine lB S rfl rfl ?_ | refine lES2 S rfl rfl ?_ | refine lEB S ?_ | refine lH S ?_))))
    (refine KO_fn rfl rfl rfl rfl rfl ((keeps_ok S.wf t ⟨r.1.ext w S.ext, r.2⟩ hs pv.val (cand t k) (Rd.of_sl S (.there (.there .here))) hcl hcb).mono ?_); rintro _ h ⟨⟨rfl, hq⟩ | ⟨rfl, hq⟩, x⟩) <;> (replace S := S.join0 x; clear x; refine mv ?_; (first | refine off ?_ | (first | refine lB S rfl rfl ?_ | refine lES2 S rfl rfl ?_ | refine lEB S ?_ | refine lH S ?_)); (first | refine off ?_ | refine vl ?_); (first | (refine off ?_; (first | refine off ?_ | refine vl ?_); refine vl ?_; refine KO_nil ?_) | skip))
    · (refine KO_fn rfl rfl rfl rfl rfl ((containsFunc_ok S.wf s0.val st (hsv.ext w S.ext) hst (97, #[PT b6]) (fun x => pAt (cand t k) x.toNat ≠ x) (fun h1 i x hi _ => stay2_ok x.wf (x.get S.wf (blk_get S (.there .here))) ((Rd.of_sl S (.there (.there .here))).ext S.wf x) _ (hbd i hi))).mono ?_); rintro _ h ⟨⟨rfl, hq2⟩ | ⟨rfl, hq2⟩, x⟩) <;> (replace S := S.join0 x; clear x; (first | refine off ?_ | refine vl ?_); refine vl ?_; refine KO_nil ?_)
      · all_goals (repeat' (first | refine K_seq ?_ | refine k_cond rfl ?_ | refine K_skip ?_ | refine K_exit ?_ | refine k_block ?_ | refine K_scope ?_ | (refine K_region (id := 6) ?_; (first | refine lB S rfl rfl ?_ | refine lES2 S rfl rfl ?_ | refine lEB S ?_ | refine lH S ?_); (first | refine lB S rfl rfl ?_ | refine lES2 S rfl rfl ?_ | refine lEB S ?_ | refine lH S ?_))))
        replace S := (S.del (.there .here)).del (.there .here)
        refine ⟨rfl, _, S, fun h4 S => ⟨rfl, _, ⟨vs, _, T.no fun a => ?_, rfl⟩, S⟩⟩
        obtain ⟨i, hi, hq2⟩ := hq2
        exact hq2 (a.2 _ (mem_getD.2 ⟨i, hi, rfl⟩))
      · all_goals (repeat' (first | refine K_seq ?_ | refine k_cond rfl ?_ | refine K_skip ?_ | refine K_exit ?_ | refine k_block ?_ | refine K_scope ?_ | (refine K_region (id := 6) ?_; (first | refine lB S rfl rfl ?_ | refine lES2 S rfl rfl ?_ | refine lEB S ?_ | refine lH S ?_); (first | refine lB S rfl rfl ?_ | refine lES2 S rfl rfl ?_ | refine lEB S ?_ | refine lH S ?_)) | (refine K_region (id := 7) ?_; (first | refine lB S rfl rfl ?_ | refine lES2 S rfl rfl ?_ | refine lEB S ?_ | refine lH S ?_); (first | refine lB S rfl rfl ?_ | refine lES2 S rfl rfl ?_ | refine lEB S ?_ | refine lH S ?_); (refine one 1 S ?_; clear S; intro u h S))))
        refine app (y0 := (pv, cand t k)) S rfl rfl ?_; clear S; intro v h S; obtain ⟨v2, rfl⟩ := (Rd.of_sl S .here).isSl; (first | (refine sB S rfl rfl ?_; clear S; intro h S) | (refine sE2 S rfl rfl ?_; clear S; intro h S)); refine KO_nil ?_
        all_goals (repeat' (first | refine K_seq ?_ | refine k_cond rfl ?_ | refine K_skip ?_ | refine K_exit ?_ | refine k_block ?_ | refine K_scope ?_ | (refine K_region (id := 6) ?_; (first | refine lB S rfl rfl ?_ | refine lES2 S rfl rfl ?_ | refine lEB S ?_ | refine lH S ?_); (first | refine lB S rfl rfl ?_ | refine lES2 S rfl rfl ?_ | refine lEB S ?_ | refine lH S ?_)) | (refine K_region (id := 7) ?_; (first | refine lB S rfl rfl ?_ | refine lES2 S rfl rfl ?_ | refine lEB S ?_ | refine lH S ?_); (first | refine lB S rfl rfl ?_ | refine lES2 S rfl rfl ?_ | refine lEB S ?_ | refine lH S ?_); (refine one 1 S ?_; clear S; intro u h S))))
        replace S := (S.front (.there (.there (.there (.there (.there .here)))))).front (.there (.there (.there (.there .here))))
        replace S := Hs.pushP (x := (pv, cand t k)) S
        replace S := ((S.front (.there .here)).front (.there (.there (.there (.there .here))))).front (.there (.there (.there .here)))
        replace S := S.del (.there (.there (.there (.there .here))))
        refine ⟨rfl, _, S, fun h4 S => ⟨rfl, _, ⟨v2, _, T.yes ⟨hq, fun x hx => ?_⟩ pv, rfl⟩, S⟩⟩
        obtain ⟨i, hi, rfl⟩ := mem_getD.1 hx
        exact Classical.not_not.1 fun z => hq2 ⟨i, hi, z⟩
    · all_goals (repeat' (first | refine K_seq ?_ | refine k_cond rfl ?_ | refine K_skip ?_ | refine K_exit ?_ | refine k_block ?_ | refine K_scope ?_ | (refine K_region (id := 6) ?_; (first | refine lB S rfl rfl ?_ | refine lES2 S rfl rfl ?_ | refine lEB S ?_ | refine lH S ?_); (first | refine lB S rfl rfl ?_ | refine lES2 S rfl rfl ?_ | refine lEB S ?_ | refine lH S ?_))))
      replace S := (S.del (.there .here)).del (.there .here)
      exact ⟨rfl, _, S, fun h4 S => ⟨rfl, _, ⟨vs, _, T.no fun a => hq a.1, rfl⟩, S⟩⟩
  · clear S S1
    rintro _ h ⟨rs', ⟨vs, LL, T, rfl⟩, S⟩
    refine ⟨_, S.front (.there .here), ?_⟩
    clear S
    intro h S
    have hll := T.len
    have hmn := mvn_le hs
    have htl := tsize_le t
    skip
    all_goals (repeat' (first | refine K_seq ?_ | refine k_cond rfl ?_ | refine K_skip ?_ | refine K_exit ?_ | refine k_block ?_ | refine K_scope ?_ | (refine K_region (id := 8) ?_; (first | refine lB S rfl rfl ?_ | refine lES2 S rfl rfl ?_ | refine lEB S ?_ | refine lH S ?_))))
    replace S := S.front (.there (.there .here))
    have C : CmpFn h0 vs.val [.blk bt (eT t) 25, .blk b5 [vs.val] 53, .any (LLp LL), .blk b3 [s0.val] 23, .blk b2 (eT t) 25] 57 [] (fun x y => ltL x.2 y.2) (fun x => x ∈ LL) := fun h l x y S hx hy => by
      obtain ⟨fp, k⟩ := S.anyP (.there (.there (.there .here)))
      refine (compare_ok S.wf _ _ x.2 y.2 (k.rd hx) (k.rd hy) (by rw [T.lens hx]; omega) (by rw [T.lens hy]; omega)).mono ?_
      rintro v h' ⟨d, rfl, c, xx⟩
      refine ⟨d, rfl, ?_, xx⟩
      rcases c with ⟨c1, c2⟩ | ⟨c1, c2⟩ | ⟨c1, c2⟩
      · exact .inl ⟨c1, c2⟩
      · exact .inr ⟨by omega, fun q => by
          have q : ltL x.2 y.2 := q
          rw [c2] at q
          exact ltL_irr _ q⟩
      · exact .inr ⟨by omega, fun q => ltL_asym q c2⟩
    have E : EqFn h0 vs.val [.blk bt (eT t) 25, .blk b5 [vs.val] 53, .any (LLp LL), .blk b3 [s0.val] 23, .blk b2 (eT t) 25] (fun x => x ∈ LL) := fun h l x y S hx hy => by
      obtain ⟨fp, k⟩ := S.anyP (.there (.there (.there .here)))
      exact equal_ok S.wf _ _ x.2 y.2 (k.rd hx) (k.rd hy) (by rw [T.lens hx]; omega) (by rw [T.lens hy]; omega)
    (refine KO_fn rfl rfl rfl rfl rfl ((sort_c S C (fun k hk => mem_getD.2 ⟨k, hk, rfl⟩) ltP_ord (by omega)).mono ?_); rintro _ h ⟨MM, sw, srt, S2⟩) <;> (replace S := S2; clear S2; refine KO_nil ?_)
    have pm := sw.perm
    have pl := pm.length_eq
    all_goals (repeat' (first | refine K_seq ?_ | refine k_cond rfl ?_ | refine K_skip ?_ | refine K_exit ?_ | refine k_block ?_ | refine K_scope ?_ | (refine K_region (id := 8) ?_; (first | refine lB S rfl rfl ?_ | refine lES2 S rfl rfl ?_ | refine lEB S ?_ | refine lH S ?_)) | (refine K_region (id := 9) ?_; (first | refine lB S rfl rfl ?_ | refine lES2 S rfl rfl ?_ | refine lEB S ?_ | refine lH S ?_))))
    (refine KO_fn rfl rfl rfl rfl rfl ((compactF_ok S (by omega) E (fun k hk => pm.mem_iff.1 (mem_getD.2 ⟨k, hk, rfl⟩)) (fun i j q1 q2 => (Nat.eq_or_lt_of_le q1).elim (fun e => e ▸ ltL_irr _) fun q => srt i j (Nat.zero_le _) q (by omega))).mono ?_); rintro rv h ⟨out, o1, o2, o3, o4, S2⟩) <;> (replace S := S2; clear S2; refine mv ?_; refine KO_nil ?_)
    all_goals (repeat' (first | refine K_seq ?_ | refine k_cond rfl ?_ | refine K_skip ?_ | refine K_exit ?_ | refine k_block ?_ | refine K_scope ?_))
    refine K_ret ⟨_, rfl, ?_⟩
    have F := T.fin pm o1 o2 o3
    replace S := ((S.front (.there (.there (.there .here)))).subP F.2).front (.there .here)
    iterate 4 replace S := S.del (.there (.there .here))
    exact ⟨out, .inl ⟨hchk, hso, F.1⟩, S⟩
theorem turns_ok {h0 : AH} (w : WfH h0) (t : Tab) (r : TabR h0 t) : Fn Tryz.prog Xh 39 [tabV t] h0 (fun v h' => ∃ out : List PL, StayL t [] (out.map (·.2)) ∧ Hs h0 h' [.rd v 1 eP out, .any (LLp out)]) := by
  have S := Hs.start w
  refine Fn_K rfl Tryz.func39 rfl rfl ?_
  all_goals (repeat' (first | refine K_seq ?_ | refine k_cond rfl ?_ | refine K_skip ?_ | refine K_exit ?_ | refine k_block ?_ | refine K_scope ?_ | (refine K_region (id := 0) ?_; (refine bx S ?_; clear S; intro b h S); refine mv ?_; refine KO_nil ?_) | (refine K_region (id := 1) ?_; (first | refine lB S rfl rfl ?_ | refine lES2 S rfl rfl ?_ | refine lEB S ?_ | refine lH S ?_))))
  (refine KO_fn rfl rfl rfl rfl rfl ((stay_ok S.wf t ⟨r.1.ext w S.ext, r.2⟩ (.slice none 0 0) [] (Rd.none_ _ 1) (Nat.zero_le _)).mono ?_); rintro v h ⟨out, ho, x⟩) <;> (replace S := S.join2 x; clear x; refine mv ?_; refine KO_nil ?_)
  all_goals (repeat' (first | refine K_seq ?_ | refine k_cond rfl ?_ | refine K_skip ?_ | refine K_exit ?_ | refine k_block ?_ | refine K_scope ?_))
  refine K_ret ⟨_, rfl, ?_⟩
  exact ⟨out, ho, S.del (.there (.there .here))⟩
end Go.Proofs.Xx

/-
  Lists of lists: read as such; written to.
-/
namespace Go.Proofs.Xx
open Go Go.Proofs
set_option linter.unusedSimpArgs false
set_option linter.unusedVariables false
set_option maxRecDepth 100000

theorem RLL.ofP {h : AH} {v : Value} {LL : List PL} {fp : Fp} (hr : RdL h v 1 eP LL) (k : LLp LL h fp) : RLL h v (LL.map (·.2)) := by
  refine ⟨LL.map (·.1.val), ?_, by simp, fun j hj => ?_⟩
  · have e : (LL.map (·.1.val)).flatMap eV = LL.flatMap eP := by rw [List.flatMap_map]; rfl
    show Rd h v 1 (LL.map (·.1.val)).length ((LL.map (·.1.val)).flatMap eV)
    rw [List.length_map, e]; exact hr
  · have hj : j < LL.length := by simpa using hj
    have := k.rd (mem_getD.2 ⟨j, hj, rfl⟩)
    simpa [List.getD_eq_getElem?_getD, hj] using this
theorem TurnL.len {t : Tab} {st : List Int} {ls : List (List Int)} (H : TurnL t st ls) : ls.length ≤ mvn t := by
  have := nodup_len (m := (List.range (mvn t)).map (cand t)) (pw_nodup ltL_irr H.srt) fun p hp => by
    obtain ⟨j, hj, -, rfl⟩ := (H.mem p).1 hp
    exact List.mem_map_of_mem (List.mem_range.2 hj)
  simpa using this
theorem StayL.len {t : Tab} {st : List Int} {ls : List (List Int)} (H : StayL t st ls) : ls.length ≤ 48 := by
  rcases H with ⟨h1, -, h⟩ | ⟨-, rfl⟩
  · have := h.len
    have := mvn_le (tabS_chk h1)
    omega
  · exact Nat.zero_le _
theorem StayL.lens {t : Tab} {st : List Int} {ls : List (List Int)} (H : StayL t st ls) {p : List Int} (hp : p ∈ ls) : p.length = (tsize t).toNat := by
  rcases H with ⟨-, -, h⟩ | ⟨-, rfl⟩
  · obtain ⟨j, -, -, rfl⟩ := (h.mem p).1 hp
    exact cand_len t j
  · cases hp
theorem StayL.lensD {t : Tab} {st : List Int} {ls : List (List Int)} (H : StayL t st ls) {j : Nat} (hj : j < ls.length) : (ls.getD j default).length ≤ 1000000 := by
  have := H.lens (mem_getD.2 ⟨j, hj, rfl⟩)
  have := tsize_le t
  omega
theorem TurnL.same {t : Tab} {s : SlV} {st : List Int} {ls : List (List Int)} (H : TurnL { t with os := s } st ls) : TurnL t st ls := ⟨H.srt, fun p => H.mem p⟩
theorem StayL.same {t u : Tab} {st : List Int} {ls : List (List Int)} (e : SameTab u t) (H : StayL u st ls) : StayL t st ls := by
  unfold SameTab at e
  generalize u.os = s at e
  subst e
  rcases H with ⟨h1, h2, h3⟩ | ⟨h1, h2⟩
  · exact .inl ⟨h1, h2, h3.same⟩
  · exact .inr ⟨h1, h2⟩
/-- The lists of LL may be written to. -/
def LLw (LL : List PL) (h : AH) (fp : Fp) : Prop := ∀ x, x ∈ LL → (x.1.val = .slice none 0 0 ∧ x.2 = []) ∨ ∃ b o cc slk, x.1.val = .slice (some ⟨b, o, none⟩) x.2.length x.2.length ∧ h.get b = some (.cells cc 3 slk false) ∧ fp b ∧ o + x.2.length ≤ cc.length
theorem LLw.ok {LL : List PL} {h : AH} {fp : Fp} (k : LLw LL h fp) : (Rs.any (LLw LL)).ok h fp := fun h' q x hx => by
  rcases k x hx with q1 | ⟨b, o, cc, slk, h1, h2, h3, h4⟩
  · exact .inl q1
  · exact .inr ⟨b, o, cc, slk, h1, by rw [q b h3]; exact h2, h3, h4⟩
theorem LLw.rd {LL : List PL} {h : AH} {fp : Fp} (k : LLw LL h fp) {x : PL} (hx : x ∈ LL) : ∃ c, Rd h x.1.val 1 x.2.length c := by
  rcases k x hx with ⟨q1, q2⟩ | ⟨b, o, cc, slk, h1, h2, h3, h4⟩
  · rw [q1, q2]; exact ⟨_, Rd.none_ h 1⟩
  · rw [h1]
    have : takeAt cc o (x.2.length * 1) = some ((cc.drop o).take x.2.length) := by
      unfold takeAt
      rw [Nat.mul_one]
      have z : Nat.beq ((cc.drop o).take x.2.length).length x.2.length = true := by
        rw [show ((cc.drop o).take x.2.length).length = x.2.length by simp; omega]
        exact Nat.beq_refl _
      simp only [z]
    exact ⟨_, .inr ⟨b, o, _, cc, _, slk, false, rfl, h2, this⟩⟩
section
variable {X : Extern} {sz : Nat} {L : Ks} {h h0 : AH} {rs : List Rs} {ops : Array Oper} {os : List Oper} {o : Oper} {R : Ks → AH → Prop}
end
section
variable {P : Program} {sz : Nat} {L : Ks} {h h0 : AH} {rs : List Rs} {ops : Array Oper}
theorem HintOk.ld {j : Nat} (k : Nat) {o ok : Oper} {x : Option Nat} {y : Operand} {ty e e2 : TypeId} {b : Nat} {c c2 : List Value} {v : Value} {L' : Ks} (S : Hs h0 h rs) (hi : At rs (.blk b c e)) (hp : predsOf ops (masks ops.toList []) j = [k] := by decide +kernel) (ho : ops[j]? = some o := by exact rfl) (hok : ops[k]? = some ok := by exact rfl) (hko : ok.op = .load ty y := by exact rfl)
    (hy : kA L y = some (.pointer (some ⟨b, 0, none⟩)) := by exact rfl) (hv : loadC P ty c 0 = some v := by exact rfl) (hg : guardA ops L.tree ok.guard = some true := by exact rfl) (hd : putK sz L ok.dst v = some L' := by exact rfl) (hf : aFloat P L'.tree o.op = some (x, c2, e2) := by exact rfl) : HintOk P ops sz L h j c2 e2 :=
  HintOk.one (h' := h) hp ho hok hg (by rw [hko]; simp only [aOp, tree_le hy, aLoad_loadC (blk_get S hi), hv, nextOf]) hd hf
end
end Go.Proofs.Xx

/-
  A list looked up in a sorted list of lists.
-/
namespace Go.Proofs.Xx
open Go Go.Proofs
set_option linter.unusedSimpArgs false
set_option linter.unusedVariables false
set_option maxRecDepth 100000

theorem pw_up {ls : List (List Int)} {p : List Int} (h : ls.Pairwise ltL) {m : Nat} (hm : m < ls.length) (hn : ¬ ltL (lAt ls m) p) : ∀ j, m ≤ j → j < ls.length → ¬ ltL (lAt ls j) p := fun j h1 h2 q => by
  rcases Nat.eq_or_lt_of_le h1 with e | e
  · subst e; exact hn q
  · exact hn (ltL_trans (pw_at h e h2) q)
theorem pw_lo {ls : List (List Int)} {p : List Int} (h : ls.Pairwise ltL) {m : Nat} (hm : m < ls.length) (hn : ltL (lAt ls m) p) : ∀ j, j < m + 1 → ltL (lAt ls j) p := fun j h1 => by
  rcases Nat.eq_or_lt_of_le (Nat.le_of_lt_succ h1) with e | e
  · subst e; exact hn
  · exact ltL_trans (pw_at h e hm) hn
theorem search_ok {h0 : AH} (w : WfH h0) (v u : Value) (ls : List (List Int)) (p : List Int) (hv : RLL h0 v ls) (hu : RdL h0 u 1 eI p) (hl : ls.length ≤ 1000000) (hb : ∀ j, j < ls.length → (ls.getD j default).length ≤ 1000000) (hp : p.length ≤ 1000000) (hs : ls.Pairwise ltL) :
    Fn Tryz.prog Xh 100 [v, u, .func (.func 57) #[] #[]] h0 (fun r h' => ∃ i q, r = .tuple #[.int .i64 i, q] ∧ BoolIs q (p ∈ ls) ∧ Hs h0 h' []) := by
  have S := Hs.start w
  obtain ⟨vs, hr, hvl, hk⟩ := hv
  refine Fn_K rfl Tryz.func100 rfl rfl ?_
  all_goals (repeat' (first | refine K_seq ?_ | refine k_block ?_ | (refine K_region (id := 0) ?_; refine mv ?_; refine mv ?_; refine KO_nil ?_) | (refine K_region (id := 1) ?_; refine mv ?_; refine lnB S ?_; refine mv ?_; refine KO_nil ?_) | (refine K_region (id := 2) ?_; refine mv ?_; refine mv ?_; refine mv ?_; refine KO_nil ?_)))
  refine k_loop (σ := Nat × Nat) (fun (a, b) h' => Hs h0 h' [] ∧ a ≤ b ∧ b ≤ ls.length ∧ (∀ j, j < a → ltL (lAt ls j) p) ∧ (∀ j, b ≤ j → j < ls.length → ¬ ltL (lAt ls j) p)) (fun (a, b) => b - a) (fun (a, b) => [(0, v), (1, u), (2, .func (.func 57) #[] #[]), (8, .int .i64 ls.length), (9, .int .i64 a), (10, .int .i64 b)]) (0, ls.length) (by repeat (first | exact Ks.le_nil _ | refine Ks.le_cons rfl ?_ | refine Ks.le_int ?_)) ?_ ?_
  · exact ⟨S, Nat.zero_le _, Nat.le_refl _, fun j hj => absurd hj (Nat.not_lt_zero _), fun j h1 h2 => by omega⟩
  clear S
  rintro ⟨a, b⟩ h ⟨S, h1, h2, h3, h4⟩
  all_goals (repeat' (first | refine K_seq ?_ | refine k_cond rfl ?_ | refine K_skip ?_ | refine K_exit ?_ | refine k_block ?_ | (refine K_region (id := 3) ?_; refine mv ?_; refine mv ?_; (first | (refine cS ?_ ?_ <;> intro hc)) <;> (refine KO_nil ?_)) | (refine K_region (id := 4) ?_; refine mv ?_; refine mv ?_; refine ad ?_; refine cW ?_; refine sR1 ?_; refine cI ?_; refine mv ?_; refine KO_nil ?_) | (refine K_region (id := 5) ?_; refine mv ?_; refine mv ?_; refine mv ?_; refine ixB S ?_; refine lEB S ?_; refine mv ?_)))
  · have hab : a < b := by omega
    obtain ⟨m, hm⟩ : ∃ m : Nat, ((a : Int) + b) / 2 = m := ⟨(a + b) / 2, by omega⟩
    have hml : m < ls.length := by omega
    simp only [hm, Int.toNat_natCast]
    (refine KO_call rfl rfl rfl rfl ((compare_ok S.wf (vs.getD m default) u (ls.getD m default) p ((hk m hml).ext w S.ext) (hu.ext w S.ext) (hb m hml) hp).mono ?_); rintro _ h ⟨d, rfl, hd, x⟩) <;> (replace S := S.join0 x; clear x; (first | (refine cS ?_ ?_ <;> intro hc)) <;> (refine KO_nil ?_))
    all_goals (repeat' (first | refine k_cond rfl ?_ | (refine K_region (id := 6) ?_; refine mv ?_; refine ad ?_; refine mv ?_; refine KO_nil ?_) | (refine K_region (id := 7) ?_; refine mv ?_; refine mv ?_; refine KO_nil ?_)))
    · refine ⟨(m + 1, b), ?_, ?_, (by repeat (first | exact Ks.le_nil _ | refine Ks.le_cons rfl ?_))⟩
      · show b - (m + 1) < b - a; omega
      · refine ⟨S, by omega, h2, pw_lo hs hml ?_, h4⟩
        rcases hd with ⟨q1, q2⟩ | ⟨q1, q2⟩ | ⟨q1, q2⟩
        · exact q2
        · omega
        · omega
    · refine ⟨(a, m), ?_, ?_, (by repeat (first | exact Ks.le_nil _ | refine Ks.le_cons rfl ?_))⟩
      · show m - a < b - a; omega
      · refine ⟨S, by omega, by omega, h3, pw_up hs hml ?_⟩
        rcases hd with ⟨q1, q2⟩ | ⟨q1, q2⟩ | ⟨q1, q2⟩
        · omega
        · show ¬ ltL (ls.getD m default) p
          rw [q2]; exact ltL_irr _
        · exact fun q => ltL_asym q q2
  · have e : b = a := by omega
    subst e
    have hf := found hs h3 h4
    skip
    all_goals (repeat' (first | (refine K_region (id := 8) ?_; refine mv ?_; refine mv ?_; refine mv ?_; (first | (refine cS ?_ ?_ <;> intro hc)) <;> (refine mv ?_; (first | refine off ?_ | refine mv ?_); (first | refine off ?_ | refine mv ?_); (first | refine off ?_ | refine mv ?_); (first | refine off ?_ | (refine ixB S ?_)); (first | refine off ?_ | (refine lEB S ?_)); (first | refine off ?_ | refine mv ?_); (first | (refine off ?_; (refine off ?_) <;> (refine vl ?_; refine mv ?_; refine mv ?_; refine KO_nil ?_)) | skip)))))
    · have hbl : b < ls.length := by omega
      simp only [Int.toNat_natCast]
      (refine KO_call rfl rfl rfl rfl ((compare_ok S.wf (vs.getD b default) u (ls.getD b default) p ((hk b hbl).ext w S.ext) (hu.ext w S.ext) (hb b hbl) hp).mono ?_); rintro _ h ⟨d, rfl, hd, x⟩) <;> (replace S := S.join0 x; clear x; (first | (first | (refine cS ?_ ?_ <;> intro hc))) <;> (refine vl ?_; refine mv ?_; refine mv ?_; refine KO_nil ?_))
      all_goals (repeat' (fail))
      all_goals (refine K_ret ⟨_, rfl, ?_⟩)
      · refine ⟨_, _, rfl, .inl ⟨rfl, hf.1 ⟨hbl, ?_⟩⟩, S⟩
        rcases hd with ⟨q1, q2⟩ | ⟨q1, q2⟩ | ⟨q1, q2⟩
        · omega
        · exact q2
        · omega
      · refine ⟨_, _, rfl, .inr ⟨rfl, fun q => ?_⟩, S⟩
        have q := (hf.2 q).2
        rcases hd with ⟨q1, q2⟩ | ⟨q1, q2⟩ | ⟨q1, q2⟩
        · exact ltL_irr _ (show ltL p p from (show ls.getD b default = p from q) ▸ q2)
        · omega
        · exact ltL_irr _ (show ltL p p from (show ls.getD b default = p from q) ▸ q2)
    · refine K_ret ⟨_, rfl, ?_⟩
      exact ⟨_, _, rfl, .inr ⟨rfl, fun q => by have := (hf.2 q).1; omega⟩, S⟩
theorem there_ok {h0 : AH} (w : WfH h0) (v u : Value) (ls : List (List Int)) (p : List Int) (hv : RLL h0 v ls) (hu : RdL h0 u 1 eI p) (hl : ls.length ≤ 1000000) (hb : ∀ j, j < ls.length → (ls.getD j default).length ≤ 1000000) (hp : p.length ≤ 1000000) (hs : ls.Pairwise ltL) :
    Fn Tryz.prog Xh 41 [v, u] h0 (fun r h' => BoolIs r (p ∈ ls) ∧ Hs h0 h' []) := by
  have S := Hs.start w
  refine Fn_K rfl Tryz.func41 rfl rfl ?_
  all_goals (repeat' (first | refine K_seq ?_ | (refine K_region (id := 0) ?_; refine mv ?_; refine KO_nil ?_) | (refine K_region (id := 1) ?_; refine mv ?_; refine mv ?_)))
  (refine KO_fn rfl rfl rfl rfl rfl ((search_ok S.wf v u ls p (hv.ext w S.ext) (hu.ext w S.ext) hl hb hp hs).mono ?_); rintro _ h ⟨i, q, rfl, hq, x⟩) <;> (replace S := S.join0 x; clear x; refine mv ?_; refine vl ?_; refine vl ?_; refine mv ?_; refine mv ?_; refine KO_nil ?_)
  all_goals (repeat' (first | refine K_seq ?_ | (refine K_region (id := 2) ?_; refine mv ?_; refine mv ?_; refine KO_nil ?_)))
  refine K_ret ⟨_, rfl, ?_⟩
  exact ⟨hq, S⟩
end Go.Proofs.Xx

/-
  slices.Clone, hall.Invert, hall.Compose of ints.
-/
namespace Go.Proofs.Xx
open Go Go.Proofs
set_option linter.unusedSimpArgs false
set_option linter.unusedVariables false

/-- What 'q[x] = i' for each i and x of l makes of q. -/
def invStep (l : List Int) (q : List Int) (i : Nat) : List Int := q.set (l.getD i 0).toNat (i : Int)
def invTo (l : List Int) (i : Nat) : List Int := (List.range i).foldl (invStep l) (List.replicate l.length 0)
theorem invTo_length (l : List Int) : ∀ i, (invTo l i).length = l.length
  | 0 => by simp [invTo]
  | i + 1 => by
    have := invTo_length l i
    unfold invTo at this ⊢
    rw [List.range_succ, List.foldl_append]
    simp only [List.foldl_cons, List.foldl_nil, invStep, List.length_set]
    exact this
theorem invTo_succ (l : List Int) (i : Nat) : invTo l (i + 1) = (invTo l i).set (l.getD i 0).toNat (i : Int) := by
  unfold invTo
  rw [List.range_succ, List.foldl_append]; rfl
theorem invTo_zero (l : List Int) : ints (invTo l 0) = zeroRow [.int .i64 0] l.length := by
  rw [zeroRow_one]; simp [invTo, ints]

theorem invert_ints {h : AH} {v : Value} {l : List Int} (w : WfH h) (r : RdI h v l) (hl : l.length < 2^30) :
    Fn Tryz.prog Xh 58 [v] h (fun x h' => RdI h' x (if permOk l then invTo l l.length else []) ∧ Ext h h') := by
  refine Fn_K rfl Tryz.func58 rfl rfl ?_
  refine K_seq (K_region (KO_val rfl rfl rfl (KO_nil ?_)))
  refine K_seq (K_seq (K_region ?_))
  refine KO_val rfl rfl rfl ?_
  refine KO_fn rfl rfl rfl rfl rfl ((permutation_ok w r hl).mono ?_)
  rintro x h1 ⟨rfl, x1⟩
  refine KO_val rfl rfl rfl (KO_nil ?_)
  have r1 := r.ext w x1
  cases hp : permOk l with
  | false =>
    refine K_cond rfl ?_
    refine K_seq (K_region (KO_val rfl rfl rfl (KO_nil ?_)))
    refine K_ret ⟨_, rfl, ?_, x1⟩
    exact Rd.none_ _ 1
  | true =>
    have hin : ∀ x ∈ l, 0 ≤ x ∧ x < l.length := (of_decide_eq_true hp).1
    refine K_cond rfl (K_skip ?_)
    refine K_seq (K_region ?_)
    refine KO_val rfl rfl rfl ?_
    refine KO_len rfl rfl rfl (r1.len und23) rfl ?_
    obtain ⟨s, h2, m1, m2, m3⟩ := make_own x1.wf el23 z3 by3 (n := l.length) (by omega)
    refine KO_make rfl rfl rfl rfl m1 rfl ?_
    refine KO_val rfl rfl rfl (KO_nil ?_)
    rw [← invTo_zero] at m2
    have x2 := x1.trans m3
    have r2 := r.ext w x2
    refine K_seq (K_seq (K_region ?_))
    refine KO_val rfl rfl rfl ?_
    refine KO_len rfl rfl rfl (r2.len und23) rfl ?_
    refine KO_val rfl rfl rfl (KO_nil ?_)
    refine K_block ?_
    refine K_loop (fun m L h3 => Ext h h3 ∧ ∃ i : Nat, m + i = l.length ∧ Own h3 s h1.next 3 1 l.length (ints (invTo l i)) ∧ L = [(3, s), (12, v), (13, .int .i64 l.length), (14, .int .i64 i)]) ?_ l.length
      ⟨x2, 0, rfl, m2, rfl⟩ (by repeat (first | exact Ks.le_nil _ | refine Ks.le_cons rfl ?_))
    rintro m L h3 ⟨x3, i, him, own, rfl⟩
    have r3 := r.ext w x3
    refine K_seq (K_region (KO_val rfl rfl rfl (KO_nil ?_)))
    refine K_seq ?_
    refine K_cond2 rfl (fun hv => ?_) (fun hv => ?_)
    · have hv := of_decide_eq_true hv
      have hi : i < l.length := by omega
      refine K_skip ?_
      refine K_seq (K_block (K_seq (K_region ?_)))
      obtain ⟨p, hp1, hp2⟩ := r3.at1 und23 sz3 agg3 (ik := .i64) (ints_get (List.getElem?_eq_getElem hi))
      refine KO_val rfl rfl rfl ?_
      refine KO_index rfl rfl rfl rfl hp1 rfl ?_
      refine KO_load rfl rfl rfl hp2 rfl ?_
      refine KO_val rfl rfl rfl ?_
      refine KO_val rfl rfl rfl (KO_nil ?_)
      obtain ⟨y1, y2⟩ := hin l[i] (List.getElem_mem hi)
      obtain ⟨k, hk⟩ := Int.eq_ofNat_of_zero_le y1
      have hkl : k < l.length := by omega
      obtain ⟨p2, o1, o2, o3⟩ := own.set und23 sz3 (ik := .i64) hkl (x := .int .i64 i) rfl rfl
      refine K_region ?_
      iterate 3 refine KO_val rfl rfl rfl ?_
      refine KO_index rfl rfl rfl rfl (by rw [hk]; exact o1) rfl ?_
      refine KO_store rfl rfl rfl rfl o2 rfl (KO_nil ?_)
      refine K_region ?_
      refine KO_bin rfl rfl rfl rfl (add_i64 (c := ((i + 1 : Nat) : Int)) (by omega) (by omega) (by omega)) rfl ?_
      refine KO_val rfl rfl rfl (KO_nil ?_)
      have hnext : (ints (invTo l i)).set k (.int .i64 i) = ints (invTo l (i + 1)) := by
        rw [ints_set, invTo_succ]
        have : (l.getD i 0).toNat = k := by
          rw [List.getD_eq_getElem?_getD, List.getElem?_eq_getElem hi, Option.getD_some, hk]; simp
        rw [this]
      rw [hnext] at o3 ⊢
      refine ⟨m - 1, _, by omega, ⟨x3.put x1.next (x3.wf.lt own.obj) _, i + 1, by omega, o3, rfl⟩, ?_⟩
      repeat (first | exact Ks.le_nil _ | refine Ks.le_cons rfl ?_)
    · have hv := of_decide_eq_false hv
      have hil : i = l.length := by omega
      subst hil
      refine K_exit ?_
      show K Tryz.prog Xh _ _ _ _ _ _
      refine K_seq (K_region ?_)
      iterate 2 refine KO_val rfl rfl rfl ?_
      refine KO_nil ?_
      refine K_ret ⟨_, rfl, ?_, x3⟩
      have := own.rd
      show Rd h3 s 1 (invTo l l.length).length (ints (invTo l l.length))
      rw [invTo_length]; exact this
end Go.Proofs.Xx
