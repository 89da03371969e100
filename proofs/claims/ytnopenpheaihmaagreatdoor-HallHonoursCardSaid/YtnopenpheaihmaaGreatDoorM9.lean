/-
  Sorting by a key, in place: insertion.
-/
import Derived.Test.YtnopenpheaihmaaGreatDoorM8
import Derived.Test.YtnopenpheaihmaaGreatDoorM6

namespace Go.Proofs.Xx
open Go Go.Proofs
set_option linter.unusedSimpArgs false
set_option linter.unusedVariables false
set_option maxRecDepth 100000

/-- The function g compares what p holds for by a key. -/
def KeyFn (h0 : AH) (g : Nat) (cap : List Value) (key : Int → Int) (p : Int → Prop) : Prop :=
  ∀ h x y, Ext h0 h → p x → p y → Fn Tryz.prog Xh g (.int .i64 x :: .int .i64 y :: cap) h (fun v h' => ∃ d, v = .int .i64 d ∧ (d < 0 ↔ key x < key y) ∧ Hs h h' [])
def Inc (a b : Nat) (l : List Int) : Prop := ∀ i j, a ≤ i → i < j → j < b → l.getD i default < l.getD j default
abbrev cvV (g : Nat) (cap : List Value) : Value := .func (.func g) #[] cap.toArray

theorem toNat_pred (j : Nat) : ((j : Int) - 1).toNat = j - 1 := by omega
theorem toNat_succ (j : Nat) : ((j : Int) + 1).toNat = j + 1 := by omega
theorem toNat_sum (i j : Nat) : ((i : Int) + (j : Int)).toNat = i + j := by omega
theorem cast_pred {j : Nat} (h : 0 < j) : (j : Int) - 1 = ((j - 1 : Nat) : Int) := by omega

theorem insK_ok {h0 h : AH} {rs : List Rs} {v : Value} {l : List Int} {g : Nat} {cap : List Value} {key : Int → Int} {p : Int → Prop} (a b : Nat) (S : Hs h0 h (.sl v 3 1 eI l :: rs)) (C : KeyFn h0 g cap key p) (hp : ∀ k, a ≤ k → k < b → p (l.getD k default)) (hab : a ≤ b) (hb : b ≤ l.length) (hl : l.length ≤ 1000000) (hi : Inc a b l) :
    Fn Tryz.prog Xh 178 [v, .int .i64 a, .int .i64 b, cvV g cap] h (fun _ h' => ∃ l', Sw a b l l' ∧ Srt (lexi key) a b l' ∧ Hs h0 h' (.sl v 3 1 eI l' :: rs)) := by
  have W := lexi_ord key
  refine Fn_K rfl Tryz.func178 rfl rfl ?_
  all_goals (repeat' (first | refine K_seq ?_ | refine k_cond rfl ?_ | refine K_skip ?_ | refine K_exit ?_ | refine k_block ?_ | refine K_scope ?_ | (refine K_region (id := 0) ?_; refine mv ?_; (first | refine ad ?_ | refine vl ?_); refine mv ?_; refine KO_nil ?_)))
  refine k_loop (σ := Nat × List Int) (fun (i, m) h' => Hs h0 h' (.sl v 3 1 eI m :: rs) ∧ a < i ∧ Sw a (min i b) l m ∧ Srt (lexi key) a (min i b) m) (fun (i, m) => b - i) (fun (i, m) => [(0, v), (1, .int .i64 a), (2, .int .i64 b), (3, cvV g cap), (8, .int .i64 i)]) (a + 1, l) (by repeat (first | exact Ks.le_nil _ | refine Ks.le_cons rfl ?_ | refine Ks.le_int ?_)) ?_ ?_
  · exact ⟨S, by omega, .refl _, fun i j q1 q2 q3 => by omega⟩
  clear S
  rintro ⟨i, m⟩ h ⟨S, h1, h2, h3⟩
  have hml := h2.len
  all_goals (repeat' (first | refine K_seq ?_ | refine k_cond rfl ?_ | refine K_skip ?_ | refine K_exit ?_ | refine k_block ?_ | refine K_scope ?_ | (refine K_region (id := 1) ?_; refine mv ?_; refine mv ?_; (first | refine cT ?_ | refine cF ?_ | (refine cS ?_ ?_ <;> intro hc)) <;> (refine KO_nil ?_)) | (refine K_region (id := 3) ?_; refine mv ?_; refine mv ?_; refine KO_nil ?_)))
  · have hib : i < b := by omega
    rw [Nat.min_eq_left (by omega)] at h2 h3
    refine k_loop (σ := Nat × List Int) (fun (j, n) h' => Hs h0 h' (.sl v 3 1 eI n :: rs) ∧ a ≤ j ∧ j ≤ i ∧ Sw a (i + 1) l n ∧ InsI (lexi key) a i j n ∧ n.getD j default = l.getD i default ∧ ∀ k, a ≤ k → k ≤ i → k ≠ j → n.getD k default < l.getD i default) (fun (j, n) => j) (fun (j, n) => [(0, v), (1, .int .i64 a), (2, .int .i64 b), (3, cvV g cap), (8, .int .i64 i), (9, .int .i64 j)]) (i, m) (by repeat (first | exact Ks.le_nil _ | refine Ks.le_cons rfl ?_ | refine Ks.le_int ?_)) ?_ ?_
    · refine ⟨S, by omega, Nat.le_refl _, h2.mono (Nat.le_refl _) (by omega) (by omega), InsI.start h3, h2.out (.inr (Nat.le_refl _)), fun k q1 q2 q3 => ?_⟩
      obtain ⟨r, r1, r2, r3⟩ := h2.in_ q1 (by omega)
      rw [r3]; exact hi r i r1 r2 hib
    clear S h2 h3 hml
    rintro ⟨j, n⟩ h ⟨S, k1, k2, k3, k4, k5, k6⟩
    have hnl := k3.len
    have hpn := fun k (q1 : a ≤ k) (q2 : k < b) => (k3.mono (Nat.le_refl _) (by omega) hb).all hp k q1 q2
    all_goals (repeat' (first | refine K_seq ?_ | refine k_cond rfl ?_ | refine K_skip ?_ | refine K_exit ?_ | refine k_block ?_ | refine K_scope ?_ | (refine K_region (id := 2) ?_; refine mv ?_; (first | refine ad ?_ | refine vl ?_); refine mv ?_; refine KO_nil ?_) | (refine K_draw (id := 4) ?_; refine mv ?_; refine mv ?_; (first | refine cT ?_ | refine cF ?_ | (refine cS ?_ ?_ <;> intro hc)) <;> (refine mv ?_; (first | refine off ?_ | refine mv ?_); (first | refine off ?_ | refine mv ?_); (first | refine off ?_ | refine mv ?_); (first | refine off ?_ | (first | refine ixB S ?_ | refine ixS2 S rfl rfl ?_)); (first | refine off ?_ | (first | refine lB S rfl rfl ?_ | refine lES2 S rfl rfl ?_ | refine lEB S ?_ | refine lH S ?_)); (first | refine off ?_ | refine mv ?_); (first | refine off ?_ | refine mv ?_); (first | refine off ?_ | (first | refine sb ?_ | refine vl ?_)); (first | refine off ?_ | (first | refine ixB S ?_ | refine ixS2 S rfl rfl ?_)); (first | refine off ?_ | (first | refine lB S rfl rfl ?_ | refine lES2 S rfl rfl ?_ | refine lEB S ?_ | refine lH S ?_)); (first | (refine off ?_; (first | refine off ?_ | (first | refine cT ?_ | refine cF ?_ | (refine cS ?_ ?_ <;> intro hc))) <;> (refine vl ?_; refine KO_nil ?_)) | skip))) | (refine K_region (id := 5) ?_; refine mv ?_; (first | refine sb ?_ | refine vl ?_); refine mv ?_; refine KO_nil ?_) | (refine K_draw (id := 6) ?_; refine mv ?_; refine mv ?_; refine mv ?_; refine mv ?_; (first | refine sb ?_ | refine vl ?_); refine mv ?_; refine mv ?_; (first | refine sb ?_ | refine vl ?_); (first | refine ixB S ?_ | refine ixS2 S rfl rfl ?_); (first | refine lB S rfl rfl ?_ | refine lES2 S rfl rfl ?_ | refine lEB S ?_ | refine lH S ?_); refine mv ?_; refine mv ?_; (first | refine ixB S ?_ | refine ixS2 S rfl rfl ?_); (first | refine lB S rfl rfl ?_ | refine lES2 S rfl rfl ?_ | refine lEB S ?_ | refine lH S ?_); (first | refine ixB S ?_ | refine ixS2 S rfl rfl ?_); (first | (refine sB S rfl rfl ?_; clear S; intro h S) | (refine sE2 S rfl rfl ?_; clear S; intro h S)); (first | refine ixB S ?_ | refine ixS2 S rfl rfl ?_); (first | (refine sB S rfl rfl ?_; clear S; intro h S) | (refine sE2 S rfl rfl ?_; clear S; intro h S)); refine KO_nil ?_)))
    · simp only [toNat_pred, Int.toNat_natCast]
      (refine KO_call rfl rfl rfl rfl ((C _ _ _ S.ext (hpn j (by omega) (by omega)) (hpn (j - 1) (by omega) (by omega))).mono ?_); rintro _ h ⟨d, rfl, hd, x⟩) <;> (replace S := S.join0 x; clear x; have hd := hd.trans (lexi_key (show n.getD (j - 1) default < n.getD j default by rw [k5]; exact k6 _ (by omega) (by omega) (by omega))).symm; (first | refine off ?_ | (first | refine cT ?_ | refine cF ?_ | (refine cS ?_ ?_ <;> intro hc))) <;> (refine vl ?_; refine KO_nil ?_))
      all_goals (repeat' (first | refine K_seq ?_ | refine k_cond rfl ?_ | refine K_skip ?_ | refine K_exit ?_ | refine k_block ?_ | refine K_scope ?_ | (refine K_region (id := 2) ?_; refine mv ?_; (first | refine ad ?_ | refine vl ?_); refine mv ?_; refine KO_nil ?_) | (refine K_region (id := 5) ?_; refine mv ?_; (first | refine sb ?_ | refine vl ?_); refine mv ?_; refine KO_nil ?_) | (refine K_draw (id := 6) ?_; refine mv ?_; refine mv ?_; refine mv ?_; refine mv ?_; (first | refine sb ?_ | refine vl ?_); refine mv ?_; refine mv ?_; (first | refine sb ?_ | refine vl ?_); (first | refine ixB S ?_ | refine ixS2 S rfl rfl ?_); (first | refine lB S rfl rfl ?_ | refine lES2 S rfl rfl ?_ | refine lEB S ?_ | refine lH S ?_); refine mv ?_; refine mv ?_; (first | refine ixB S ?_ | refine ixS2 S rfl rfl ?_); (first | refine lB S rfl rfl ?_ | refine lES2 S rfl rfl ?_ | refine lEB S ?_ | refine lH S ?_); (first | refine ixB S ?_ | refine ixS2 S rfl rfl ?_); (first | (refine sB S rfl rfl ?_; clear S; intro h S) | (refine sE2 S rfl rfl ?_; clear S; intro h S)); (first | refine ixB S ?_ | refine ixS2 S rfl rfl ?_); (first | (refine sB S rfl rfl ?_; clear S; intro h S) | (refine sE2 S rfl rfl ?_; clear S; intro h S)); refine KO_nil ?_)))
      · simp only [toNat_pred, Int.toNat_natCast] at S
        have hjs := k4.next W (by omega) k2 (by omega) (hd.1 (by assumption))
        refine ⟨(j - 1, swp n j (j - 1)), ?_, ?_, (by repeat (first | exact Ks.le_nil _ | refine Ks.le_cons rfl ?_ | refine Ks.le_int ?_))⟩
        · show j - 1 < j; omega
        · refine ⟨S, by omega, by omega, k3.step j (j - 1) ⟨by omega, by omega⟩ ⟨by omega, by omega⟩ (by omega), hjs, ?_, fun k q1 q2 q3 => ?_⟩
          · rw [swp_get (by omega) (by omega), if_pos rfl]; exact k5
          · rw [swp_get (by omega) (by omega), if_neg q3]
            split
            · exact k6 _ (by omega) (by omega) (by omega)
            · exact k6 _ q1 q2 (by assumption)
      · refine ⟨(i + 1, n), ?_, ?_, (by repeat (first | exact Ks.le_nil _ | refine Ks.le_cons rfl ?_ | refine Ks.le_int ?_))⟩
        · show b - (i + 1) < b - i; omega
        · simp only [Nat.min_eq_left (show i + 1 ≤ b by omega)]
          exact ⟨S, by omega, k3, k4.done W (.inr fun q => absurd (hd.2 q) (by assumption))⟩
    · refine ⟨(i + 1, n), ?_, ?_, (by repeat (first | exact Ks.le_nil _ | refine Ks.le_cons rfl ?_ | refine Ks.le_int ?_))⟩
      · show b - (i + 1) < b - i; omega
      · simp only [Nat.min_eq_left (show i + 1 ≤ b by omega)]
        exact ⟨S, by omega, k3, k4.done W (.inl (by omega))⟩
  · rw [Nat.min_eq_right (by omega)] at h2 h3
    refine ⟨_, rfl, ?_⟩
    exact ⟨m, h2, h3, S⟩

theorem xch_ok {h0 h : AH} {rs : List Rs} {v : Value} {l : List Int} {cv : Value} (a b n : Nat) (S : Hs h0 h (.sl v 3 1 eI l :: rs)) (hab : a + n ≤ b) (hb : b + n ≤ l.length) (hl : l.length ≤ 1000000) :
    Fn Tryz.prog Xh 233 [v, .int .i64 a, .int .i64 b, .int .i64 n, cv] h (fun _ h' => ∃ l', Sw a (b + n) l l' ∧ IsXch a b n l l' ∧ Hs h0 h' (.sl v 3 1 eI l' :: rs)) := by
  refine Fn_K rfl Tryz.func233 rfl rfl ?_
  all_goals (repeat' (first | refine K_seq ?_ | refine k_cond rfl ?_ | refine K_skip ?_ | refine K_exit ?_ | refine k_block ?_ | refine K_scope ?_ | (refine K_region (id := 0) ?_; refine mv ?_; refine KO_nil ?_)))
  refine k_loop (σ := Nat × List Int) (fun (i, m) h' => Hs h0 h' (.sl v 3 1 eI m :: rs) ∧ i ≤ n ∧ Sw a (b + n) l m ∧ IsXch a b i l m) (fun (i, m) => n - i) (fun (i, m) => [(0, v), (1, .int .i64 a), (2, .int .i64 b), (3, .int .i64 n), (10, .int .i64 i)]) (0, l) (by repeat (first | exact Ks.le_nil _ | refine Ks.le_cons rfl ?_ | refine Ks.le_int ?_)) ?_ ?_
  · exact ⟨S, Nat.zero_le _, .refl _, .zero⟩
  clear S
  rintro ⟨i, m⟩ h ⟨S, h1, h2, h3⟩
  have hml := h2.len
  all_goals (repeat' (first | refine K_seq ?_ | refine k_cond rfl ?_ | refine K_skip ?_ | refine K_exit ?_ | refine k_block ?_ | refine K_scope ?_ | (refine K_region (id := 1) ?_; refine mv ?_; refine mv ?_; (first | refine cT ?_ | refine cF ?_ | (refine cS ?_ ?_ <;> intro hc)) <;> (refine KO_nil ?_)) | (refine K_region (id := 2) ?_; refine mv ?_; (first | refine ad ?_ | refine vl ?_); refine mv ?_; refine KO_nil ?_) | (refine K_draw (id := 3) ?_; refine mv ?_; refine mv ?_; refine mv ?_; (first | refine ad ?_ | refine vl ?_); refine mv ?_; refine mv ?_; refine mv ?_; (first | refine ad ?_ | refine vl ?_); refine mv ?_; refine mv ?_; refine mv ?_; (first | refine ad ?_ | refine vl ?_); (first | refine ixB S ?_ | refine ixS2 S rfl rfl ?_); (first | refine lB S rfl rfl ?_ | refine lES2 S rfl rfl ?_ | refine lEB S ?_ | refine lH S ?_); refine mv ?_; refine mv ?_; refine mv ?_; (first | refine ad ?_ | refine vl ?_); (first | refine ixB S ?_ | refine ixS2 S rfl rfl ?_); (first | refine lB S rfl rfl ?_ | refine lES2 S rfl rfl ?_ | refine lEB S ?_ | refine lH S ?_); (first | refine ixB S ?_ | refine ixS2 S rfl rfl ?_); (first | (refine sB S rfl rfl ?_; clear S; intro h S) | (refine sE2 S rfl rfl ?_; clear S; intro h S)); (first | refine ixB S ?_ | refine ixS2 S rfl rfl ?_); (first | (refine sB S rfl rfl ?_; clear S; intro h S) | (refine sE2 S rfl rfl ?_; clear S; intro h S)); refine KO_nil ?_)))
  · simp only [toNat_sum] at S
    refine ⟨(i + 1, swp m (a + i) (b + i)), ?_, ?_, (by repeat (first | exact Ks.le_nil _ | refine Ks.le_cons rfl ?_ | refine Ks.le_int ?_))⟩
    · show n - (i + 1) < n - i; omega
    · exact ⟨S, by omega, h2.step _ _ ⟨by omega, by omega⟩ ⟨by omega, by omega⟩ (by omega), h3.next (by omega) (by omega)⟩
  · obtain rfl : i = n := by omega
    refine ⟨_, rfl, ?_⟩
    exact ⟨m, h2, h3, S⟩

theorem rot_ok {h0 h : AH} {rs : List Rs} {v : Value} {l : List Int} {cv : Value} (a m b : Nat) (S : Hs h0 h (.sl v 3 1 eI l :: rs)) (hab : a < m ∧ m < b) (hb : b ≤ l.length) (hl : l.length ≤ 1000000) :
    Fn Tryz.prog Xh 217 [v, .int .i64 a, .int .i64 m, .int .i64 b, cv] h (fun _ h' => ∃ l', Sw a b l l' ∧ IsRot a m b l l' ∧ Hs h0 h' (.sl v 3 1 eI l' :: rs)) := by
  refine Fn_K rfl Tryz.func217 rfl rfl ?_
  all_goals (repeat' (first | refine K_seq ?_ | refine k_cond rfl ?_ | refine K_skip ?_ | refine K_exit ?_ | refine k_block ?_ | refine K_scope ?_ | (refine K_region (id := 0) ?_; refine mv ?_; refine mv ?_; (first | refine sb ?_ | refine vl ?_); refine mv ?_; refine KO_nil ?_) | (refine K_region (id := 1) ?_; refine mv ?_; refine mv ?_; (first | refine sb ?_ | refine vl ?_); refine mv ?_; refine KO_nil ?_)))
  refine k_loop (σ := Nat × Nat × List Int) (fun (i, j, c) h' => Hs h0 h' (.sl v 3 1 eI c :: rs) ∧ 0 < i ∧ 0 < j ∧ i ≤ m - a ∧ j ≤ b - m ∧ Sw a b l c ∧ RotI a m b i j l c) (fun (i, j, c) => i + j) (fun (i, j, c) => [(0, v), (1, .int .i64 a), (2, .int .i64 m), (3, .int .i64 b), (4, cv), (10, .int .i64 i), (11, .int .i64 j)]) (m - a, b - m, l) (by repeat (first | exact Ks.le_nil _ | refine Ks.le_cons rfl ?_ | refine Ks.le_int ?_)) ?_ ?_
  · exact ⟨S, by omega, by omega, by omega, by omega, .refl _, .start (by omega) (by omega)⟩
  clear S
  rintro ⟨i, j, c⟩ h ⟨S, h1, h2, h3, h4, h5, h6⟩
  have hcl := h5.len
  have e1 : (m : Int) - i = ((m - i : Nat) : Int) := by omega
  all_goals (repeat' (first | refine K_seq ?_ | refine k_cond rfl ?_ | refine K_skip ?_ | refine K_exit ?_ | refine k_block ?_ | refine K_scope ?_ | (refine K_region (id := 2) ?_; refine mv ?_; refine mv ?_; (first | refine cT ?_ | refine cF ?_ | (refine cS ?_ ?_ <;> intro hc)) <;> (refine KO_nil ?_)) | (refine K_region (id := 3) ?_; refine mv ?_; refine mv ?_; (first | refine cT ?_ | refine cF ?_ | (refine cS ?_ ?_ <;> intro hc)) <;> (refine KO_nil ?_)) | (refine K_region (id := 4) ?_; refine mv ?_; refine mv ?_; refine mv ?_; (first | refine sb ?_ | refine vl ?_); refine mv ?_; refine mv ?_; refine mv ?_; skip) | (refine K_region (id := 6) ?_; refine mv ?_; refine mv ?_; refine mv ?_; (first | refine sb ?_ | refine vl ?_); refine mv ?_; refine mv ?_; (first | refine ad ?_ | refine vl ?_); refine mv ?_; (first | refine sb ?_ | refine vl ?_); refine mv ?_; refine mv ?_) | (refine K_region (id := 8) ?_; refine mv ?_; refine mv ?_; refine mv ?_; (first | refine sb ?_ | refine vl ?_); refine mv ?_; refine mv ?_; refine mv ?_; skip)))
  · rw [e1]
    (refine KO_fn rfl rfl rfl rfl rfl ((xch_ok (m - i) m j S (by omega) (by omega) (by omega)).mono ?_); rintro _ h ⟨c2, g1, g2, S2⟩) <;> (replace S := S2; clear S2; refine KO_nil ?_)
    all_goals (repeat' (first | refine K_seq ?_ | refine k_cond rfl ?_ | refine K_skip ?_ | refine K_exit ?_ | refine k_block ?_ | refine K_scope ?_ | (refine K_region (id := 5) ?_; refine mv ?_; refine mv ?_; (first | refine sb ?_ | refine vl ?_); refine mv ?_; refine KO_nil ?_)))
    refine ⟨(i - j, j, c2), ?_, ?_, (by repeat (first | exact Ks.le_nil _ | refine Ks.le_cons rfl ?_ | refine Ks.le_int ?_))⟩
    · show i - j + j < i + j; omega
    · exact ⟨S, by omega, h2, by omega, h4, h5.trans (g1.mono (by omega) (by omega) (by omega)), h6.left (by omega) (by omega) g2⟩
  · have e2 : (m : Int) + j - i = ((m + j - i : Nat) : Int) := by omega
    rw [e1, e2]
    (refine KO_fn rfl rfl rfl rfl rfl ((xch_ok (m - i) (m + j - i) i S (by omega) (by omega) (by omega)).mono ?_); rintro _ h ⟨c2, g1, g2, S2⟩) <;> (replace S := S2; clear S2; refine KO_nil ?_)
    all_goals (repeat' (first | refine K_seq ?_ | refine k_cond rfl ?_ | refine K_skip ?_ | refine K_exit ?_ | refine k_block ?_ | refine K_scope ?_ | (refine K_region (id := 7) ?_; refine mv ?_; refine mv ?_; (first | refine sb ?_ | refine vl ?_); refine mv ?_; refine KO_nil ?_)))
    refine ⟨(i, j - i, c2), ?_, ?_, (by repeat (first | exact Ks.le_nil _ | refine Ks.le_cons rfl ?_ | refine Ks.le_int ?_))⟩
    · show i + (j - i) < i + j; omega
    · exact ⟨S, h1, by omega, h3, by omega, h5.trans (g1.mono (by omega) (by omega) (by omega)), h6.right (by omega) (by omega) g2⟩
  · obtain rfl : i = j := by omega
    rw [e1]
    (refine KO_fn rfl rfl rfl rfl rfl ((xch_ok (m - i) m i S (by omega) (by omega) (by omega)).mono ?_); rintro _ h ⟨c2, g1, g2, S2⟩) <;> (replace S := S2; clear S2; refine KO_nil ?_)
    all_goals (repeat' (first | refine K_seq ?_ | refine k_cond rfl ?_ | refine K_skip ?_ | refine K_exit ?_ | refine k_block ?_ | refine K_scope ?_))
    refine ⟨_, rfl, ?_⟩
    exact ⟨c2, h5.trans (g1.mono (by omega) (by omega) (by omega)), h6.done (by omega) g2, S⟩
end Go.Proofs.Xx

/-
  Sorting by a key, in place: merging.
-/
namespace Go.Proofs.Xx
open Go Go.Proofs
set_option linter.unusedSimpArgs false
set_option linter.unusedVariables false
set_option maxRecDepth 100000

theorem half_sum (i j : Nat) : ((i : Int) + (j : Int)) / 2 = (((i + j) / 2 : Nat) : Int) := by omega
theorem IsRot.none {a b : Nat} {l : List Int} : IsRot a b b l l := fun k => by
  congr 1; unfold rot; split
  · rfl
  · split
    · omega
    · split
      · omega
      · rfl
theorem IsRot.none2 {a b : Nat} {l : List Int} : IsRot a a b l l := fun k => by
  congr 1; unfold rot; split
  · rfl
  · split
    · omega
    · split
      · omega
      · rfl

set_option maxHeartbeats 2000000 in
theorem symm_ok {h0 : AH} {v : Value} {g : Nat} {cap : List Value} {key : Int → Int} {p : Int → Prop} (C : KeyFn h0 g cap key p) : ∀ (n : Nat) {h : AH} {rs : List Rs} {l : List Int} (a m b : Nat) (S : Hs h0 h (.sl v 3 1 eI l :: rs)) (hn : b - a ≤ n) (hp : ∀ k, a ≤ k → k < b → p (l.getD k default)) (hab : a < m ∧ m < b) (hb : b ≤ l.length) (hl : l.length ≤ 1000000) (M : Mrg key a m b l),
    Fn Tryz.prog Xh 179 [v, .int .i64 a, .int .i64 m, .int .i64 b, cvV g cap] h (fun _ h' => ∃ l', Sw a b l l' ∧ Srt (lexi key) a b l' ∧ Hs h0 h' (.sl v 3 1 eI l' :: rs)) := by
  have W := lexi_ord key
  intro n
  induction n with
  | zero => intro h rs l a m b S hn hp hab; omega
  | succ n ih =>
  intro h rs l a m b S hn hp hab hb hl M
  refine Fn_K rfl Tryz.func179 rfl rfl ?_
  all_goals (repeat' (first | refine K_seq ?_ | refine k_cond rfl ?_ | refine K_skip ?_ | refine K_exit ?_ | refine k_block ?_ | refine K_scope ?_ | (refine K_region (id := 0) ?_; refine mv ?_; refine mv ?_; (first | refine sb ?_ | refine vl ?_); (first | refine cT ?_ | refine cF ?_ | (refine cS ?_ ?_ <;> intro hc)) <;> (refine KO_nil ?_)) | (refine K_region (id := 1) ?_; refine mv ?_; refine mv ?_; refine KO_nil ?_) | (refine K_region (id := 2) ?_; refine mv ?_; refine mv ?_; refine KO_nil ?_) | (refine K_region (id := 12) ?_; refine mv ?_; refine mv ?_; (first | refine sb ?_ | refine vl ?_); (first | refine cT ?_ | refine cF ?_ | (refine cS ?_ ?_ <;> intro hc)) <;> (refine KO_nil ?_)) | (refine K_region (id := 13) ?_; refine mv ?_; refine mv ?_; refine KO_nil ?_) | (refine K_region (id := 14) ?_; refine mv ?_; refine mv ?_; refine KO_nil ?_)))
  · obtain rfl : m = a + 1 := by omega
    refine k_loop (σ := Nat × Nat) (fun (i, j) h' => Hs h0 h' (.sl v 3 1 eI l :: rs) ∧ (a + 1 ≤ i ∧ i ≤ j ∧ j ≤ b) ∧ (∀ k, a + 1 ≤ k → k < i → lexi key (l.getD k default) (l.getD a default)) ∧ ∀ k, j ≤ k → k < b → ¬ lexi key (l.getD k default) (l.getD a default)) (fun (i, j) => j - i) (fun (i, j) => [(0, v), (1, .int .i64 a), (2, .int .i64 (a + 1 : Nat)), (3, .int .i64 b), (4, cvV g cap), (10, .int .i64 i), (11, .int .i64 j)]) (a + 1, b) (by repeat (first | exact Ks.le_nil _ | refine Ks.le_cons rfl ?_ | refine Ks.le_int ?_)) ?_ ?_
    · exact ⟨S, by omega, fun k q1 q2 => by omega, fun k q1 q2 => by omega⟩
    clear S
    rintro ⟨i, j⟩ h ⟨S, h1, h2, h3⟩
    all_goals (repeat' (first | refine K_seq ?_ | refine k_cond rfl ?_ | refine K_skip ?_ | refine K_exit ?_ | refine k_block ?_ | refine K_scope ?_ | (refine K_region (id := 3) ?_; refine mv ?_; refine mv ?_; (first | refine cT ?_ | refine cF ?_ | (refine cS ?_ ?_ <;> intro hc)) <;> (refine KO_nil ?_)) | (refine K_region (id := 4) ?_; refine mv ?_; refine mv ?_; (first | refine ad ?_ | refine vl ?_); (first | refine cW ?_ | refine vl ?_); (first | refine sR1 ?_ | refine sR ?_); (first | refine cI ?_ | refine vl ?_); refine mv ?_; refine KO_nil ?_) | (refine K_draw (id := 5) ?_; refine mv ?_; refine mv ?_; refine mv ?_; (first | refine ixB S ?_ | refine ixS2 S rfl rfl ?_); (first | refine lB S rfl rfl ?_ | refine lES2 S rfl rfl ?_ | refine lEB S ?_ | refine lH S ?_); refine mv ?_; refine mv ?_; (first | refine ixB S ?_ | refine ixS2 S rfl rfl ?_); (first | refine lB S rfl rfl ?_ | refine lES2 S rfl rfl ?_ | refine lEB S ?_ | refine lH S ?_)) | (refine K_region (id := 8) ?_; refine mv ?_; refine mv ?_; refine KO_nil ?_)))
    · have hc := half_sum i j
      obtain ⟨c, hcc⟩ : ∃ c, c = (i + j) / 2 := ⟨_, rfl⟩
      rw [← hcc] at hc
      simp only [hc, Int.toNat_natCast]
      (refine KO_call rfl rfl rfl rfl ((C _ _ _ S.ext (hp c (by omega) (by omega)) (hp a (by omega) (by omega))).mono ?_); rintro _ h ⟨d, rfl, hd, x⟩) <;> (replace S := S.join0 x; clear x; have hd := hd.trans (lexi_key (M.cr a c (by omega) (by omega) (by omega) (by omega))).symm; (first | refine cT ?_ | refine cF ?_ | (refine cS ?_ ?_ <;> intro hc)) <;> (refine KO_nil ?_))
      all_goals (repeat' (first | refine K_seq ?_ | refine k_cond rfl ?_ | refine K_skip ?_ | refine K_exit ?_ | refine k_block ?_ | refine K_scope ?_ | (refine K_region (id := 6) ?_; refine mv ?_; (first | refine ad ?_ | refine vl ?_); refine mv ?_; refine KO_nil ?_) | (refine K_region (id := 7) ?_; refine mv ?_; refine mv ?_; refine KO_nil ?_)))
      · refine ⟨(c + 1, j), ?_, ?_, (by repeat (first | exact Ks.le_nil _ | refine Ks.le_cons rfl ?_ | refine Ks.le_int ?_))⟩
        · show j - (c + 1) < j - i; omega
        · refine ⟨S, by omega, fun k q1 q2 => ?_, h3⟩
          have hcl := hd.1 (by assumption)
          rcases Nat.lt_or_ge k c with q | q
          · rcases Classical.em (lexi key (l.getD k default) (l.getD a default)) with q3 | q3
            · exact q3
            · exact absurd hcl (W.ntr q3 (M.sr k c (by omega) q (by omega)))
          · obtain rfl : k = c := by omega
            exact hcl
      · refine ⟨(i, c), ?_, ?_, (by repeat (first | exact Ks.le_nil _ | refine Ks.le_cons rfl ?_ | refine Ks.le_int ?_))⟩
        · show c - i < j - i; omega
        · refine ⟨S, by omega, h2, fun k q1 q2 => ?_⟩
          have hcl : ¬ lexi key (l.getD c default) (l.getD a default) := fun q => absurd (hd.2 q) (by assumption)
          rcases Nat.lt_or_ge c k with q | q
          · exact W.ntr hcl (M.sr c k (by omega) q (by omega))
          · obtain rfl : k = c := by omega
            exact hcl
    · obtain rfl : i = j := by omega
      refine k_loop (σ := Nat × List Int) (fun (k, c) h' => Hs h0 h' (.sl v 3 1 eI c :: rs) ∧ (a ≤ k ∧ k ≤ i - 1) ∧ Sw a b l c ∧ IsUp a k l c) (fun (k, c) => i - k) (fun (k, c) => [(0, v), (1, .int .i64 a), (2, .int .i64 (a + 1 : Nat)), (3, .int .i64 b), (4, cvV g cap), (10, .int .i64 i), (13, .int .i64 k)]) (a, l) (by repeat (first | exact Ks.le_nil _ | refine Ks.le_cons rfl ?_ | refine Ks.le_int ?_)) ?_ ?_
      · exact ⟨S, by omega, .refl _, .start⟩
      clear S
      rintro ⟨k, c⟩ h ⟨S, k1, k2, k3⟩
      have hcl := k2.len
      all_goals (repeat' (first | refine K_seq ?_ | refine k_cond rfl ?_ | refine K_skip ?_ | refine K_exit ?_ | refine k_block ?_ | refine K_scope ?_ | (refine K_region (id := 9) ?_; refine mv ?_; refine mv ?_; (first | refine sb ?_ | refine vl ?_); (first | refine cT ?_ | refine cF ?_ | (refine cS ?_ ?_ <;> intro hc)) <;> (refine KO_nil ?_)) | (refine K_region (id := 10) ?_; refine mv ?_; (first | refine ad ?_ | refine vl ?_); refine mv ?_; refine KO_nil ?_) | (refine K_draw (id := 11) ?_; refine mv ?_; refine mv ?_; refine mv ?_; refine mv ?_; (first | refine ad ?_ | refine vl ?_); refine mv ?_; refine mv ?_; (first | refine ad ?_ | refine vl ?_); (first | refine ixB S ?_ | refine ixS2 S rfl rfl ?_); (first | refine lB S rfl rfl ?_ | refine lES2 S rfl rfl ?_ | refine lEB S ?_ | refine lH S ?_); refine mv ?_; refine mv ?_; (first | refine ixB S ?_ | refine ixS2 S rfl rfl ?_); (first | refine lB S rfl rfl ?_ | refine lES2 S rfl rfl ?_ | refine lEB S ?_ | refine lH S ?_); (first | refine ixB S ?_ | refine ixS2 S rfl rfl ?_); (first | (refine sB S rfl rfl ?_; clear S; intro h S) | (refine sE2 S rfl rfl ?_; clear S; intro h S)); (first | refine ixB S ?_ | refine ixS2 S rfl rfl ?_); (first | (refine sB S rfl rfl ?_; clear S; intro h S) | (refine sE2 S rfl rfl ?_; clear S; intro h S)); refine KO_nil ?_)))
      · simp only [toNat_succ, Int.toNat_natCast] at S
        refine ⟨(k + 1, swp c k (k + 1)), ?_, ?_, (by repeat (first | exact Ks.le_nil _ | refine Ks.le_cons rfl ?_ | refine Ks.le_int ?_))⟩
        · show i - (k + 1) < i - k; omega
        · exact ⟨S, by omega, k2.step _ _ ⟨by omega, by omega⟩ ⟨by omega, by omega⟩ (by omega), k3.next (by omega) (by omega)⟩
      · obtain rfl : k = i - 1 := by omega
        refine K_ret ⟨_, rfl, ?_⟩
        exact ⟨c, k2, M.up (by omega) h2 h3 k3, S⟩
  · obtain rfl : b = m + 1 := by omega
    refine k_loop (σ := Nat × Nat) (fun (i, j) h' => Hs h0 h' (.sl v 3 1 eI l :: rs) ∧ (a ≤ i ∧ i ≤ j ∧ j ≤ m) ∧ (∀ k, a ≤ k → k < i → ¬ lexi key (l.getD m default) (l.getD k default)) ∧ ∀ k, j ≤ k → k < m → lexi key (l.getD m default) (l.getD k default)) (fun (i, j) => j - i) (fun (i, j) => [(0, v), (1, .int .i64 a), (2, .int .i64 m), (3, .int .i64 (m + 1 : Nat)), (4, cvV g cap), (14, .int .i64 i), (15, .int .i64 j)]) (a, m) (by repeat (first | exact Ks.le_nil _ | refine Ks.le_cons rfl ?_ | refine Ks.le_int ?_)) ?_ ?_
    · exact ⟨S, by omega, fun k q1 q2 => by omega, fun k q1 q2 => by omega⟩
    clear S
    rintro ⟨i, j⟩ h ⟨S, h1, h2, h3⟩
    all_goals (repeat' (first | refine K_seq ?_ | refine k_cond rfl ?_ | refine K_skip ?_ | refine K_exit ?_ | refine k_block ?_ | refine K_scope ?_ | (refine K_region (id := 15) ?_; refine mv ?_; refine mv ?_; (first | refine cT ?_ | refine cF ?_ | (refine cS ?_ ?_ <;> intro hc)) <;> (refine KO_nil ?_)) | (refine K_region (id := 16) ?_; refine mv ?_; refine mv ?_; (first | refine ad ?_ | refine vl ?_); (first | refine cW ?_ | refine vl ?_); (first | refine sR1 ?_ | refine sR ?_); (first | refine cI ?_ | refine vl ?_); refine mv ?_; refine KO_nil ?_) | (refine K_draw (id := 17) ?_; refine mv ?_; refine mv ?_; refine mv ?_; (first | refine ixB S ?_ | refine ixS2 S rfl rfl ?_); (first | refine lB S rfl rfl ?_ | refine lES2 S rfl rfl ?_ | refine lEB S ?_ | refine lH S ?_); refine mv ?_; refine mv ?_; (first | refine ixB S ?_ | refine ixS2 S rfl rfl ?_); (first | refine lB S rfl rfl ?_ | refine lES2 S rfl rfl ?_ | refine lEB S ?_ | refine lH S ?_)) | (refine K_region (id := 20) ?_; refine mv ?_; refine mv ?_; refine KO_nil ?_)))
    · have hc := half_sum i j
      obtain ⟨c, hcc⟩ : ∃ c, c = (i + j) / 2 := ⟨_, rfl⟩
      rw [← hcc] at hc
      simp only [hc, Int.toNat_natCast]
      (refine KO_call rfl rfl rfl rfl ((C _ _ _ S.ext (hp m (by omega) (by omega)) (hp c (by omega) (by omega))).mono ?_); rintro _ h ⟨d, rfl, hd, x⟩) <;> (replace S := S.join0 x; clear x; have hd := hd.trans (lexi_key (M.cr c m (by omega) (by omega) (by omega) (by omega))).symm; (first | refine cT ?_ | refine cF ?_ | (refine cS ?_ ?_ <;> intro hc)) <;> (refine vl ?_; refine KO_nil ?_))
      all_goals (repeat' (first | refine K_seq ?_ | refine k_cond rfl ?_ | refine K_skip ?_ | refine K_exit ?_ | refine k_block ?_ | refine K_scope ?_ | (refine K_region (id := 18) ?_; refine mv ?_; (first | refine ad ?_ | refine vl ?_); refine mv ?_; refine KO_nil ?_) | (refine K_region (id := 19) ?_; refine mv ?_; refine mv ?_; refine KO_nil ?_)))
      · refine ⟨(i, c), ?_, ?_, (by repeat (first | exact Ks.le_nil _ | refine Ks.le_cons rfl ?_ | refine Ks.le_int ?_))⟩
        · show c - i < j - i; omega
        · refine ⟨S, by omega, h2, fun k q1 q2 => ?_⟩
          have hcl := hd.1 (by assumption)
          rcases Nat.lt_or_ge c k with q | q
          · rcases Classical.em (lexi key (l.getD m default) (l.getD k default)) with q3 | q3
            · exact q3
            · exact absurd hcl (W.ntr (M.sl c k (by omega) q (by omega)) q3)
          · obtain rfl : k = c := by omega
            exact hcl
      · refine ⟨(c + 1, j), ?_, ?_, (by repeat (first | exact Ks.le_nil _ | refine Ks.le_cons rfl ?_ | refine Ks.le_int ?_))⟩
        · show j - (c + 1) < j - i; omega
        · refine ⟨S, by omega, fun k q1 q2 => ?_, h3⟩
          have hcl : ¬ lexi key (l.getD m default) (l.getD c default) := fun q => absurd (hd.2 q) (by assumption)
          rcases Nat.lt_or_ge k c with q | q
          · exact W.ntr (M.sl k c (by omega) q (by omega)) hcl
          · obtain rfl : k = c := by omega
            exact hcl
    · obtain rfl : i = j := by omega
      refine k_loop (σ := Nat × List Int) (fun (k, c) h' => Hs h0 h' (.sl v 3 1 eI c :: rs) ∧ (i ≤ k ∧ k ≤ m) ∧ Sw a (m + 1) l c ∧ IsDown m k l c) (fun (k, c) => k) (fun (k, c) => [(0, v), (1, .int .i64 a), (2, .int .i64 m), (3, .int .i64 (m + 1 : Nat)), (4, cvV g cap), (14, .int .i64 i), (17, .int .i64 k)]) (m, l) (by repeat (first | exact Ks.le_nil _ | refine Ks.le_cons rfl ?_ | refine Ks.le_int ?_)) ?_ ?_
      · exact ⟨S, by omega, .refl _, .start⟩
      clear S
      rintro ⟨k, c⟩ h ⟨S, k1, k2, k3⟩
      have hcl := k2.len
      all_goals (repeat' (first | refine K_seq ?_ | refine k_cond rfl ?_ | refine K_skip ?_ | refine K_exit ?_ | refine k_block ?_ | refine K_scope ?_ | (refine K_region (id := 21) ?_; refine mv ?_; refine mv ?_; (first | refine cT ?_ | refine cF ?_ | (refine cS ?_ ?_ <;> intro hc)) <;> (refine KO_nil ?_)) | (refine K_region (id := 22) ?_; refine mv ?_; (first | refine sb ?_ | refine vl ?_); refine mv ?_; refine KO_nil ?_) | (refine K_draw (id := 23) ?_; refine mv ?_; refine mv ?_; refine mv ?_; refine mv ?_; (first | refine sb ?_ | refine vl ?_); refine mv ?_; refine mv ?_; (first | refine sb ?_ | refine vl ?_); (first | refine ixB S ?_ | refine ixS2 S rfl rfl ?_); (first | refine lB S rfl rfl ?_ | refine lES2 S rfl rfl ?_ | refine lEB S ?_ | refine lH S ?_); refine mv ?_; refine mv ?_; (first | refine ixB S ?_ | refine ixS2 S rfl rfl ?_); (first | refine lB S rfl rfl ?_ | refine lES2 S rfl rfl ?_ | refine lEB S ?_ | refine lH S ?_); (first | refine ixB S ?_ | refine ixS2 S rfl rfl ?_); (first | (refine sB S rfl rfl ?_; clear S; intro h S) | (refine sE2 S rfl rfl ?_; clear S; intro h S)); (first | refine ixB S ?_ | refine ixS2 S rfl rfl ?_); (first | (refine sB S rfl rfl ?_; clear S; intro h S) | (refine sE2 S rfl rfl ?_; clear S; intro h S)); refine KO_nil ?_)))
      · simp only [toNat_pred, Int.toNat_natCast] at S
        refine ⟨(k - 1, swp c k (k - 1)), ?_, ?_, (by repeat (first | exact Ks.le_nil _ | refine Ks.le_cons rfl ?_ | refine Ks.le_int ?_))⟩
        · show k - 1 < k; omega
        · exact ⟨S, by omega, k2.step _ _ ⟨by omega, by omega⟩ ⟨by omega, by omega⟩ (by omega), k3.next (by omega) (by omega)⟩
      · obtain rfl : k = i := by omega
        refine K_ret ⟨_, rfl, ?_⟩
        exact ⟨c, k2, M.down (by omega) h2 h3 k3, S⟩
  · obtain ⟨mid, hmid⟩ : ∃ mid, mid = (a + b) / 2 := ⟨_, rfl⟩
    have hc := half_sum a b
    rw [← hmid] at hc
    (try refine K_seq ?_); refine K_region (id := 24) ?_; refine mv ?_; refine mv ?_; (first | refine ad ?_ | refine vl ?_); (first | refine cW ?_ | refine vl ?_); (first | refine sR1 ?_ | refine sR ?_); (first | refine cI ?_ | refine vl ?_); refine mv ?_; refine KO_nil ?_
    simp only [hc]
    (try refine K_seq ?_); refine K_region (id := 25) ?_; refine mv ?_; refine mv ?_; (first | refine ad ?_ | refine vl ?_); refine mv ?_; refine KO_nil ?_
    (try refine K_seq ?_); refine K_region (id := 26) ?_; refine mv ?_; refine mv ?_; refine KO_nil ?_
    refine K_cut (σ := Nat × Nat) (fun (s, r) h' => Hs h0 h' (.sl v 3 1 eI l :: rs) ∧ s = (if m > mid then mid + m - b else a) ∧ r = (if m > mid then mid else m)) (fun (s, r) => [(0, v), (1, .int .i64 a), (2, .int .i64 m), (3, .int .i64 b), (4, cvV g cap), (18, .int .i64 mid), (19, .int .i64 (mid + m : Nat)), (20, .int .i64 s), (21, .int .i64 r)]) ?_ ?_
    · all_goals (repeat' (first | refine K_seq ?_ | refine k_cond rfl ?_ | refine K_skip ?_ | refine K_exit ?_ | refine k_block ?_ | refine K_scope ?_ | (refine K_region (id := 27) ?_; refine mv ?_; refine mv ?_; (first | refine cT ?_ | refine cF ?_ | (refine cS ?_ ?_ <;> intro hc)) <;> (refine KO_nil ?_)) | (refine K_region (id := 28) ?_; refine mv ?_; refine mv ?_; (first | refine sb ?_ | refine vl ?_); refine mv ?_; refine KO_nil ?_) | (refine K_region (id := 29) ?_; refine mv ?_; refine mv ?_; refine KO_nil ?_) | (refine K_region (id := 30) ?_; refine mv ?_; refine mv ?_; refine KO_nil ?_) | (refine K_region (id := 31) ?_; refine mv ?_; refine mv ?_; refine KO_nil ?_)))
      · refine ⟨(mid + m - b, mid), ⟨S, ?_, ?_⟩, ((by repeat (first | exact Ks.le_nil _ | refine Ks.le_cons rfl ?_ | refine Ks.le_int ?_)))⟩ <;> (show _ = ite _ _ _; rw [if_pos (by omega)])
      · refine ⟨(a, m), ⟨S, ?_, ?_⟩, ((by repeat (first | exact Ks.le_nil _ | refine Ks.le_cons rfl ?_ | refine Ks.le_int ?_)))⟩ <;> (show _ = ite _ _ _; rw [if_neg (by omega)])
    clear S
    rintro ⟨s0, r0⟩ h ⟨S, hs0, hr0⟩
    have hsr : s0 ≤ r0 ∧ a ≤ s0 ∧ r0 ≤ m ∧ r0 ≤ mid ∧ mid + m ≤ s0 + b := by
      split at hs0 <;> split at hr0 <;> omega
    skip
    all_goals (repeat' (first | refine K_seq ?_ | refine k_cond rfl ?_ | refine K_skip ?_ | refine K_exit ?_ | refine k_block ?_ | refine K_scope ?_ | (refine K_region (id := 32) ?_; refine mv ?_; (first | refine sb ?_ | refine vl ?_); refine mv ?_; refine KO_nil ?_)))
    refine k_loop (σ := Nat × Nat) (fun (s, r) h' => Hs h0 h' (.sl v 3 1 eI l :: rs) ∧ SrI key a m b mid s r l) (fun (s, r) => r - s) (fun (s, r) => [(0, v), (1, .int .i64 a), (2, .int .i64 m), (3, .int .i64 b), (4, cvV g cap), (18, .int .i64 mid), (19, .int .i64 (mid + m : Nat)), (20, .int .i64 s), (21, .int .i64 r), (22, .int .i64 (mid + m - 1 : Nat))]) (s0, r0) (by repeat (first | exact Ks.le_nil _ | refine Ks.le_cons rfl ?_ | refine Ks.le_int ?_)) ?_ ?_
    · exact ⟨S, by show ite _ _ _ ≤ s0; rw [← hs0]; exact Nat.le_refl _, hsr.1, by show r0 ≤ ite _ _ _; rw [← hr0]; exact Nat.le_refl _, by show ite _ _ _ < s0 → _; rw [← hs0]; omega, by show r0 < ite _ _ _ → _; rw [← hr0]; omega⟩
    clear S
    rintro ⟨s, r⟩ h ⟨S, I⟩
    have i1 := I.lo
    have i2 := I.hi
    have i3 := I.sr
    rw [← hs0] at i1
    rw [← hr0] at i2
    all_goals (repeat' (first | refine K_seq ?_ | refine k_cond rfl ?_ | refine K_skip ?_ | refine K_exit ?_ | refine k_block ?_ | refine K_scope ?_ | (refine K_region (id := 33) ?_; refine mv ?_; refine mv ?_; (first | refine cT ?_ | refine cF ?_ | (refine cS ?_ ?_ <;> intro hc)) <;> (refine KO_nil ?_)) | (refine K_region (id := 34) ?_; refine mv ?_; refine mv ?_; (first | refine ad ?_ | refine vl ?_); (first | refine cW ?_ | refine vl ?_); (first | refine sR1 ?_ | refine sR ?_); (first | refine cI ?_ | refine vl ?_); refine mv ?_; refine KO_nil ?_) | (refine K_draw (id := 35) ?_; refine mv ?_; refine mv ?_; refine mv ?_; refine mv ?_; (first | refine sb ?_ | refine vl ?_); (first | refine ixB S ?_ | refine ixS2 S rfl rfl ?_); (first | refine lB S rfl rfl ?_ | refine lES2 S rfl rfl ?_ | refine lEB S ?_ | refine lH S ?_); refine mv ?_; refine mv ?_; (first | refine ixB S ?_ | refine ixS2 S rfl rfl ?_); (first | refine lB S rfl rfl ?_ | refine lES2 S rfl rfl ?_ | refine lEB S ?_ | refine lH S ?_))))
    · have hc := half_sum s r
      obtain ⟨c, hcc⟩ : ∃ c, c = (s + r) / 2 := ⟨_, rfl⟩
      rw [← hcc] at hc
      have e1 : (((mid + m - 1 : Nat) : Int) - (c : Int)).toNat = mid + m - 1 - c := by omega
      simp only [hc, e1, Int.toNat_natCast]
      (refine KO_call rfl rfl rfl rfl ((C _ _ _ S.ext (hp (mid + m - 1 - c) (by omega) (by omega)) (hp c (by omega) (by omega))).mono ?_); rintro _ h ⟨d, rfl, hd, x⟩) <;> (replace S := S.join0 x; clear x; have hd := hd.trans (lexi_key (M.cr c (mid + m - 1 - c) (by omega) (by omega) (by omega) (by omega))).symm; (first | refine cT ?_ | refine cF ?_ | (refine cS ?_ ?_ <;> intro hc)) <;> (refine vl ?_; refine KO_nil ?_))
      all_goals (repeat' (first | refine K_seq ?_ | refine k_cond rfl ?_ | refine K_skip ?_ | refine K_exit ?_ | refine k_block ?_ | refine K_scope ?_ | (refine K_region (id := 33) ?_; refine mv ?_; refine mv ?_; (first | refine cT ?_ | refine cF ?_ | (refine cS ?_ ?_ <;> intro hc)) <;> (refine KO_nil ?_)) | (refine K_region (id := 34) ?_; refine mv ?_; refine mv ?_; (first | refine ad ?_ | refine vl ?_); (first | refine cW ?_ | refine vl ?_); (first | refine sR1 ?_ | refine sR ?_); (first | refine cI ?_ | refine vl ?_); refine mv ?_; refine KO_nil ?_) | (refine K_draw (id := 35) ?_; refine mv ?_; refine mv ?_; refine mv ?_; refine mv ?_; (first | refine sb ?_ | refine vl ?_); (first | refine ixB S ?_ | refine ixS2 S rfl rfl ?_); (first | refine lB S rfl rfl ?_ | refine lES2 S rfl rfl ?_ | refine lEB S ?_ | refine lH S ?_); refine mv ?_; refine mv ?_; (first | refine ixB S ?_ | refine ixS2 S rfl rfl ?_); (first | refine lB S rfl rfl ?_ | refine lES2 S rfl rfl ?_ | refine lEB S ?_ | refine lH S ?_)) | (refine K_region (id := 36) ?_; refine mv ?_; (first | refine ad ?_ | refine vl ?_); refine mv ?_; refine KO_nil ?_) | (refine K_region (id := 37) ?_; refine mv ?_; refine mv ?_; refine KO_nil ?_) | (refine K_region (id := 38) ?_; refine mv ?_; refine mv ?_; (first | refine sb ?_ | refine vl ?_); refine mv ?_; refine KO_nil ?_) | (refine K_region (id := 39) ?_; refine mv ?_; refine mv ?_; (first | refine cT ?_ | refine cF ?_ | (refine cS ?_ ?_ <;> intro hc)) <;> (refine mv ?_; (first | refine off ?_ | refine mv ?_); (first | refine off ?_ | refine mv ?_); (first | refine off ?_ | (first | refine cT ?_ | refine cF ?_ | (refine cS ?_ ?_ <;> intro hc))) <;> (refine vl ?_; refine KO_nil ?_))) | (refine K_region (id := 40) ?_; refine mv ?_; refine mv ?_; refine mv ?_; refine mv ?_; refine mv ?_; skip) | (refine K_region (id := 41) ?_; refine mv ?_; refine mv ?_; (first | refine cT ?_ | refine cF ?_ | (refine cS ?_ ?_ <;> intro hc)) <;> (refine mv ?_; (first | refine off ?_ | refine mv ?_); (first | refine off ?_ | refine mv ?_); (first | refine off ?_ | (first | refine cT ?_ | refine cF ?_ | (refine cS ?_ ?_ <;> intro hc))) <;> (refine vl ?_; refine KO_nil ?_))) | (refine K_region (id := 42) ?_; refine mv ?_; refine mv ?_; refine mv ?_; refine mv ?_; refine mv ?_; skip) | (refine K_region (id := 43) ?_; refine mv ?_; refine mv ?_; (first | refine cT ?_ | refine cF ?_ | (refine cS ?_ ?_ <;> intro hc)) <;> (refine mv ?_; (first | refine off ?_ | refine mv ?_); (first | refine off ?_ | refine mv ?_); (first | refine off ?_ | (first | refine cT ?_ | refine cF ?_ | (refine cS ?_ ?_ <;> intro hc))) <;> (refine vl ?_; refine KO_nil ?_))) | (refine K_region (id := 44) ?_; refine mv ?_; refine mv ?_; refine mv ?_; refine mv ?_; refine mv ?_; skip)))
      · refine ⟨(s, c), ?_, ?_, (by repeat (first | exact Ks.le_nil _ | refine Ks.le_cons rfl ?_ | refine Ks.le_int ?_))⟩
        · show c - s < r - s; omega
        · exact ⟨S, I.lo, by omega, by have := I.hi; omega, I.low, fun _ => hd.1 (by assumption)⟩
      · refine ⟨(c + 1, r), ?_, ?_, (by repeat (first | exact Ks.le_nil _ | refine Ks.le_cons rfl ?_ | refine Ks.le_int ?_))⟩
        · show r - (c + 1) < r - s; omega
        · refine ⟨S, by have := I.lo; omega, by omega, I.hi, fun _ => ?_, I.high⟩
          rw [show mid + m - (c + 1) = mid + m - 1 - c by omega, Nat.add_sub_cancel]
          exact fun q => absurd (hd.2 q) (by assumption)
    · obtain rfl : s = r := by omega
      (try refine K_seq ?_); refine K_region (id := 38) ?_; refine mv ?_; refine mv ?_; (first | refine sb ?_ | refine vl ?_); refine mv ?_; refine KO_nil ?_
      refine K_cut (σ := List Int) (fun l2 h' => Hs h0 h' (.sl v 3 1 eI l2 :: rs) ∧ Sw a b l l2 ∧ IsRot s m (mid + m - s) l l2) (fun l2 => [(0, v), (1, .int .i64 a), (2, .int .i64 m), (3, .int .i64 b), (4, cvV g cap), (18, .int .i64 mid), (19, .int .i64 (mid + m : Nat)), (20, .int .i64 s), (24, .int .i64 (mid + m - s : Nat))]) ?_ ?_
      · all_goals (repeat' (first | refine K_seq ?_ | refine k_cond rfl ?_ | refine K_skip ?_ | refine K_exit ?_ | refine k_block ?_ | refine K_scope ?_ | (refine K_region (id := 39) ?_; refine mv ?_; refine mv ?_; (first | refine cT ?_ | refine cF ?_ | (refine cS ?_ ?_ <;> intro hc)) <;> (refine mv ?_; (first | refine off ?_ | refine mv ?_); (first | refine off ?_ | refine mv ?_); (first | refine off ?_ | (first | refine cT ?_ | refine cF ?_ | (refine cS ?_ ?_ <;> intro hc))) <;> (refine vl ?_; refine KO_nil ?_)))))
        · have e1 : ((mid + m : Nat) : Int) - (s : Int) = ((mid + m - s : Nat) : Int) := by omega
          refine K_region (id := 40) ?_
          (refine mv ?_; refine mv ?_; refine mv ?_; refine mv ?_; refine mv ?_; skip)
          simp only [e1]
          (refine KO_fn rfl rfl rfl rfl rfl ((rot_ok s m (mid + m - s) S (by omega) (by omega) (by omega)).mono ?_); rintro _ h ⟨l2, g1, g2, S2⟩) <;> (replace S := S2; clear S2; refine KO_nil ?_)
          all_goals (repeat' (first | refine K_seq ?_ | refine k_cond rfl ?_ | refine K_skip ?_ | refine K_exit ?_ | refine k_block ?_ | refine K_scope ?_ | (refine K_region (id := 39) ?_; refine mv ?_; refine mv ?_; (first | refine cT ?_ | refine cF ?_ | (refine cS ?_ ?_ <;> intro hc)) <;> (refine mv ?_; (first | refine off ?_ | refine mv ?_); (first | refine off ?_ | refine mv ?_); (first | refine off ?_ | (first | refine cT ?_ | refine cF ?_ | (refine cS ?_ ?_ <;> intro hc))) <;> (refine vl ?_; refine KO_nil ?_))) | (refine K_region (id := 40) ?_; refine mv ?_; refine mv ?_; refine mv ?_; refine mv ?_; refine mv ?_; skip) | (refine K_region (id := 41) ?_; refine mv ?_; refine mv ?_; (first | refine cT ?_ | refine cF ?_ | (refine cS ?_ ?_ <;> intro hc)) <;> (refine mv ?_; (first | refine off ?_ | refine mv ?_); (first | refine off ?_ | refine mv ?_); (first | refine off ?_ | (first | refine cT ?_ | refine cF ?_ | (refine cS ?_ ?_ <;> intro hc))) <;> (refine vl ?_; refine KO_nil ?_))) | (refine K_region (id := 42) ?_; refine mv ?_; refine mv ?_; refine mv ?_; refine mv ?_; refine mv ?_; skip) | (refine K_region (id := 43) ?_; refine mv ?_; refine mv ?_; (first | refine cT ?_ | refine cF ?_ | (refine cS ?_ ?_ <;> intro hc)) <;> (refine mv ?_; (first | refine off ?_ | refine mv ?_); (first | refine off ?_ | refine mv ?_); (first | refine off ?_ | (first | refine cT ?_ | refine cF ?_ | (refine cS ?_ ?_ <;> intro hc))) <;> (refine vl ?_; refine KO_nil ?_))) | (refine K_region (id := 44) ?_; refine mv ?_; refine mv ?_; refine mv ?_; refine mv ?_; refine mv ?_; skip)))
          exact ⟨l2, ⟨S, g1.mono (by omega) (by omega) hb, g2⟩, ((by repeat (first | exact Ks.le_nil _ | refine Ks.le_cons rfl ?_ | refine Ks.le_int ?_)))⟩
        · refine ⟨l, ⟨S, .refl _, ?_⟩, ((by repeat (first | exact Ks.le_nil _ | refine Ks.le_cons rfl ?_ | refine Ks.le_int ?_)))⟩
          obtain e : mid + m - s = m := by omega
          rw [e]; exact .none
        · refine ⟨l, ⟨S, .refl _, ?_⟩, ((by repeat (first | exact Ks.le_nil _ | refine Ks.le_cons rfl ?_ | refine Ks.le_int ?_)))⟩
          obtain e : s = m := by omega
          rw [e]; exact .none2
      clear S
      rintro l2 h ⟨S, g1, g2⟩
      obtain ⟨z1, M1, M2, z2⟩ := M.search hmid hab I g2
      have hl2 := g1.len
      have hp2 := g1.all hp
      skip
      refine K_cut (σ := List Int) (fun l3 h' => Hs h0 h' (.sl v 3 1 eI l3 :: rs) ∧ Sw a mid l2 l3 ∧ Srt (lexi key) a mid l3) (fun l3 => [(0, v), (1, .int .i64 a), (2, .int .i64 m), (3, .int .i64 b), (4, cvV g cap), (18, .int .i64 mid), (24, .int .i64 (mid + m - s : Nat))]) ?_ ?_
      · all_goals (repeat' (first | refine K_seq ?_ | refine k_cond rfl ?_ | refine K_skip ?_ | refine K_exit ?_ | refine k_block ?_ | refine K_scope ?_ | (refine K_region (id := 41) ?_; refine mv ?_; refine mv ?_; (first | refine cT ?_ | refine cF ?_ | (refine cS ?_ ?_ <;> intro hc)) <;> (refine mv ?_; (first | refine off ?_ | refine mv ?_); (first | refine off ?_ | refine mv ?_); (first | refine off ?_ | (first | refine cT ?_ | refine cF ?_ | (refine cS ?_ ?_ <;> intro hc))) <;> (refine vl ?_; refine KO_nil ?_)))))
        · refine K_region (id := 42) ?_
          (refine mv ?_; refine mv ?_; refine mv ?_; refine mv ?_; refine mv ?_; skip)
          (refine KO_fn rfl rfl rfl rfl rfl ((ih a s mid S (by omega) (fun k q1 q2 => hp2 k q1 (by omega)) (by omega) (by omega) (by omega) M1).mono ?_); rintro _ h ⟨l3, g3, g4, S2⟩) <;> (replace S := S2; clear S2; refine KO_nil ?_)
          all_goals (repeat' (first | refine K_seq ?_ | refine k_cond rfl ?_ | refine K_skip ?_ | refine K_exit ?_ | refine k_block ?_ | refine K_scope ?_ | (refine K_region (id := 41) ?_; refine mv ?_; refine mv ?_; (first | refine cT ?_ | refine cF ?_ | (refine cS ?_ ?_ <;> intro hc)) <;> (refine mv ?_; (first | refine off ?_ | refine mv ?_); (first | refine off ?_ | refine mv ?_); (first | refine off ?_ | (first | refine cT ?_ | refine cF ?_ | (refine cS ?_ ?_ <;> intro hc))) <;> (refine vl ?_; refine KO_nil ?_))) | (refine K_region (id := 42) ?_; refine mv ?_; refine mv ?_; refine mv ?_; refine mv ?_; refine mv ?_; skip) | (refine K_region (id := 43) ?_; refine mv ?_; refine mv ?_; (first | refine cT ?_ | refine cF ?_ | (refine cS ?_ ?_ <;> intro hc)) <;> (refine mv ?_; (first | refine off ?_ | refine mv ?_); (first | refine off ?_ | refine mv ?_); (first | refine off ?_ | (first | refine cT ?_ | refine cF ?_ | (refine cS ?_ ?_ <;> intro hc))) <;> (refine vl ?_; refine KO_nil ?_))) | (refine K_region (id := 44) ?_; refine mv ?_; refine mv ?_; refine mv ?_; refine mv ?_; refine mv ?_; skip)))
          exact ⟨l3, ⟨S, g3, g4⟩, ((by repeat (first | exact Ks.le_nil _ | refine Ks.le_cons rfl ?_ | refine Ks.le_int ?_)))⟩
        · refine ⟨l2, ⟨S, .refl _, ?_⟩, ((by repeat (first | exact Ks.le_nil _ | refine Ks.le_cons rfl ?_ | refine Ks.le_int ?_)))⟩
          obtain e : s = mid := by omega
          rw [e] at M1; exact M1.sl
        · refine ⟨l2, ⟨S, .refl _, ?_⟩, ((by repeat (first | exact Ks.le_nil _ | refine Ks.le_cons rfl ?_ | refine Ks.le_int ?_)))⟩
          obtain e : s = a := by omega
          rw [e] at M1; exact M1.sr
      clear S
      rintro l3 h ⟨S, g3, g4⟩
      have hl3 := g3.len
      have M3 := M2.sw_right g3 (by omega)
      have g13 := g1.trans (g3.mono (by omega) (by omega) (by omega))
      have hp3 := g13.all hp
      skip
      all_goals (repeat' (first | refine K_seq ?_ | refine k_cond rfl ?_ | refine K_skip ?_ | refine K_exit ?_ | refine k_block ?_ | refine K_scope ?_ | (refine K_region (id := 43) ?_; refine mv ?_; refine mv ?_; (first | refine cT ?_ | refine cF ?_ | (refine cS ?_ ?_ <;> intro hc)) <;> (refine mv ?_; (first | refine off ?_ | refine mv ?_); (first | refine off ?_ | refine mv ?_); (first | refine off ?_ | (first | refine cT ?_ | refine cF ?_ | (refine cS ?_ ?_ <;> intro hc))) <;> (refine vl ?_; refine KO_nil ?_))) | (refine K_region (id := 44) ?_; refine mv ?_; refine mv ?_; refine mv ?_; refine mv ?_; refine mv ?_; skip)))
      · (refine KO_fn rfl rfl rfl rfl rfl ((ih mid (mid + m - s) b S (by omega) (fun k q1 q2 => hp3 k (by omega) q2) (by omega) (by omega) (by omega) M3).mono ?_); rintro _ h ⟨l4, g5, g6, S2⟩) <;> (replace S := S2; clear S2; refine KO_nil ?_)
        all_goals (repeat' (first | refine K_seq ?_ | refine k_cond rfl ?_ | refine K_skip ?_ | refine K_exit ?_ | refine k_block ?_ | refine K_scope ?_))
        refine ⟨_, rfl, ?_⟩
        exact ⟨l4, g13.trans (g5.mono (by omega) (by omega) (by omega)), srt_halves z2 g3 g4 g5 g6 (by omega), S⟩
      · refine ⟨_, rfl, ?_⟩
        obtain e : mid + m - s = b := by omega
        rw [e] at M3
        exact ⟨l3, g13, srt_halves z2 g3 g4 (.refl _) M3.sl (by omega), S⟩
      · refine ⟨_, rfl, ?_⟩
        obtain e : mid + m - s = mid := by omega
        rw [e] at M3
        exact ⟨l3, g13, srt_halves z2 g3 g4 (.refl _) M3.sr (by omega), S⟩

theorem stable_ok {h0 h : AH} {rs : List Rs} {v : Value} {l : List Int} {g : Nat} {cap : List Value} {key : Int → Int} {p : Int → Prop} (S : Hs h0 h (.sl v 3 1 eI l :: rs)) (C : KeyFn h0 g cap key p) (hp : ∀ k, 0 ≤ k → k < l.length → p (l.getD k default)) (hl : l.length < 40) (hi : Inc 0 l.length l) :
    Fn Tryz.prog Xh 138 [v, .int .i64 l.length, cvV g cap] h (fun _ h' => ∃ l', Sw 0 l.length l l' ∧ Srt (lexi key) 0 l.length l' ∧ Hs h0 h' (.sl v 3 1 eI l' :: rs)) := by
  obtain ⟨n, hn⟩ : ∃ n, n = l.length := ⟨_, rfl⟩
  rw [← hn] at hi hl hp ⊢
  have M0 : ∀ {l1 l2 : List Int}, Sw 0 20 l l1 → Srt (lexi key) 0 20 l1 → Sw 20 n l1 l2 → Srt (lexi key) 20 n l2 → 20 < n → Mrg key 0 20 n l2 := fun {l1 l2} s1 q1 s2 q2 hn2 => by
    refine ⟨fun i j a1 a2 a3 => ?_, q2, fun x y a1 a2 a3 a4 => ?_⟩
    · rw [s2.out (.inl a3), s2.out (k := i) (.inl (by omega))]; exact q1 i j a1 a2 a3
    · rw [s2.out (.inl a2)]
      obtain ⟨i, i1, i2, i3⟩ := s1.in_ a1 a2
      obtain ⟨j, j1, j2, j3⟩ := s2.in_ a3 a4
      rw [i3, j3, s1.out (.inr j1)]
      exact hi i j i1 (by omega) (by omega)
  refine Fn_K rfl Tryz.func138 rfl rfl ?_
  all_goals (repeat' (first | refine K_seq ?_ | refine k_cond rfl ?_ | refine K_skip ?_ | refine K_exit ?_ | refine k_block ?_ | refine K_scope ?_ | (refine K_region (id := 0) ?_; refine mv ?_; refine KO_nil ?_) | (refine K_region (id := 1) ?_; refine mv ?_; refine mv ?_; refine mv ?_; refine KO_nil ?_)))
  refine k_loop (σ := Nat × List Int) (fun (a, m) h' => Hs h0 h' (.sl v 3 1 eI m :: rs) ∧ ((a = 0 ∧ m = l) ∨ (a = 20 ∧ 20 ≤ n ∧ Sw 0 20 l m ∧ Srt (lexi key) 0 20 m))) (fun (a, m) => 100 - a) (fun (a, m) => [(0, v), (1, .int .i64 n), (2, cvV g cap), (6, .int .i64 20), (7, .int .i64 a), (8, .int .i64 (a + 20 : Nat))]) (0, l) (by repeat (first | exact Ks.le_nil _ | refine Ks.le_cons rfl ?_ | refine Ks.le_int ?_)) ?_ ?_
  · exact ⟨S, .inl ⟨rfl, rfl⟩⟩
  clear S
  rintro ⟨a, m⟩ h ⟨S, hm⟩
  all_goals (repeat' (first | refine K_seq ?_ | refine k_cond rfl ?_ | refine K_skip ?_ | refine K_exit ?_ | refine k_block ?_ | refine K_scope ?_ | (refine K_region (id := 2) ?_; refine mv ?_; refine mv ?_; (first | refine cT ?_ | refine cF ?_ | (refine cS ?_ ?_ <;> intro hc)) <;> (refine KO_nil ?_)) | (refine K_region (id := 3) ?_; refine mv ?_; refine mv ?_; refine mv ?_; refine mv ?_; skip) | (refine K_region (id := 6) ?_; refine mv ?_; refine mv ?_; refine mv ?_; refine mv ?_; skip)))
  · obtain ⟨rfl, rfl⟩ : a = 0 ∧ m = l := by
      rcases hm with hm | hm
      · exact hm
      · omega
    (refine KO_fn rfl rfl rfl rfl rfl ((insK_ok 0 20 S C (fun k q1 q2 => hp k q1 (by omega)) (by omega) (by omega) (by omega) (fun i j q1 q2 q3 => hi i j q1 q2 (by omega))).mono ?_); rintro _ h ⟨l2, g1, g2, S2⟩) <;> (replace S := S2; clear S2; refine KO_nil ?_)
    all_goals (repeat' (first | refine K_seq ?_ | refine k_cond rfl ?_ | refine K_skip ?_ | refine K_exit ?_ | refine k_block ?_ | refine K_scope ?_ | (refine K_region (id := 4) ?_; refine mv ?_; refine mv ?_; refine KO_nil ?_) | (refine K_region (id := 5) ?_; refine mv ?_; refine mv ?_; (first | refine ad ?_ | refine vl ?_); refine mv ?_; refine KO_nil ?_)))
    refine ⟨(20, l2), ?_, ?_, (by repeat (first | exact Ks.le_nil _ | refine Ks.le_cons rfl ?_ | refine Ks.le_int ?_))⟩
    · show 100 - 20 < 100 - 0; omega
    · exact ⟨S, .inr ⟨rfl, by omega, g1, g2⟩⟩
  have fin : ∀ h l2, Hs h0 h (.sl v 3 1 eI l2 :: rs) → Sw 0 n l l2 → (n ≤ 20 → Srt (lexi key) 0 n l2) → (20 < n → Mrg key 0 20 n l2) → ∃ l2', l2 = l2' ∧ Sw 0 n l l2' ∧ (n ≤ 20 → Srt (lexi key) 0 n l2') ∧ (20 < n → Mrg key 0 20 n l2') := fun h l2 _ a b c => ⟨l2, rfl, a, b, c⟩
  have hmp : ∀ k, a ≤ k → k < n → p (m.getD k default) := fun k q1 q2 => by
    rcases hm with ⟨rfl, rfl⟩ | ⟨rfl, h1, h2, h3⟩
    · exact hp k q1 q2
    · rw [h2.out (.inr q1)]; exact hp k (by omega) q2
  have hml : m.length = n := by
    rcases hm with ⟨rfl, rfl⟩ | ⟨rfl, h1, h2, h3⟩
    · exact hn.symm
    · rw [h2.len, hn]
  have hmi : Inc a n m := fun i j q1 q2 q3 => by
    rcases hm with ⟨rfl, rfl⟩ | ⟨rfl, h1, h2, h3⟩
    · exact hi i j q1 q2 q3
    · rw [h2.out (k := j) (.inr (by omega)), h2.out (k := i) (.inr q1)]; exact hi i j (by omega) q2 q3
  (refine KO_fn rfl rfl rfl rfl rfl ((insK_ok a n S C hmp (by omega) (by omega) (by omega) hmi).mono ?_); rintro _ h ⟨l2, g1, g2, S2⟩) <;> (replace S := S2; clear S2; refine KO_nil ?_)
  have hsw : Sw 0 n l l2 := by
    rcases hm with ⟨rfl, rfl⟩ | ⟨rfl, h1, h2, h3⟩
    · exact g1
    · exact (h2.mono (by omega) h1 (by omega)).trans (g1.mono (by omega) (by omega) (by omega))
  have hs1 : n ≤ 20 → Srt (lexi key) 0 n l2 := fun q => by
    rcases hm with ⟨rfl, rfl⟩ | ⟨rfl, h1, h2, h3⟩
    · exact g2
    · obtain rfl : n = 20 := by omega
      intro i j a1 a2 a3
      rw [g1.out (.inl a3), g1.out (k := i) (.inl (by omega))]; exact h3 i j a1 a2 a3
  have hs2 : 20 < n → Mrg key 0 20 n l2 := fun q => by
    rcases hm with ⟨rfl, rfl⟩ | ⟨rfl, h1, h2, h3⟩
    · omega
    · exact M0 h2 h3 g1 g2 q
  clear hm hmp hml hmi g1 g2 fin
  all_goals (repeat' (first | refine K_seq ?_ | refine k_cond rfl ?_ | refine K_skip ?_ | refine K_exit ?_ | refine k_block ?_ | refine K_scope ?_))
  refine k_loop (σ := Nat × List Int) (fun (bs, m) h' => Hs h0 h' (.sl v 3 1 eI m :: rs) ∧ Sw 0 n l m ∧ ((bs = 20 ∧ (n ≤ 20 → Srt (lexi key) 0 n m) ∧ (20 < n → Mrg key 0 20 n m)) ∨ (bs = 40 ∧ Srt (lexi key) 0 n m))) (fun (bs, m) => 100 - bs) (fun (bs, m) => [(0, v), (1, .int .i64 n), (2, cvV g cap), (6, .int .i64 bs)]) (20, l2) (by repeat (first | exact Ks.le_nil _ | refine Ks.le_cons rfl ?_ | refine Ks.le_int ?_)) ?_ ?_
  · exact ⟨S, hsw, .inl ⟨rfl, hs1, hs2⟩⟩
  clear S hsw hs1 hs2
  rintro ⟨bs, m⟩ h ⟨S, hsw, hm⟩
  have hml := hsw.len
  all_goals (repeat' (first | refine K_seq ?_ | refine k_cond rfl ?_ | refine K_skip ?_ | refine K_exit ?_ | refine k_block ?_ | refine K_scope ?_ | (refine K_region (id := 7) ?_; refine mv ?_; refine mv ?_; (first | refine cT ?_ | refine cF ?_ | (refine cS ?_ ?_ <;> intro hc)) <;> (refine KO_nil ?_)) | (refine K_region (id := 8) ?_; refine mv ?_; (first | refine ml ?_ | refine vl ?_); refine mv ?_; refine mv ?_; refine KO_nil ?_)))
  · obtain ⟨rfl, -, hM⟩ : bs = 20 ∧ (n ≤ 20 → Srt (lexi key) 0 n m) ∧ (20 < n → Mrg key 0 20 n m) := by
      rcases hm with hm | hm
      · exact hm
      · omega
    have hM := hM (by omega)
    refine k_loop (σ := Unit) (fun _ h' => Hs h0 h' (.sl v 3 1 eI m :: rs)) (fun _ => 0) (fun _ => [(0, v), (1, .int .i64 n), (2, cvV g cap), (6, .int .i64 20), (7, .int .i64 0), (8, .int .i64 40)]) () (by repeat (first | exact Ks.le_nil _ | refine Ks.le_cons rfl ?_ | refine Ks.le_int ?_)) ?_ ?_
    · exact S
    clear S
    rintro - h S
    all_goals (repeat' (first | refine K_seq ?_ | refine k_cond rfl ?_ | refine K_skip ?_ | refine K_exit ?_ | refine k_block ?_ | refine K_scope ?_ | (refine K_region (id := 9) ?_; refine mv ?_; refine mv ?_; (first | refine cT ?_ | refine cF ?_ | (refine cS ?_ ?_ <;> intro hc)) <;> (refine KO_nil ?_)) | (refine K_region (id := 10) ?_; refine mv ?_; refine mv ?_; refine mv ?_; refine mv ?_; (first | refine ad ?_ | refine vl ?_); refine mv ?_; refine mv ?_) | (refine K_region (id := 13) ?_; refine mv ?_; refine mv ?_; (first | refine ad ?_ | refine vl ?_); refine mv ?_; refine KO_nil ?_) | (refine K_region (id := 14) ?_; refine mv ?_; refine mv ?_; (first | refine cT ?_ | refine cF ?_ | (refine cS ?_ ?_ <;> intro hc)) <;> (refine KO_nil ?_)) | (refine K_region (id := 15) ?_; refine mv ?_; refine mv ?_; refine mv ?_; refine mv ?_; refine mv ?_; skip) | (refine K_region (id := 16) ?_; refine mv ?_; (first | refine ml ?_ | refine vl ?_); refine mv ?_; refine KO_nil ?_)))
    (refine KO_fn rfl rfl rfl rfl rfl ((symm_ok C n 0 20 n S (by omega) (fun k q1 q2 => hsw.all hp k q1 q2) (by omega) (by omega) (by omega) hM).mono ?_); rintro _ h ⟨l3, g1, g2, S2⟩) <;> (replace S := S2; clear S2; refine KO_nil ?_)
    all_goals (repeat' (first | refine K_seq ?_ | refine k_cond rfl ?_ | refine K_skip ?_ | refine K_exit ?_ | refine k_block ?_ | refine K_scope ?_ | (refine K_region (id := 16) ?_; refine mv ?_; (first | refine ml ?_ | refine vl ?_); refine mv ?_; refine KO_nil ?_)))
    refine ⟨(40, l3), ?_, ?_, (by repeat (first | exact Ks.le_nil _ | refine Ks.le_cons rfl ?_ | refine Ks.le_int ?_))⟩
    · show 100 - 40 < 100 - 20; omega
    · exact ⟨S, hsw.trans g1, .inr ⟨rfl, g2⟩⟩
  · refine ⟨_, rfl, ?_⟩
    refine ⟨m, hsw, ?_, S⟩
    rcases hm with ⟨rfl, hm, -⟩ | ⟨-, hm⟩
    · exact hm (by omega)
    · exact hm

theorem sortStable_ok {h0 h : AH} {rs : List Rs} {v : Value} {l : List Int} {g : Nat} {cap : List Value} {key : Int → Int} {p : Int → Prop} (S : Hs h0 h (.sl v 3 1 eI l :: rs)) (C : KeyFn h0 g cap key p) (hp : ∀ k, 0 ≤ k → k < l.length → p (l.getD k default)) (hl : l.length < 40) (hi : Inc 0 l.length l) :
    Fn Tryz.prog Xh 89 [v, cvV g cap] h (fun _ h' => ∃ l', Sw 0 l.length l l' ∧ Srt (lexi key) 0 l.length l' ∧ Hs h0 h' (.sl v 3 1 eI l' :: rs)) := by
  refine Fn_K rfl Tryz.func89 rfl rfl ?_
  all_goals (repeat' (first | refine K_seq ?_ | refine k_cond rfl ?_ | refine K_skip ?_ | refine K_exit ?_ | refine k_block ?_ | refine K_scope ?_ | (refine K_region (id := 0) ?_; refine mv ?_; refine mv ?_; (first | refine lnB S ?_ | refine lnS S rfl rfl ?_); refine mv ?_)))
  (refine KO_fn rfl rfl rfl rfl rfl ((stable_ok S C hp hl hi).mono ?_); rintro _ h ⟨l2, g1, g2, S2⟩) <;> (replace S := S2; clear S2; refine KO_nil ?_)
  all_goals (repeat' (first | refine K_seq ?_ | refine k_cond rfl ?_ | refine K_skip ?_ | refine K_exit ?_ | refine k_block ?_ | refine K_scope ?_))
  refine ⟨_, rfl, ?_⟩
  exact ⟨l2, g1, g2, S⟩
end Go.Proofs.Xx

/-
  Distances are less than the number of places; lists in strict order with the same elements.
-/
namespace Go.Proofs.Xx
set_option linter.unusedVariables false

theorem pigeonS : ∀ (n : Nat) (f : Nat → Nat) (d : Nat), (∀ e, e ≤ d → f e < n) → (∀ e e', e ≤ d → e' ≤ d → f e = f e' → e = e') → d < n
  | 0, f, d, h, _ => absurd (h 0 (Nat.zero_le _)) (Nat.not_lt_zero _)
  | n + 1, f, 0, h, _ => Nat.succ_pos _
  | n + 1, f, d + 1, h, k => by
    refine Nat.succ_lt_succ (pigeonS n (fun e => if f e = n then f (d + 1) else f e) d (fun e he => ?_) fun e e' he he' q => ?_)
    · show (if f e = n then f (d + 1) else f e) < n
      have h1 := h e (by omega)
      have h2 := h (d + 1) (Nat.le_refl _)
      split
      · rename_i e1
        have : f (d + 1) ≠ n := fun q => by have := k e (d + 1) (by omega) (Nat.le_refl _) (e1.trans q.symm); omega
        omega
      · omega
    · have q : (if f e = n then f (d + 1) else f e) = (if f e' = n then f (d + 1) else f e') := q
      split at q <;> split at q
      · exact k e e' (by omega) (by omega) (by omega)
      · have := k (d + 1) e' (Nat.le_refl _) (by omega) q; omega
      · have := k e (d + 1) (by omega) (Nat.le_refl _) q; omega
      · exact k e e' (by omega) (by omega) q
section
variable {N : Int → Int → Prop} {n s : Nat}
/-- On a least walk there is a place at each distance. -/
theorem IsDist.chain {d y : Nat} (h : IsDist N n s d y) (hy : y < n) : ∀ e, e ≤ d → ∃ x, x < n ∧ IsDist N n s e x := by
  induction d generalizing y with
  | zero => intro e he; exact ⟨y, hy, by rw [Nat.le_zero.1 he]; exact h⟩
  | succ d ih =>
    intro e he
    rcases Nat.lt_or_ge e (d + 1) with q | q
    · obtain ⟨x, hx, hw, hn⟩ := h.1
      obtain ⟨e', h1, h2⟩ := hw.least
      have : e' = d := by
        rcases Nat.lt_or_ge e' d with q1 | q1
        · exact absurd (show Wk N n s (e' + 1) y from ⟨x, hx, h2.1, hn⟩) (h.2 (e' + 1) (by omega))
        · omega
      subst this
      exact ih h2 hx e (by omega)
    · have : e = d + 1 := by omega
      subst this; exact ⟨y, hy, h⟩
theorem IsDist.ltS {d y : Nat} (h : IsDist N n s d y) (hy : y < n) : d < n := by
  have ch : ∀ e, ∃ x, e ≤ d → x < n ∧ IsDist N n s e x := fun e => by
    by_cases he : e ≤ d
    · obtain ⟨x, hx⟩ := h.chain hy e he; exact ⟨x, fun _ => hx⟩
    · exact ⟨0, fun q => absurd q he⟩
  obtain ⟨f, hf⟩ := Classical.axiomOfChoice ch
  refine pigeonS n f d (fun e he => (hf e he).1) fun e e' he he' q => ?_
  have h1 := (hf e he).2
  have h2 := (hf e' he').2
  rw [q] at h1
  exact h1.unique h2
theorem DistL.bound {l : List Int} (h : DistL N n s l) (y : Nat) (hy : y < n) : -1 ≤ l.getD y default ∧ l.getD y default < n := by
  rcases h.2 y hy with ⟨h1, -⟩ | ⟨d, h1, h2⟩
  · omega
  · have := h2.ltS hy; omega
end

/-- Two lists in strict order with the same elements are the same. -/
theorem strict_ext {α : Type} {lt : α → α → Prop} (irr : ∀ x, ¬ lt x x) (tr : ∀ {x y z}, lt x y → lt y z → lt x z) : ∀ {l m : List α}, l.Pairwise lt → m.Pairwise lt → (∀ x, x ∈ l ↔ x ∈ m) → l = m
  | [], [], _, _, _ => rfl
  | [], y :: m, _, _, h => by have := (h y).2 (by simp); simp at this
  | x :: l, [], _, _, h => by have := (h x).1 (by simp); simp at this
  | x :: l, y :: m, h1, h2, h => by
    rw [List.pairwise_cons] at h1 h2
    have e : x = y := by
      have a := (h x).1 (by simp)
      have b := (h y).2 (by simp)
      rw [List.mem_cons] at a b
      rcases a with a | a
      · exact a
      · rcases b with b | b
        · exact b.symm
        · exact absurd (tr (h1.1 y b) (h2.1 x a)) (irr x)
    subst e
    congr 1
    refine strict_ext irr tr h1.2 h2.2 fun z => ?_
    have hz := h z
    rw [List.mem_cons, List.mem_cons] at hz
    constructor
    · intro q
      rcases hz.1 (.inr q) with r | r
      · subst r; exact absurd (h1.1 z q) (irr z)
      · exact r
    · intro q
      rcases hz.2 (.inr q) with r | r
      · subst r; exact absurd (h2.1 z q) (irr z)
      · exact r
/-- The order of honour: by key, then by number. -/
def HonL (key : Int → Int) (f n : Int) (out : List Int) : Prop := out.Pairwise (lexi key) ∧ ∀ x, x ∈ out ↔ f ≤ x ∧ x < f + n
theorem HonL.unique {key : Int → Int} {f n : Int} {a b : List Int} (ha : HonL key f n a) (hb : HonL key f n b) : a = b :=
  strict_ext (lexi_ord key).irr (lexi_ord key).tr ha.1 hb.1 fun x => (ha.2 x).trans (hb.2 x).symm
theorem Srt.pairwise {α : Type} [Inhabited α] {lt : α → α → Prop} {l : List α} (h : Srt lt 0 l.length l) : l.Pairwise fun x y => ¬ lt y x := by
  rw [List.pairwise_iff_getElem]
  intro i j hi hj hij
  have := h i j (Nat.zero_le _) hij hj
  rw [List.getD_eq_getElem?_getD, List.getD_eq_getElem?_getD, List.getElem?_eq_getElem hi, List.getElem?_eq_getElem hj] at this
  exact this
theorem HonL.of_sorted {key : Int → Int} {f : Int} {n : Nat} {l out : List Int} (hl : l = (List.range n).map fun k : Nat => f + (k : Int)) (hs : Sw 0 l.length l out) (hq : Srt (lexi key) 0 l.length out) : HonL key f n out := by
  have hlen : l.length = n := by rw [hl]; simp
  have hp := hs.perm
  have hnd : l.Pairwise (· ≠ ·) := by
    rw [hl, List.pairwise_map]
    exact List.pairwise_lt_range.imp fun h => by omega
  have hnd2 : out.Pairwise (· ≠ ·) := hp.symm.pairwise hnd (fun h => h.symm)
  refine ⟨?_, fun x => ?_⟩
  · rw [← hs.len] at hq
    have := (hq.pairwise).and hnd2
    refine this.imp fun ⟨h1, h2⟩ => ?_
    unfold lexi at *
    omega
  · rw [hp.mem_iff, hl, List.mem_map]
    constructor
    · rintro ⟨k, hk, rfl⟩
      have := List.mem_range.1 hk
      omega
    · intro ⟨h1, h2⟩
      exact ⟨(x - f).toNat, List.mem_range.2 (by omega), by omega⟩
end Go.Proofs.Xx

/-
  The reference's seats beside and across.
-/
namespace Go.Proofs.Xx
open Go Go.Proofs
set_option linter.unusedSimpArgs false
set_option linter.unusedVariables false
set_option maxRecDepth 100000
set_option maxHeartbeats 4000000

def nx (a k : Int) : Int := if k + 1 = a then 0 else k + 1
def spX (a b k : Int) : Int := if k < a then k else if 0 < b ∧ k = a then a else if k - a - (if 0 < b then 1 else 0) < a then a - 1 - (k - a - (if 0 < b then 1 else 0)) else -1
def spY (a b k : Int) : Int := if k < a then 0 else if 0 < b ∧ k = a then 1 else if k - a - (if 0 < b then 1 else 0) < a then 2 else 1
/-- A table whose sizes fit. -/
structure TabS (t : Tab) : Prop where
  b : TabB t
  pos : 0 < tsize t
theorem TabS.of (t : Tab) (h : 0 < tsize t) : TabS t := by
  refine ⟨?_, h⟩
  unfold tsize sizeOf1 roundSize longSize shoeSize rowSize at h
  unfold TabB
  repeat' split at h
  all_goals omega
theorem TabS.s1 {t : Tab} (h : TabS t) (q : t.shape = 1) : 1 ≤ t.A ∧ t.A ≤ 24 ∧ t.B = 0 ∧ tsize t = t.A := by
  have := h.pos
  unfold tsize sizeOf1 roundSize at this ⊢
  rw [if_pos q] at this ⊢
  split at this <;> simp_all
theorem TabS.s2 {t : Tab} (h : TabS t) (q : t.shape = 2) : 1 ≤ t.A ∧ t.A ≤ 11 ∧ 0 ≤ t.B ∧ t.B ≤ 2 ∧ tsize t = 2 * t.A + t.B := by
  have := h.pos
  unfold tsize sizeOf1 longSize at this ⊢
  rw [if_neg (by omega), if_pos q] at this ⊢
  split at this <;> simp_all
theorem TabS.s3 {t : Tab} (h : TabS t) (q : t.shape = 3) : 1 ≤ t.A ∧ t.A ≤ 8 ∧ 1 ≤ t.B ∧ t.B ≤ 8 ∧ tsize t = t.A + 2 * t.B := by
  have := h.pos
  unfold tsize sizeOf1 shoeSize at this ⊢
  rw [if_neg (by omega), if_neg (by omega), if_pos q] at this ⊢
  split at this <;> simp_all
theorem TabS.s4 {t : Tab} (h : TabS t) (q : t.shape = 4) : 1 ≤ t.A ∧ t.A ≤ 24 ∧ 0 ≤ t.B ∧ t.B ≤ t.A ∧ tsize t = t.A := by
  have := h.pos
  unfold tsize sizeOf1 rowSize at this ⊢
  rw [if_neg (by omega), if_neg (by omega), if_neg (by omega), if_pos q] at this ⊢
  split at this <;> simp_all
theorem TabS.shape {t : Tab} (h : TabS t) : t.shape = 1 ∨ t.shape = 2 ∨ t.shape = 3 ∨ t.shape = 4 := by have := h.b; unfold TabB at this; omega

theorem long_beside {a b p q : Int} (h1 : 1 ≤ a ∧ a ≤ 11 ∧ 0 ≤ b ∧ b ≤ 2) (hp : 0 ≤ p ∧ p < 2 * a + b) (hq : 0 ≤ q ∧ q < 2 * a + b) (hne : p ≠ q) :
    (¬ (spX a b p - spX a b q ≠ 1 ∧ spX a b q - spX a b p ≠ 1) ∧ ((spY a b p = spY a b q ∧ spY a b p ≠ 1) ∨ (spY a b p ≠ spY a b q ∧ (spY a b p = 1 ∨ spY a b q = 1)))) ↔ longB a b (min p q) (max p q) := by
  unfold spX spY longB
  rcases Int.lt_trichotomy p q with h | h | h
  · rw [Int.min_eq_left (by omega), Int.max_eq_right (by omega)]
    repeat' split
    all_goals omega
  · exact absurd h hne
  · rw [Int.min_eq_right (by omega), Int.max_eq_left (by omega)]
    repeat' split
    all_goals omega
theorem long_across {a b p q : Int} (h1 : 1 ≤ a ∧ a ≤ 11 ∧ 0 ≤ b ∧ b ≤ 2) (hp : 0 ≤ p ∧ p < 2 * a + b) (hq : 0 ≤ q ∧ q < 2 * a + b) (hne : p ≠ q) :
    ((spX a b p = spX a b q ∧ spY a b p ≠ 1 ∧ spY a b q ≠ 1) ∨ (spY a b p = 1 ∧ spY a b q = 1)) ↔ longA a b (min p q) (max p q) := by
  unfold spX spY longA
  rcases Int.lt_trichotomy p q with h | h | h
  · rw [Int.min_eq_left (by omega), Int.max_eq_right (by omega)]
    repeat' split
    all_goals omega
  · exact absurd h hne
  · rw [Int.min_eq_right (by omega), Int.max_eq_left (by omega)]
    repeat' split
    all_goals omega

theorem next_ok {h0 : AH} (w : WfH h0) (t : Tab) (k : Int) (hk : 0 ≤ k ∧ k ≤ 1000) : Fn Tryz.prog Xh 207 [tabV t, .int .i64 k] h0 (fun v h' => v = .int .i64 (nx t.A k) ∧ Hs h0 h' []) := by
  have S := Hs.start w
  refine Fn_K rfl Tryz.func207 rfl rfl ?_
  all_goals (repeat' (first | refine K_seq ?_ | refine k_cond rfl ?_ | refine K_skip ?_ | refine K_exit ?_ | refine k_block ?_ | refine K_scope ?_ | (refine K_region (id := 0) ?_; (refine bx S ?_; clear S; intro b h S); refine mv ?_; refine KO_nil ?_) | (refine K_region (id := 1) ?_; refine mv ?_; (first | refine ad ?_ | refine vl ?_); (first | refine vl ?_ | refine fB S ?_ | refine fS S rfl rfl ?_ | refine fA ?_); (first | refine lB S rfl rfl ?_ | refine lES S rfl rfl ?_ | refine lEB S ?_ | refine lH S ?_); (first | refine cT ?_ | refine cF ?_ | (refine cS ?_ ?_ <;> intro hc)) <;> (refine KO_nil ?_)) | (refine K_region (id := 2) ?_; refine mv ?_; refine KO_nil ?_) | (refine K_region (id := 3) ?_; refine mv ?_; (first | refine ad ?_ | refine vl ?_); refine mv ?_; refine KO_nil ?_)))
  all_goals (refine K_ret ⟨_, rfl, ?_⟩)
  · exact ⟨by unfold nx; rw [if_pos hc]; rfl, S.drop⟩
  · exact ⟨by unfold nx; rw [if_neg hc]; rfl, S.drop⟩
theorem spotOf_ok {h0 : AH} (w : WfH h0) (t : Tab) (k : Int) (hb : TabB t) (hk : 0 ≤ k ∧ k ≤ 1000) : Fn Tryz.prog Xh 170 [tabV t, .int .i64 k] h0 (fun v h' => v = .agg #[.int .i64 (spX t.A t.B k), .int .i64 (spY t.A t.B k)] ∧ Hs h0 h' []) := by
  have S := Hs.start w
  obtain ⟨-, -, ha1, ha2, hb1, hb2⟩ := hb
  refine Fn_K rfl Tryz.func170 rfl rfl ?_
  all_goals (repeat' (first | refine K_seq ?_ | refine k_cond rfl ?_ | refine K_skip ?_ | refine K_exit ?_ | refine k_block ?_ | refine K_scope ?_ | (refine K_region (id := 0) ?_; (refine bx S ?_; clear S; intro b h S); (refine al S ?_; clear S; intro b h S); refine KO_nil ?_) | (refine K_region (id := 1) ?_; refine mv ?_; (first | refine vl ?_ | refine fB S ?_ | refine fS S rfl rfl ?_ | refine fA ?_); (first | refine lB S rfl rfl ?_ | refine lES S rfl rfl ?_ | refine lEB S ?_ | refine lH S ?_); (first | refine cT ?_ | refine cF ?_ | (refine cS ?_ ?_ <;> intro hc)) <;> (refine KO_nil ?_)) | (refine K_region (id := 2) ?_; refine mv ?_; refine vl ?_; (first | (refine sB S rfl rfl ?_; clear S; intro h S) | (refine sE S rfl rfl ?_; clear S; intro h S)); refine KO_nil ?_) | (refine K_region (id := 3) ?_; refine mv ?_; (first | refine vl ?_ | refine fB S ?_ | refine fS S rfl rfl ?_ | refine fA ?_); (first | refine lB S rfl rfl ?_ | refine lES S rfl rfl ?_ | refine lEB S ?_ | refine lH S ?_); (first | refine sb ?_ | refine vl ?_); refine mv ?_; refine KO_nil ?_) | (refine K_region (id := 4) ?_; (first | refine vl ?_ | refine fB S ?_ | refine fS S rfl rfl ?_ | refine fA ?_); (first | refine lB S rfl rfl ?_ | refine lES S rfl rfl ?_ | refine lEB S ?_ | refine lH S ?_); (first | refine cT ?_ | refine cF ?_ | (refine cS ?_ ?_ <;> intro hc)) <;> (refine KO_nil ?_)) | (refine K_region (id := 5) ?_; refine mv ?_; (first | refine cT ?_ | refine cF ?_ | (refine cS ?_ ?_ <;> intro hc)) <;> (refine KO_nil ?_)) | (refine K_region (id := 6) ?_; (first | refine vl ?_ | refine fB S ?_ | refine fS S rfl rfl ?_ | refine fA ?_); (first | refine lB S rfl rfl ?_ | refine lES S rfl rfl ?_ | refine lEB S ?_ | refine lH S ?_); refine vl ?_; (first | (refine sB S rfl rfl ?_; clear S; intro h S) | (refine sE S rfl rfl ?_; clear S; intro h S)); refine KO_nil ?_) | (refine K_region (id := 7) ?_; refine mv ?_; (first | refine sb ?_ | refine vl ?_); refine mv ?_; refine KO_nil ?_) | (refine K_region (id := 8) ?_; refine mv ?_; (first | refine vl ?_ | refine fB S ?_ | refine fS S rfl rfl ?_ | refine fA ?_); (first | refine lB S rfl rfl ?_ | refine lES S rfl rfl ?_ | refine lEB S ?_ | refine lH S ?_); (first | refine cT ?_ | refine cF ?_ | (refine cS ?_ ?_ <;> intro hc)) <;> (refine KO_nil ?_)) | (refine K_region (id := 9) ?_; (first | refine vl ?_ | refine fB S ?_ | refine fS S rfl rfl ?_ | refine fA ?_); (first | refine lB S rfl rfl ?_ | refine lES S rfl rfl ?_ | refine lEB S ?_ | refine lH S ?_); (first | refine sb ?_ | refine vl ?_); refine mv ?_; (first | refine sb ?_ | refine vl ?_); refine vl ?_; (first | (refine sB S rfl rfl ?_; clear S; intro h S) | (refine sE S rfl rfl ?_; clear S; intro h S)); refine KO_nil ?_) | (refine K_region (id := 10) ?_; refine vl ?_; (first | (refine sB S rfl rfl ?_; clear S; intro h S) | (refine sE S rfl rfl ?_; clear S; intro h S)); refine KO_nil ?_)))
  all_goals (refine K_ret ⟨_, ret_cell S rfl (by first | exact .here | exact .there .here | exact .there (.there .here)) (by exact rfl) (by exact rfl), ?_⟩)
  all_goals (refine ⟨?_, S.drop⟩; unfold spX spY)
  all_goals (repeat' split)
  all_goals (first | (exfalso; omega) | rfl | (simp only [Int.sub_zero]; rfl))
theorem aisle_ok {h0 : AH} (w : WfH h0) (t : Tab) (k : Int) (hb : TabB t) (hk : 0 < k ∧ k < t.A) : Fn Tryz.prog Xh 208 [tabV t, .int .i64 k] h0 (fun v h' => BoolIs v (t.B ≠ 0 ∧ t.B ∣ k) ∧ Hs h0 h' []) := by
  have S := Hs.start w
  obtain ⟨-, -, ha1, ha2, hb1, hb2⟩ := hb
  refine Fn_K rfl Tryz.func208 rfl rfl ?_
  all_goals (repeat' (first | refine K_seq ?_ | refine k_cond rfl ?_ | refine K_skip ?_ | refine K_exit ?_ | refine k_block ?_ | refine K_scope ?_ | (refine K_region (id := 0) ?_; (refine bx S ?_; clear S; intro b h S); refine mv ?_; refine KO_nil ?_) | (refine K_region (id := 1) ?_; (first | refine vl ?_ | refine fB S ?_ | refine fS S rfl rfl ?_ | refine fA ?_); (first | refine lB S rfl rfl ?_ | refine lES S rfl rfl ?_ | refine lEB S ?_ | refine lH S ?_); (first | refine cT ?_ | refine cF ?_ | (refine cS ?_ ?_ <;> intro hc)) <;> (refine KO_nil ?_)) | (refine K_region (id := 2) ?_; refine mv ?_; refine KO_nil ?_) | (refine K_region (id := 3) ?_; (first | refine vl ?_ | refine fB S ?_ | refine fS S rfl rfl ?_ | refine fA ?_); (first | refine lB S rfl rfl ?_ | refine lES S rfl rfl ?_ | refine lEB S ?_ | refine lH S ?_); refine mv ?_; refine KO_nil ?_)))
  · refine K_ret ⟨_, rfl, ?_⟩
    exact ⟨.inr ⟨rfl, fun q => q.1 hc⟩, S.drop⟩
  · refine k_loop (σ := Int) (fun at_ h' => Hs h0 h' [.blk b (eT t) 25] ∧ 0 < at_ ∧ at_ ≤ 200 ∧ t.B ∣ at_ ∧ ∀ m, 0 < m → m < at_ → t.B ∣ m → m ≠ k) (fun at_ => (t.A - at_).toNat) (fun at_ => [(1, .int .i64 k), (2, .pointer (some ⟨b, 0, none⟩)), (5, .int .i64 at_)]) t.B (by repeat (first | exact Ks.le_nil _ | refine Ks.le_cons rfl ?_ | refine Ks.le_int ?_)) ?_ ?_
    · refine ⟨S, by omega, by omega, Int.dvd_refl _, fun m h1 h2 h3 => ?_⟩
      have := Int.le_of_dvd h1 h3
      omega
    clear S
    rintro at_ h ⟨S, h1, h2, h3, h4⟩
    all_goals (repeat' (first | refine K_seq ?_ | refine k_cond rfl ?_ | refine K_skip ?_ | refine K_exit ?_ | refine k_block ?_ | refine K_scope ?_ | (refine K_region (id := 4) ?_; refine mv ?_; (first | refine vl ?_ | refine fB S ?_ | refine fS S rfl rfl ?_ | refine fA ?_); (first | refine lB S rfl rfl ?_ | refine lES S rfl rfl ?_ | refine lEB S ?_ | refine lH S ?_); (first | refine cT ?_ | refine cF ?_ | (refine cS ?_ ?_ <;> intro hc)) <;> (refine KO_nil ?_)) | (refine K_region (id := 5) ?_; refine mv ?_; (first | refine vl ?_ | refine fB S ?_ | refine fS S rfl rfl ?_ | refine fA ?_); (first | refine lB S rfl rfl ?_ | refine lES S rfl rfl ?_ | refine lEB S ?_ | refine lH S ?_); (first | refine ad ?_ | refine vl ?_); refine mv ?_; refine KO_nil ?_) | (refine K_region (id := 6) ?_; refine mv ?_; refine mv ?_; (first | refine cT ?_ | refine cF ?_ | (refine cS ?_ ?_ <;> intro hc)) <;> (refine KO_nil ?_)) | (refine K_region (id := 7) ?_; refine mv ?_; refine KO_nil ?_) | (refine K_region (id := 8) ?_; refine mv ?_; refine KO_nil ?_)))
    · refine K_ret ⟨_, rfl, ?_⟩
      exact ⟨.inl ⟨rfl, by omega, by rw [← hc]; exact h3⟩, S.drop⟩
    · refine ⟨at_ + t.B, ?_, ?_, (by repeat (first | exact Ks.le_nil _ | refine Ks.le_cons rfl ?_ | refine Ks.le_int ?_))⟩
      · show (t.A - (at_ + t.B)).toNat < (t.A - at_).toNat; omega
      · refine ⟨S, by omega, by omega, Int.dvd_add h3 (Int.dvd_refl _), fun m g1 g2 g3 => ?_⟩
        rcases Int.lt_trichotomy m at_ with q | q | q
        · exact h4 m g1 q g3
        · rw [q]; assumption
        · have := Int.le_of_dvd (show 0 < m - at_ by omega) (Int.dvd_sub g3 h3)
          omega
    · refine K_ret ⟨_, rfl, ?_⟩
      refine ⟨.inr ⟨rfl, fun q => ?_⟩, S.drop⟩
      exact h4 k hk.1 (by omega) q.2 rfl

theorem besideP_symm (t : Tab) (p q : Int) : besideP t p q ↔ besideP t q p := by
  unfold besideP
  rw [Int.min_comm, Int.max_comm]
  exact ⟨fun h => ⟨fun e => h.1 e.symm, h.2⟩, fun h => ⟨fun e => h.1 e.symm, h.2⟩⟩
theorem acrossP_symm (t : Tab) (p q : Int) : acrossP t p q ↔ acrossP t q p := by
  unfold acrossP
  rw [Int.min_comm, Int.max_comm]
  exact ⟨fun h => ⟨fun e => h.1 e.symm, h.2⟩, fun h => ⟨fun e => h.1 e.symm, h.2⟩⟩
section
variable {t : Tab} {p q : Int}
theorem besideP_1 (hs : TabS t) (h : t.shape = 1) (hp : 0 ≤ p ∧ p < tsize t) (hq : 0 ≤ q ∧ q < tsize t) (hne : p ≠ q) : besideP t p q ↔ nx t.A p = q ∨ nx t.A q = p := by
  have k := hs.s1 h
  have e : besideP t p q ↔ roundB t.A t.B (min p q) (max p q) := by
    unfold besideP
    constructor
    · rintro ⟨-, ⟨-, g⟩ | ⟨g, -⟩ | ⟨g, -⟩ | ⟨g, -⟩⟩
      · exact g
      all_goals omega
    · exact fun g => ⟨hne, .inl ⟨h, g⟩⟩
  rw [e]
  unfold roundB nx
  rcases Int.lt_trichotomy p q with g | g | g
  · rw [Int.min_eq_left (by omega), Int.max_eq_right (by omega)]
    repeat' split
    all_goals omega
  · exact absurd g hne
  · rw [Int.min_eq_right (by omega), Int.max_eq_left (by omega)]
    repeat' split
    all_goals omega
theorem besideP_2 (h : t.shape = 2) (hne : p ≠ q) : besideP t p q ↔ longB t.A t.B (min p q) (max p q) := by
  unfold besideP
  constructor
  · rintro ⟨-, ⟨g, -⟩ | ⟨-, g⟩ | ⟨g, -⟩ | ⟨g, -⟩⟩
    · omega
    · exact g
    all_goals omega
  · exact fun g => ⟨hne, .inr (.inl ⟨h, g⟩)⟩
theorem besideP_3 (h : t.shape = 3) (hne : p ≠ q) : besideP t p q ↔ p + 1 = q ∨ q + 1 = p := by
  unfold besideP shoeB
  constructor
  · rintro ⟨-, ⟨g, -⟩ | ⟨g, -⟩ | ⟨-, g⟩ | ⟨g, -⟩⟩ <;> omega
  · exact fun g => ⟨hne, .inr (.inr (.inl ⟨h, by omega⟩))⟩
theorem besideP_4 (h : t.shape = 4) (hlt : p < q) : besideP t p q ↔ p + 1 = q ∧ ¬ (t.B ≠ 0 ∧ t.B ∣ q) := by
  unfold besideP rowB
  rw [Int.min_eq_left (by omega), Int.max_eq_right (by omega)]
  constructor
  · rintro ⟨-, ⟨g, -⟩ | ⟨g, -⟩ | ⟨g, -⟩ | ⟨-, g1, g2⟩⟩
    · omega
    · omega
    · omega
    · exact ⟨by omega, fun k => g2.elim k.1 fun g => g (Int.emod_eq_zero_of_dvd k.2)⟩
  · refine fun g => ⟨by omega, .inr (.inr (.inr ⟨h, by omega, ?_⟩))⟩
    by_cases k : t.B = 0
    · exact .inl k
    · exact .inr fun k2 => g.2 ⟨k, Int.dvd_of_emod_eq_zero k2⟩
theorem acrossP_1 (hne : p ≠ q) (h : t.shape = 1) : acrossP t p q ↔ roundA t.A t.B (min p q) (max p q) := by
  unfold acrossP
  constructor
  · rintro ⟨-, ⟨-, g⟩ | ⟨g, -⟩ | ⟨g, -⟩⟩
    · exact g
    all_goals omega
  · exact fun g => ⟨hne, .inl ⟨h, g⟩⟩
theorem acrossP_2 (hne : p ≠ q) (h : t.shape = 2) : acrossP t p q ↔ longA t.A t.B (min p q) (max p q) := by
  unfold acrossP
  constructor
  · rintro ⟨-, ⟨g, -⟩ | ⟨-, g⟩ | ⟨g, -⟩⟩
    · omega
    · exact g
    · omega
  · exact fun g => ⟨hne, .inr (.inl ⟨h, g⟩)⟩
theorem acrossP_3 (hne : p ≠ q) (h : t.shape = 3) : acrossP t p q ↔ min p q < t.B ∧ p + q = t.A + 2 * t.B - 1 := by
  unfold acrossP shoeA
  constructor
  · rintro ⟨-, ⟨g, -⟩ | ⟨g, -⟩ | ⟨-, g⟩⟩ <;> omega
  · exact fun g => ⟨hne, .inr (.inr ⟨h, by omega⟩)⟩
theorem acrossP_4 (h : t.shape = 4) : ¬ acrossP t p q := by
  unfold acrossP
  rintro ⟨-, ⟨g, -⟩ | ⟨g, -⟩ | ⟨g, -⟩⟩ <;> omega
end

theorem besideAt_rec {h0 : AH} (w : WfH h0) (t : Tab) (p q : Int) (hs : TabS t) (hp : 0 ≤ p ∧ p < tsize t) (hq : 0 ≤ q ∧ q < tsize t)
    (hrec : ∀ h, WfH h → q < p → Fn Tryz.prog Xh 172 [tabV t, .int .i64 q, .int .i64 p] h (fun v h' => BoolIs v (besideP t q p) ∧ Hs h h' [])) :
    Fn Tryz.prog Xh 172 [tabV t, .int .i64 p, .int .i64 q] h0 (fun v h' => BoolIs v (besideP t p q) ∧ Hs h0 h' []) := by
  have S := Hs.start w
  have hsz := tsize_le t
  have hB := hs.b
  have hb := hs.b
  obtain ⟨-, -, ha1, ha2, hb1, hb2⟩ := hb
  have hsp := hs.shape
  refine Fn_K rfl Tryz.func172 rfl rfl ?_
  all_goals (repeat' (first | refine K_seq ?_ | refine k_cond rfl ?_ | refine K_skip ?_ | refine K_exit ?_ | refine k_block ?_ | refine K_scope ?_ | (refine K_region (id := 0) ?_; (refine bx S ?_; clear S; intro b h S); refine mv ?_; refine KO_nil ?_) | (refine K_region (id := 1) ?_; refine mv ?_; refine mv ?_; (first | refine cT ?_ | refine cF ?_ | (refine cS ?_ ?_ <;> intro hc)) <;> (refine KO_nil ?_)) | (refine K_region (id := 2) ?_; refine mv ?_; refine KO_nil ?_) | (refine K_region (id := 3) ?_; (first | refine vl ?_ | refine fB S ?_ | refine fS S rfl rfl ?_ | refine fA ?_); (first | refine lB S rfl rfl ?_ | refine lES S rfl rfl ?_ | refine lEB S ?_ | refine lH S ?_); refine KO_nil ?_) | (refine K_region (id := 4) ?_; (first | refine cT ?_ | refine cF ?_ | (refine cS ?_ ?_ <;> intro hc)) <;> (refine mv ?_; refine KO_nil ?_)) | (refine K_region (id := 5) ?_; (first | refine lB S rfl rfl ?_ | refine lES S rfl rfl ?_ | refine lEB S ?_ | refine lH S ?_); refine mv ?_) | (refine K_region (id := 6) ?_; (first | refine cT ?_ | refine cF ?_ | (refine cS ?_ ?_ <;> intro hc)) <;> (refine mv ?_; refine KO_nil ?_)) | (refine K_region (id := 11) ?_; (first | refine cT ?_ | refine cF ?_ | (refine cS ?_ ?_ <;> intro hc)) <;> (refine mv ?_; refine KO_nil ?_)) | (refine K_region (id := 12) ?_; refine mv ?_; (first | refine ad ?_ | refine vl ?_); refine mv ?_; (first | refine cT ?_ | refine cF ?_ | (refine cS ?_ ?_ <;> intro hc)) <;> (refine mv ?_; (first | refine off ?_ | refine mv ?_); (first | refine off ?_ | (first | refine ad ?_ | refine vl ?_)); (first | refine off ?_ | refine mv ?_); (first | refine off ?_ | (first | refine cT ?_ | refine cF ?_ | (refine cS ?_ ?_ <;> intro hc))) <;> (refine vl ?_; refine mv ?_; refine KO_nil ?_))) | (refine K_region (id := 13) ?_; refine mv ?_; refine mv ?_; (first | refine cT ?_ | refine cF ?_ | (refine cS ?_ ?_ <;> intro hc)) <;> (refine KO_nil ?_)) | (refine K_region (id := 14) ?_; (first | refine lB S rfl rfl ?_ | refine lES S rfl rfl ?_ | refine lEB S ?_ | refine lH S ?_); refine mv ?_; refine mv ?_) | (refine K_region (id := 15) ?_; refine mv ?_; (first | refine ad ?_ | refine vl ?_); refine mv ?_; (first | refine cT ?_ | refine cF ?_ | (refine cS ?_ ?_ <;> intro hc)) <;> (refine mv ?_; (first | refine off ?_ | (first | refine lB S rfl rfl ?_ | refine lES S rfl rfl ?_ | refine lEB S ?_ | refine lH S ?_)); (first | refine off ?_ | refine mv ?_); (first | (refine off ?_; (first | refine off ?_ | refine vl ?_); refine vl ?_; refine mv ?_; refine KO_nil ?_) | skip)))))
  · refine K_ret ⟨_, rfl, ?_⟩
    exact ⟨.inr ⟨rfl, fun g => g.1 hc⟩, S.drop⟩
  · have hsh := hc
    have hne : p ≠ q := by assumption
    have e := besideP_1 hs hsh hp hq hne
    (refine KO_fn rfl rfl rfl rfl rfl ((next_ok S.wf t p (by omega)).mono ?_); rintro _ h ⟨rfl, x⟩) <;> (replace S := S.join0 x; clear x; refine mv ?_; (first | refine cT ?_ | refine cF ?_ | (refine cS ?_ ?_ <;> intro hc)) <;> (refine mv ?_; (first | refine off ?_ | (first | refine lB S rfl rfl ?_ | refine lES S rfl rfl ?_ | refine lEB S ?_ | refine lH S ?_)); (first | refine off ?_ | refine mv ?_); (first | (refine off ?_; (first | refine off ?_ | refine mv ?_); (first | refine off ?_ | (first | refine cT ?_ | refine cF ?_ | (refine cS ?_ ?_ <;> intro hc))) <;> (refine vl ?_; refine mv ?_; refine KO_nil ?_)) | skip)))
    · all_goals (repeat' (first | refine K_seq ?_ | refine k_cond rfl ?_ | refine K_skip ?_ | refine K_exit ?_ | refine k_block ?_ | refine K_scope ?_))
      refine K_ret ⟨_, rfl, ?_⟩
      exact ⟨.inl ⟨rfl, e.2 (.inl (by assumption))⟩, S.drop⟩
    · (refine KO_fn rfl rfl rfl rfl rfl ((next_ok S.wf t q (by omega)).mono ?_); rintro _ h ⟨rfl, x⟩) <;> (replace S := S.join0 x; clear x; (first | refine off ?_ | refine mv ?_); (first | refine off ?_ | (first | refine cT ?_ | refine cF ?_ | (refine cS ?_ ?_ <;> intro hc))) <;> (refine vl ?_; refine mv ?_; refine KO_nil ?_))
      all_goals (repeat' (first | refine K_seq ?_ | refine k_cond rfl ?_ | refine K_skip ?_ | refine K_exit ?_ | refine k_block ?_ | refine K_scope ?_))
      all_goals (refine K_ret ⟨_, rfl, ?_⟩)
      · exact ⟨.inl ⟨rfl, e.2 (.inr (by assumption))⟩, S.drop⟩
      · exact ⟨.inr ⟨rfl, fun g => by have := e.1 g; omega⟩, S.drop⟩
  · have hsh := hc
    have hne : p ≠ q := by assumption
    have k := hs.s2 hsh
    have e := besideP_2 hsh hne
    have lb := long_beside (a := t.A) (b := t.B) (p := p) (q := q) (by omega) (by omega) (by omega) hne
    have hP := fun g => e.2 (lb.1 g)
    have hN := fun (g : ¬ _) (g2 : besideP t p q) => g (lb.2 (e.1 g2))
    have bx1 : -1 ≤ spX t.A t.B p ∧ spX t.A t.B p ≤ 1000 := by unfold spX; repeat' split <;> omega
    have bx2 : -1 ≤ spX t.A t.B q ∧ spX t.A t.B q ≤ 1000 := by unfold spX; repeat' split <;> omega
    clear lb e
    refine K_drawF2 (id := 7) (j1 := 6) (j2 := 7) (rd := [(3, (0, 1)), (6, (0, 2)), (7, (0, 2))]) (fun b1 b2 => [some (b), some b1, some b2]) S (HintOk.direct) (HintOk.direct) ?_; clear S; intro b1 b2 h S; refine KX_cons ?_; (first | (refine lB S rfl rfl ?_ <;> refine KO_nil ⟨⟨by (first | exact True.intro | exact Or.inl rfl | exact Or.inr rfl | exact Or.inr (congrArg some (blkOf_elA _ _ _ _)) | exact ⟨Or.inl rfl, rfl⟩ | exact ⟨Or.inr rfl, rfl⟩), rfl⟩, ?_⟩) | (refine lES S rfl rfl ?_ <;> refine KO_nil ⟨⟨by (first | exact True.intro | exact Or.inl rfl | exact Or.inr rfl | exact Or.inr (congrArg some (blkOf_elA _ _ _ _)) | exact ⟨Or.inl rfl, rfl⟩ | exact ⟨Or.inr rfl, rfl⟩), rfl⟩, ?_⟩) | (refine lEB S ?_ <;> refine KO_nil ⟨⟨by (first | exact True.intro | exact Or.inl rfl | exact Or.inr rfl | exact Or.inr (congrArg some (blkOf_elA _ _ _ _)) | exact ⟨Or.inl rfl, rfl⟩ | exact ⟨Or.inr rfl, rfl⟩), rfl⟩, ?_⟩) | (refine lH S ?_ <;> refine KO_nil ⟨⟨by (first | exact True.intro | exact Or.inl rfl | exact Or.inr rfl | exact Or.inr (congrArg some (blkOf_elA _ _ _ _)) | exact ⟨Or.inl rfl, rfl⟩ | exact ⟨Or.inr rfl, rfl⟩), rfl⟩, ?_⟩)); refine KX_cons ?_; (first | (refine mv ?_ <;> refine KO_nil ⟨⟨by (first | exact True.intro | exact Or.inl rfl | exact Or.inr rfl | exact Or.inr (congrArg some (blkOf_elA _ _ _ _)) | exact ⟨Or.inl rfl, rfl⟩ | exact ⟨Or.inr rfl, rfl⟩), rfl⟩, ?_⟩))
    ((refine KX_cons ?_; first | refine KO_fn rfl rfl rfl rfl rfl ((spotOf_ok S.wf t p hB (by omega)).mono ?_)); rintro _ h ⟨rfl, x⟩) <;> ((refine KO_nil ⟨⟨True.intro, ?_⟩, ?_⟩; (focus ((show keepsX _ _ _ _ _; simp only [keepsX]; (repeat' (first | exact True.intro | refine And.intro ?_ ?_)); all_goals (intro hw; first | exact True.intro | exact rfl | exact x.ext.old _ S.bB | exact x.ext.old _ (S.bR (by first | omega | grind)) | exact x.ext.old _ (S.bX (by assumption) (by assumption) (by first | omega | grind)) | (refine x.ext.old _ ?_; assumption) | exact absurd hw (by decide +kernel)))))); replace S := S.join0 x; clear x; refine KX_cons ?_; (first | (refine lB S rfl rfl ?_ <;> refine KO_nil ⟨⟨by (first | exact True.intro | exact Or.inl rfl | exact Or.inr rfl | exact Or.inr (congrArg some (blkOf_elA _ _ _ _)) | exact ⟨Or.inl rfl, rfl⟩ | exact ⟨Or.inr rfl, rfl⟩), rfl⟩, ?_⟩) | (refine lES S rfl rfl ?_ <;> refine KO_nil ⟨⟨by (first | exact True.intro | exact Or.inl rfl | exact Or.inr rfl | exact Or.inr (congrArg some (blkOf_elA _ _ _ _)) | exact ⟨Or.inl rfl, rfl⟩ | exact ⟨Or.inr rfl, rfl⟩), rfl⟩, ?_⟩) | (refine lEB S ?_ <;> refine KO_nil ⟨⟨by (first | exact True.intro | exact Or.inl rfl | exact Or.inr rfl | exact Or.inr (congrArg some (blkOf_elA _ _ _ _)) | exact ⟨Or.inl rfl, rfl⟩ | exact ⟨Or.inr rfl, rfl⟩), rfl⟩, ?_⟩) | (refine lH S ?_ <;> refine KO_nil ⟨⟨by (first | exact True.intro | exact Or.inl rfl | exact Or.inr rfl | exact Or.inr (congrArg some (blkOf_elA _ _ _ _)) | exact ⟨Or.inl rfl, rfl⟩ | exact ⟨Or.inr rfl, rfl⟩), rfl⟩, ?_⟩)); refine KX_cons ?_; (first | (refine mv ?_ <;> refine KO_nil ⟨⟨by (first | exact True.intro | exact Or.inl rfl | exact Or.inr rfl | exact Or.inr (congrArg some (blkOf_elA _ _ _ _)) | exact ⟨Or.inl rfl, rfl⟩ | exact ⟨Or.inr rfl, rfl⟩), rfl⟩, ?_⟩)))
    ((refine KX_cons ?_; first | refine KO_fn rfl rfl rfl rfl rfl ((spotOf_ok S.wf t q hB (by omega)).mono ?_)); rintro _ h ⟨rfl, x⟩) <;> ((refine KO_nil ⟨⟨True.intro, ?_⟩, ?_⟩; (focus ((show keepsX _ _ _ _ _; simp only [keepsX]; (repeat' (first | exact True.intro | refine And.intro ?_ ?_)); all_goals (intro hw; first | exact True.intro | exact rfl | exact x.ext.old _ S.bB | exact x.ext.old _ (S.bR (by first | omega | grind)) | exact x.ext.old _ (S.bX (by assumption) (by assumption) (by first | omega | grind)) | (refine x.ext.old _ ?_; assumption) | exact absurd hw (by decide +kernel)))))); replace S := S.join0 x; clear x; refine fl S rfl rfl S.gB ?_; refine fl S rfl rfl S.gB ?_; refine KX_cons ?_; (first | ((refine sB S rfl rfl ?_; have S0 := S; clear S; intro h S); refine KO_nil ⟨⟨True.intro, ?_⟩, ?_⟩; (focus ((show keepsX _ _ _ _ _; simp only [keepsX]; (repeat' (first | exact True.intro | refine And.intro ?_ ?_)); all_goals (intro hw; first | exact True.intro | exact (S.gB).trans (S0.gB).symm | exact absurd hw (by decide +kernel))))); clear S0) | ((refine sE S rfl rfl ?_; have S0 := S; clear S; intro h S); refine KO_nil ⟨⟨True.intro, ?_⟩, ?_⟩; (focus ((show keepsX _ _ _ _ _; simp only [keepsX]; (repeat' (first | exact True.intro | refine And.intro ?_ ?_)); all_goals (intro hw; first | exact True.intro | exact (S.gB).trans (S0.gB).symm | exact absurd hw (by decide +kernel))))); clear S0)); refine KX_cons ?_; (first | ((refine sB S rfl rfl ?_; have S0 := S; clear S; intro h S); refine KO_nil ⟨⟨True.intro, ?_⟩, ?_⟩; (focus ((show keepsX _ _ _ _ _; simp only [keepsX]; (repeat' (first | exact True.intro | refine And.intro ?_ ?_)); all_goals (intro hw; first | exact True.intro | exact (S.gB).trans (S0.gB).symm | exact absurd hw (by decide +kernel))))); clear S0) | ((refine sE S rfl rfl ?_; have S0 := S; clear S; intro h S); refine KO_nil ⟨⟨True.intro, ?_⟩, ?_⟩; (focus ((show keepsX _ _ _ _ _; simp only [keepsX]; (repeat' (first | exact True.intro | refine And.intro ?_ ?_)); all_goals (intro hw; first | exact True.intro | exact (S.gB).trans (S0.gB).symm | exact absurd hw (by decide +kernel))))); clear S0)); refine KX_nil ?_)
    generalize hx1 : spX t.A t.B p = x1 at *
    generalize hx2 : spX t.A t.B q = x2 at *
    generalize hy1 : spY t.A t.B p = y1 at *
    generalize hy2 : spY t.A t.B q = y2 at *
    all_goals (repeat' (first | refine K_seq ?_ | refine k_cond rfl ?_ | refine K_skip ?_ | refine K_exit ?_ | refine k_block ?_ | refine K_scope ?_ | (refine K_region (id := 8) ?_; (first | refine vl ?_ | refine fB S ?_ | refine fS S rfl rfl ?_ | refine fA ?_); (first | refine lB S rfl rfl ?_ | refine lES S rfl rfl ?_ | refine lEB S ?_ | refine lH S ?_); (first | refine vl ?_ | refine fB S ?_ | refine fS S rfl rfl ?_ | refine fA ?_); (first | refine lB S rfl rfl ?_ | refine lES S rfl rfl ?_ | refine lEB S ?_ | refine lH S ?_); (first | refine sb ?_ | refine vl ?_); (first | refine cT ?_ | refine cF ?_ | (refine cS ?_ ?_ <;> intro hc)) <;> (refine mv ?_; (first | refine off ?_ | (first | refine vl ?_ | refine fB S ?_ | refine fS S rfl rfl ?_ | refine fA ?_)); (first | refine off ?_ | (first | refine lB S rfl rfl ?_ | refine lES S rfl rfl ?_ | refine lEB S ?_ | refine lH S ?_)); (first | refine off ?_ | (first | refine vl ?_ | refine fB S ?_ | refine fS S rfl rfl ?_ | refine fA ?_)); (first | refine off ?_ | (first | refine lB S rfl rfl ?_ | refine lES S rfl rfl ?_ | refine lEB S ?_ | refine lH S ?_)); (first | refine off ?_ | (first | refine sb ?_ | refine vl ?_)); (first | refine off ?_ | (first | refine cT ?_ | refine cF ?_ | (refine cS ?_ ?_ <;> intro hc))) <;> (refine vl ?_; refine KO_nil ?_))) | (refine K_region (id := 9) ?_; refine mv ?_; refine KO_nil ?_) | (refine K_region (id := 10) ?_; (first | refine vl ?_ | refine fB S ?_ | refine fS S rfl rfl ?_ | refine fA ?_); (first | refine lB S rfl rfl ?_ | refine lES S rfl rfl ?_ | refine lEB S ?_ | refine lH S ?_); (first | refine vl ?_ | refine fB S ?_ | refine fS S rfl rfl ?_ | refine fA ?_); (first | refine lB S rfl rfl ?_ | refine lES S rfl rfl ?_ | refine lEB S ?_ | refine lH S ?_); (first | refine cT ?_ | refine cF ?_ | (refine cS ?_ ?_ <;> intro hc)) <;> (refine mv ?_; (first | refine off ?_ | (first | refine vl ?_ | refine fB S ?_ | refine fS S rfl rfl ?_ | refine fA ?_)); (first | refine off ?_ | (first | refine lB S rfl rfl ?_ | refine lES S rfl rfl ?_ | refine lEB S ?_ | refine lH S ?_)); (first | refine off ?_ | (first | refine cT ?_ | refine cF ?_ | (refine cS ?_ ?_ <;> intro hc))) <;> (refine vl ?_; refine mv ?_; (first | refine off ?_ | (first | refine vl ?_ | refine fB S ?_ | refine fS S rfl rfl ?_ | refine fA ?_)); (first | refine off ?_ | (first | refine lB S rfl rfl ?_ | refine lES S rfl rfl ?_ | refine lEB S ?_ | refine lH S ?_)); (first | refine off ?_ | (first | refine vl ?_ | refine fB S ?_ | refine fS S rfl rfl ?_ | refine fA ?_)); (first | refine off ?_ | (first | refine lB S rfl rfl ?_ | refine lES S rfl rfl ?_ | refine lEB S ?_ | refine lH S ?_)); (first | refine off ?_ | (first | refine cT ?_ | refine cF ?_ | (refine cS ?_ ?_ <;> intro hc))) <;> ((first | refine off ?_ | refine mv ?_); (first | refine off ?_ | (first | refine vl ?_ | refine fB S ?_ | refine fS S rfl rfl ?_ | refine fA ?_)); (first | refine off ?_ | (first | refine lB S rfl rfl ?_ | refine lES S rfl rfl ?_ | refine lEB S ?_ | refine lH S ?_)); (first | refine off ?_ | (first | refine cT ?_ | refine cF ?_ | (refine cS ?_ ?_ <;> intro hc))) <;> ((first | refine off ?_ | refine mv ?_); (first | refine off ?_ | (first | refine vl ?_ | refine fB S ?_ | refine fS S rfl rfl ?_ | refine fA ?_)); (first | refine off ?_ | (first | refine lB S rfl rfl ?_ | refine lES S rfl rfl ?_ | refine lEB S ?_ | refine lH S ?_)); (first | refine off ?_ | (first | refine cT ?_ | refine cF ?_ | (refine cS ?_ ?_ <;> intro hc))) <;> ((first | refine off ?_ | refine vl ?_); (first | refine off ?_ | refine vl ?_); refine vl ?_; refine mv ?_; refine KO_nil ?_))))))))
    all_goals (refine K_ret ⟨_, rfl, ?_⟩)
    all_goals (refine ⟨?_, S.drop⟩)
    all_goals (first | exact .inl ⟨rfl, hP (by omega)⟩ | exact .inr ⟨rfl, hN (by omega)⟩)
  · have e := besideP_3 (by assumption) (show p ≠ q by assumption)
    refine K_ret ⟨_, rfl, ?_⟩
    exact ⟨.inl ⟨rfl, e.2 (by omega)⟩, S.drop⟩
  · have e := besideP_3 (by assumption) (show p ≠ q by assumption)
    refine K_ret ⟨_, rfl, ?_⟩
    exact ⟨.inl ⟨rfl, e.2 (by omega)⟩, S.drop⟩
  · have e := besideP_3 (by assumption) (show p ≠ q by assumption)
    refine K_ret ⟨_, rfl, ?_⟩
    exact ⟨.inr ⟨rfl, fun g => by have := e.1 g; omega⟩, S.drop⟩
  · (refine KO_fn rfl rfl rfl rfl rfl ((hrec _ S.wf (by assumption)).mono ?_); rintro _ h ⟨hv, x⟩) <;> (replace S := S.join0 x; clear x; refine mv ?_; refine KO_nil ?_)
    all_goals (repeat' (first | refine K_seq ?_ | refine k_cond rfl ?_ | refine K_skip ?_ | refine K_exit ?_ | refine k_block ?_ | refine K_scope ?_))
    refine K_ret ⟨_, rfl, ?_⟩
    rcases hv with ⟨rfl, hv⟩ | ⟨rfl, hv⟩
    · exact ⟨.inl ⟨rfl, (besideP_symm t q p).1 hv⟩, S.drop⟩
    · exact ⟨.inr ⟨rfl, fun g => hv ((besideP_symm t q p).2 g)⟩, S.drop⟩
  · have h4 : t.shape = 4 := by omega
    have k := hs.s4 h4
    have e := besideP_4 h4 (show p < q by omega)
    (refine KO_fn rfl rfl rfl rfl rfl ((aisle_ok S.wf t q hB (by omega)).mono ?_); rintro _ h ⟨⟨rfl, hv⟩ | ⟨rfl, hv⟩, x⟩) <;> (replace S := S.join0 x; clear x; (first | refine off ?_ | refine vl ?_); refine vl ?_; refine mv ?_; refine KO_nil ?_)
    all_goals (repeat' (first | refine K_seq ?_ | refine k_cond rfl ?_ | refine K_skip ?_ | refine K_exit ?_ | refine k_block ?_ | refine K_scope ?_))
    all_goals (refine K_ret ⟨_, rfl, ?_⟩)
    · exact ⟨.inr ⟨rfl, fun g => (e.1 g).2 hv⟩, S.drop⟩
    · exact ⟨.inl ⟨rfl, e.2 ⟨by assumption, hv⟩⟩, S.drop⟩
  · have h4 : t.shape = 4 := by omega
    have e := besideP_4 h4 (show p < q by omega)
    refine K_ret ⟨_, rfl, ?_⟩
    exact ⟨.inr ⟨rfl, fun g => by have := (e.1 g).1; omega⟩, S.drop⟩
theorem besideAt_ok {h0 : AH} (w : WfH h0) (t : Tab) (p q : Int) (hs : TabS t) (hp : 0 ≤ p ∧ p < tsize t) (hq : 0 ≤ q ∧ q < tsize t) : Fn Tryz.prog Xh 172 [tabV t, .int .i64 p, .int .i64 q] h0 (fun v h' => BoolIs v (besideP t p q) ∧ Hs h0 h' []) :=
  besideAt_rec w t p q hs hp hq fun h wh g => besideAt_rec wh t q p hs hq hp fun h2 wh2 g2 => by omega
end Go.Proofs.Xx

/-
  Distances found level by level.
-/
namespace Go.Proofs.Xx
set_option linter.unusedVariables false

theorem pigeon : ∀ (n m : Nat) (f : Nat → Nat), (∀ k, k < m → f k < n) → (∀ i j, i < m → j < m → f i = f j → i = j) → m ≤ n
  | 0, m, f, h1, _ => by
    rcases Nat.eq_zero_or_pos m with h | h
    · omega
    · exact absurd (h1 0 h) (Nat.not_lt_zero _)
  | n + 1, m, f, h1, h2 => by
    by_cases hk : ∃ k, k < m ∧ f k = n
    · obtain ⟨k0, hk0, he⟩ := hk
      have := pigeon n (m - 1) (fun k => if k = k0 then f (m - 1) else f k) (fun k hk => by
        have key : ∀ j, j < m → j ≠ k0 → f j < n := fun j hj hne => by
          have := h1 j hj
          have : f j ≠ n := fun q => hne (h2 j k0 hj hk0 (by omega))
          omega
        split
        · exact key _ (by omega) (by omega)
        · exact key _ (by omega) (by assumption)) (fun i j hi hj q => by
        split at q <;> split at q
        · omega
        · have := h2 _ _ (by omega) (by omega) q; omega
        · have := h2 _ _ (by omega) (by omega) q; omega
        · exact h2 _ _ (by omega) (by omega) q)
      omega
    · have := pigeon n m f (fun k hk' => by
        have := h1 k hk'
        have : f k ≠ n := fun q => hk ⟨k, hk', q⟩
        omega) h2
      omega

section
variable {N : Int → Int → Prop} {n s : Nat}
theorem IsDist.pred {d y : Nat} (h : IsDist N n s (d + 1) y) : ∃ x : Nat, x < n ∧ IsDist N n s d x ∧ N x y := by
  obtain ⟨⟨x, hx, hw, hn⟩, h2⟩ := h
  refine ⟨x, hx, ⟨hw, fun e he q => h2 (e + 1) (by omega) ⟨x, hx, q, hn⟩⟩, hn⟩
theorem IsDist.lt {d y : Nat} (hs : s < n) (h : IsDist N n s d y) (hy : y < n) : d < n := by
  have all : ∀ (d y : Nat), y < n → IsDist N n s d y → ∀ k, k ≤ d → ∃ x, x < n ∧ IsDist N n s k x := by
    intro d
    induction d with
    | zero => intro y hy h k hk; exact ⟨y, hy, by rw [show k = 0 by omega]; exact h⟩
    | succ d ih =>
      intro y hy h k hk
      rcases Nat.eq_or_lt_of_le hk with q | q
      · exact ⟨y, hy, by rw [q]; exact h⟩
      · obtain ⟨x, hx, h3, -⟩ := h.pred
        exact ih x hx h3 k (by omega)
  have ch := all d y hy h
  have := Classical.axiomOfChoice (r := fun (k : Nat) (x : Nat) => k ≤ d → x < n ∧ IsDist N n s k x) (fun k => by
    by_cases hk : k ≤ d
    · obtain ⟨x, hx⟩ := ch k hk; exact ⟨x, fun _ => hx⟩
    · exact ⟨0, fun q => absurd q hk⟩)
  obtain ⟨f, hf⟩ := this
  have := pigeon n (d + 1) f (fun k hk => (hf k (by omega)).1) (fun i j hi hj q => by
    have h1 := (hf i (by omega)).2
    have h2 := (hf j (by omega)).2
    rw [q] at h1
    exact h1.unique h2)
  omega

/-- In the level d, the seats before a, and of a those before b, are looked at. -/
structure Lev (N : Int → Int → Prop) (n s d a b : Nat) (l : List Int) : Prop where
  len : l.length = n
  at_ : ∀ y, y < n → (∃ e : Nat, e ≤ d ∧ IsDist N n s e y ∧ l.getD y default = (e : Int)) ∨
    ((¬ ∃ e, e ≤ d ∧ IsDist N n s e y) ∧ (((∃ x, x < n ∧ (x < a ∨ (x = a ∧ y < b)) ∧ IsDist N n s d x ∧ N x y) ∧ l.getD y default = (d : Int) + 1) ∨ ((¬ ∃ x, x < n ∧ (x < a ∨ (x = a ∧ y < b)) ∧ IsDist N n s d x ∧ N x y) ∧ l.getD y default = -1)))
theorem getD_set_int (l : List Int) (i j : Nat) (v : Int) (h : i < l.length) : (l.set i v).getD j default = if j = i then v else l.getD j default := by
  simp only [List.getD_eq_getElem?_getD, List.getElem?_set]
  by_cases hj : j = i
  · subst hj; simp [h]
  · rw [if_neg hj, if_neg (Ne.symm hj)]
theorem Lev.start {l : List Int} (hl : l.length = n) (hs : s < n) (h0 : l.getD s default = 0) (h1 : ∀ y, y < n → y ≠ s → l.getD y default = -1) : Lev N n s 0 0 0 l := by
  refine ⟨hl, fun y hy => ?_⟩
  by_cases q : y = s
  · subst q
    exact .inl ⟨0, Nat.le_refl _, ⟨rfl, fun e he => absurd he (Nat.not_lt_zero _)⟩, h0⟩
  · refine .inr ⟨?_, .inr ⟨?_, h1 y hy q⟩⟩
    · rintro ⟨e, he, h2, -⟩
      obtain rfl : e = 0 := by omega
      exact q h2
    · rintro ⟨x, -, h3, -⟩; omega
theorem Lev.row {d a : Nat} {l : List Int} (L : Lev N n s d a n l) : Lev N n s d (a + 1) 0 l := by
  have he : ∀ y, y < n → ∀ x, (x < a ∨ (x = a ∧ y < n)) ↔ (x < a + 1 ∨ (x = a + 1 ∧ y < 0)) := fun y hy x => by omega
  refine ⟨L.len, fun y hy => ?_⟩
  have := L.at_ y hy
  simp only [he y hy] at this
  exact this
theorem Lev.level {d : Nat} {l : List Int} (L : Lev N n s d n 0 l) : Lev N n s (d + 1) 0 0 l := by
  refine ⟨L.len, fun y hy => ?_⟩
  rcases L.at_ y hy with ⟨e, h1, h2, h3⟩ | ⟨h1, ⟨⟨x, hx, -, h3, h4⟩, h5⟩ | ⟨h2, h3⟩⟩
  · exact .inl ⟨e, by omega, h2, h3⟩
  · refine .inl ⟨d + 1, Nat.le_refl _, ⟨⟨x, hx, h3.1, h4⟩, fun e he q => ?_⟩, by rw [h5]; simp⟩
    obtain ⟨e', q1, q2⟩ := q.least
    exact h1 ⟨e', by omega, q2⟩
  · refine .inr ⟨?_, .inr ⟨?_, h3⟩⟩
    · rintro ⟨e, he, q⟩
      rcases Nat.lt_or_ge d e with q1 | q1
      · obtain rfl : e = d + 1 := by omega
        obtain ⟨x, hx, q2, q3⟩ := q.pred
        exact h2 ⟨x, hx, .inl hx, q2, q3⟩
      · exact h1 ⟨e, q1, q⟩
    · rintro ⟨x, -, h3, -⟩; omega
theorem Lev.is {d a b x : Nat} {l : List Int} (L : Lev N n s d a b l) (hx : x < n) : l.getD x default = (d : Int) ↔ IsDist N n s d x := by
  rcases L.at_ x hx with ⟨e, h1, h2, h3⟩ | ⟨h1, ⟨-, h5⟩ | ⟨-, h3⟩⟩
  · exact ⟨fun q => by rw [h3] at q; have : e = d := by omega
                       rw [← this]; exact h2, fun q => by rw [h3, h2.unique q]⟩
  · exact ⟨fun q => by omega, fun q => absurd ⟨d, Nat.le_refl _, q⟩ h1⟩
  · exact ⟨fun q => by omega, fun q => absurd ⟨d, Nat.le_refl _, q⟩ h1⟩
/-- Nothing is written: the seat is told already, or there is no way over a. -/
theorem Lev.keep {d a b : Nat} {l : List Int} (L : Lev N n s d a b l) (ha : a < n) (hb : b < n) (h : ¬ (l.getD a default = (d : Int) ∧ l.getD b default < 0 ∧ N a b)) : Lev N n s d a (b + 1) l := by
  refine ⟨L.len, fun y hy => ?_⟩
  rcases L.at_ y hy with q | ⟨h1, ⟨⟨x, hx, h2, h3, h4⟩, h5⟩ | ⟨h2, h3⟩⟩
  · exact .inl q
  · exact .inr ⟨h1, .inl ⟨⟨x, hx, by omega, h3, h4⟩, h5⟩⟩
  · refine .inr ⟨h1, .inr ⟨?_, h3⟩⟩
    rintro ⟨x, hx, q1, q2, q3⟩
    by_cases q : x = a ∧ y = b
    · obtain ⟨rfl, rfl⟩ := q
      exact h ⟨(L.is hx).2 q2, by omega, q3⟩
    · exact h2 ⟨x, hx, by omega, q2, q3⟩
theorem Lev.put {d a b : Nat} {l : List Int} (L : Lev N n s d a b l) (ha : a < n) (hb : b < n) (h1 : l.getD a default = (d : Int)) (h2 : l.getD b default < 0) (h3 : N a b) : Lev N n s d a (b + 1) (l.set b ((d : Int) + 1)) := by
  have hda := (L.is ha).1 h1
  refine ⟨by rw [List.length_set]; exact L.len, fun y hy => ?_⟩
  rw [getD_set_int l b y _ (by rw [L.len]; exact hb)]
  rcases L.at_ y hy with ⟨e, g1, g2, g3⟩ | ⟨g1, g2⟩
  · by_cases q : y = b
    · subst q; omega
    · rw [if_neg q]; exact .inl ⟨e, g1, g2, g3⟩
  · by_cases q : y = b
    · subst q
      rw [if_pos rfl]
      exact .inr ⟨g1, .inl ⟨⟨a, ha, by omega, hda, h3⟩, rfl⟩⟩
    · rw [if_neg q]
      rcases g2 with ⟨⟨x, hx, k2, k3, k4⟩, k5⟩ | ⟨k2, k3⟩
      · exact .inr ⟨g1, .inl ⟨⟨x, hx, by omega, k3, k4⟩, k5⟩⟩
      · exact .inr ⟨g1, .inr ⟨fun ⟨x, hx, r1, r2, r3⟩ => k2 ⟨x, hx, by omega, r2, r3⟩, k3⟩⟩
theorem Lev.done {l : List Int} (L : Lev N n s n 0 0 l) (hs : s < n) : DistL N n s l := by
  refine ⟨L.len, fun y hy => ?_⟩
  rcases L.at_ y hy with ⟨e, g1, g2, g3⟩ | ⟨g1, ⟨⟨x, -, k2, -⟩, -⟩ | ⟨k2, k3⟩⟩
  · exact .inr ⟨e, g3, g2⟩
  · omega
  · refine .inl ⟨k3, fun d q => ?_⟩
    obtain ⟨e, q1, q2⟩ := q.least
    exact g1 ⟨e, Nat.le_of_lt (q2.lt hs hy), q2⟩
end
end Go.Proofs.Xx
