/-
  The reference's seats beside and across.
-/
import Derived.Test.YtnopenpheaihmaaGreatDoorM9
import Derived.Test.YtnopenpheaihmaaGreatDoorM8

namespace Go.Proofs.Xx
open Go Go.Proofs
set_option linter.unusedSimpArgs false
set_option linter.unusedVariables false
set_option maxRecDepth 100000
set_option maxHeartbeats 4000000

def nx (a k : Int) : Int := if k + 1 = a then 0 else k + 1
def spX (a b k : Int) : Int := if k < a then k else if 0 < b ∧ k = a then a else if k - a - (if 0 < b then 1 else 0) < a then a - 1 - (k - a - (if 0 < b then 1 else 0)) else -1
def spY (a b k : Int) : Int := if k < a then 0 else if 0 < b ∧ k = a then 1 else if k - a - (if 0 < b then 1 else 0) < a then 2 else 1
/-- A table whose sizes fit. -/
structure TabS (t : Tab) : Prop where
  b : TabB t
  pos : 0 < tsize t
theorem TabS.of (t : Tab) (h : 0 < tsize t) : TabS t := by
  refine ⟨?_, h⟩
  unfold tsize sizeOf1 roundSize longSize shoeSize rowSize at h
  unfold TabB
  repeat' split at h
  all_goals omega
theorem TabS.s1 {t : Tab} (h : TabS t) (q : t.shape = 1) : 1 ≤ t.A ∧ t.A ≤ 24 ∧ t.B = 0 ∧ tsize t = t.A := by
  have := h.pos
  unfold tsize sizeOf1 roundSize at this ⊢
  rw [if_pos q] at this ⊢
  split at this <;> simp_all
theorem TabS.s2 {t : Tab} (h : TabS t) (q : t.shape = 2) : 1 ≤ t.A ∧ t.A ≤ 11 ∧ 0 ≤ t.B ∧ t.B ≤ 2 ∧ tsize t = 2 * t.A + t.B := by
  have := h.pos
  unfold tsize sizeOf1 longSize at this ⊢
  rw [if_neg (by omega), if_pos q] at this ⊢
  split at this <;> simp_all
theorem TabS.s3 {t : Tab} (h : TabS t) (q : t.shape = 3) : 1 ≤ t.A ∧ t.A ≤ 8 ∧ 1 ≤ t.B ∧ t.B ≤ 8 ∧ tsize t = t.A + 2 * t.B := by
  have := h.pos
  unfold tsize sizeOf1 shoeSize at this ⊢
  rw [if_neg (by omega), if_neg (by omega), if_pos q] at this ⊢
  split at this <;> simp_all
theorem TabS.s4 {t : Tab} (h : TabS t) (q : t.shape = 4) : 1 ≤ t.A ∧ t.A ≤ 24 ∧ 0 ≤ t.B ∧ t.B ≤ t.A ∧ tsize t = t.A := by
  have := h.pos
  unfold tsize sizeOf1 rowSize at this ⊢
  rw [if_neg (by omega), if_neg (by omega), if_neg (by omega), if_pos q] at this ⊢
  split at this <;> simp_all
theorem TabS.shape {t : Tab} (h : TabS t) : t.shape = 1 ∨ t.shape = 2 ∨ t.shape = 3 ∨ t.shape = 4 := by have := h.b; unfold TabB at this; omega

theorem long_beside {a b p q : Int} (h1 : 1 ≤ a ∧ a ≤ 11 ∧ 0 ≤ b ∧ b ≤ 2) (hp : 0 ≤ p ∧ p < 2 * a + b) (hq : 0 ≤ q ∧ q < 2 * a + b) (hne : p ≠ q) :
    (¬ (spX a b p - spX a b q ≠ 1 ∧ spX a b q - spX a b p ≠ 1) ∧ ((spY a b p = spY a b q ∧ spY a b p ≠ 1) ∨ (spY a b p ≠ spY a b q ∧ (spY a b p = 1 ∨ spY a b q = 1)))) ↔ longB a b (min p q) (max p q) := by
  unfold spX spY longB
  rcases Int.lt_trichotomy p q with h | h | h
  · rw [Int.min_eq_left (by omega), Int.max_eq_right (by omega)]
    repeat' split
    all_goals omega
  · exact absurd h hne
  · rw [Int.min_eq_right (by omega), Int.max_eq_left (by omega)]
    repeat' split
    all_goals omega
theorem long_across {a b p q : Int} (h1 : 1 ≤ a ∧ a ≤ 11 ∧ 0 ≤ b ∧ b ≤ 2) (hp : 0 ≤ p ∧ p < 2 * a + b) (hq : 0 ≤ q ∧ q < 2 * a + b) (hne : p ≠ q) :
    ((spX a b p = spX a b q ∧ spY a b p ≠ 1 ∧ spY a b q ≠ 1) ∨ (spY a b p = 1 ∧ spY a b q = 1)) ↔ longA a b (min p q) (max p q) := by
  unfold spX spY longA
  rcases Int.lt_trichotomy p q with h | h | h
  · rw [Int.min_eq_left (by omega), Int.max_eq_right (by omega)]
    repeat' split
    all_goals omega
  · exact absurd h hne
  · rw [Int.min_eq_right (by omega), Int.max_eq_left (by omega)]
    repeat' split
    all_goals omega

theorem next_ok {h0 : AH} (w : WfH h0) (t : Tab) (k : Int) (hk : 0 ≤ k ∧ k ≤ 1000) : Fn Tryz.prog Xh 207 [tabV t, .int .i64 k] h0 (fun v h' => v = .int .i64 (nx t.A k) ∧ Hs h0 h' []) := by
  have S := Hs.start w
  refine Fn_K rfl Tryz.func207 rfl rfl ?_
  all_goals (repeat' (first | refine K_seq ?_ | refine k_cond rfl ?_ | refine K_skip ?_ | refine K_exit ?_ | refine k_block ?_ | refine K_scope ?_ | (refine K_region (id := 0) ?_; (refine bx S ?_; clear S; intro b h S); refine mv ?_; refine KO_nil ?_) | (refine K_region (id := 1) ?_; refine mv ?_; (first | refine ad ?_ | refine vl ?_); (first | refine vl ?_ | refine fB S ?_ | refine fS S rfl rfl ?_ | refine fA ?_); (first | refine lB S rfl rfl ?_ | refine lES2 S rfl rfl ?_ | refine lEB S ?_ | refine lH S ?_); (first | refine cT ?_ | refine cF ?_ | (refine cS ?_ ?_ <;> intro hc)) <;> (refine KO_nil ?_)) | (refine K_region (id := 2) ?_; refine mv ?_; refine KO_nil ?_) | (refine K_region (id := 3) ?_; refine mv ?_; (first | refine ad ?_ | refine vl ?_); refine mv ?_; refine KO_nil ?_)))
  all_goals (refine K_ret ⟨_, rfl, ?_⟩)
  · exact ⟨by unfold nx; rw [if_pos hc]; rfl, S.drop⟩
  · exact ⟨by unfold nx; rw [if_neg hc]; rfl, S.drop⟩
theorem spotOf_ok {h0 : AH} (w : WfH h0) (t : Tab) (k : Int) (hb : TabB t) (hk : 0 ≤ k ∧ k ≤ 1000) : Fn Tryz.prog Xh 170 [tabV t, .int .i64 k] h0 (fun v h' => v = .agg #[.int .i64 (spX t.A t.B k), .int .i64 (spY t.A t.B k)] ∧ Hs h0 h' []) := by
  have S := Hs.start w
  obtain ⟨-, -, ha1, ha2, hb1, hb2⟩ := hb
  refine Fn_K rfl Tryz.func170 rfl rfl ?_
  all_goals (repeat' (first | refine K_seq ?_ | refine k_cond rfl ?_ | refine K_skip ?_ | refine K_exit ?_ | refine k_block ?_ | refine K_scope ?_ | (refine K_region (id := 0) ?_; (refine bx S ?_; clear S; intro b h S); (refine al S ?_; clear S; intro b h S); refine KO_nil ?_) | (refine K_region (id := 1) ?_; refine mv ?_; (first | refine vl ?_ | refine fB S ?_ | refine fS S rfl rfl ?_ | refine fA ?_); (first | refine lB S rfl rfl ?_ | refine lES2 S rfl rfl ?_ | refine lEB S ?_ | refine lH S ?_); (first | refine cT ?_ | refine cF ?_ | (refine cS ?_ ?_ <;> intro hc)) <;> (refine KO_nil ?_)) | (refine K_region (id := 2) ?_; refine mv ?_; refine vl ?_; (first | (refine sB S rfl rfl ?_; clear S; intro h S) | (refine sE2 S rfl rfl ?_; clear S; intro h S)); refine KO_nil ?_) | (refine K_region (id := 3) ?_; refine mv ?_; (first | refine vl ?_ | refine fB S ?_ | refine fS S rfl rfl ?_ | refine fA ?_); (first | refine lB S rfl rfl ?_ | refine lES2 S rfl rfl ?_ | refine lEB S ?_ | refine lH S ?_); (first | refine sb ?_ | refine vl ?_); refine mv ?_; refine KO_nil ?_) | (refine K_region (id := 4) ?_; (first | refine vl ?_ | refine fB S ?_ | refine fS S rfl rfl ?_ | refine fA ?_); (first | refine lB S rfl rfl ?_ | refine lES2 S rfl rfl ?_ | refine lEB S ?_ | refine lH S ?_); (first | refine cT ?_ | refine cF ?_ | (refine cS ?_ ?_ <;> intro hc)) <;> (refine KO_nil ?_)) | (refine K_region (id := 5) ?_; refine mv ?_; (first | refine cT ?_ | refine cF ?_ | (refine cS ?_ ?_ <;> intro hc)) <;> (refine KO_nil ?_)) | (refine K_region (id := 6) ?_; (first | refine vl ?_ | refine fB S ?_ | refine fS S rfl rfl ?_ | refine fA ?_); (first | refine lB S rfl rfl ?_ | refine lES2 S rfl rfl ?_ | refine lEB S ?_ | refine lH S ?_); refine vl ?_; (first | (refine sB S rfl rfl ?_; clear S; intro h S) | (refine sE2 S rfl rfl ?_; clear S; intro h S)); refine KO_nil ?_) | (refine K_region (id := 7) ?_; refine mv ?_; (first | refine sb ?_ | refine vl ?_); refine mv ?_; refine KO_nil ?_) | (refine K_region (id := 8) ?_; refine mv ?_; (first | refine vl ?_ | refine fB S ?_ | refine fS S rfl rfl ?_ | refine fA ?_); (first | refine lB S rfl rfl ?_ | refine lES2 S rfl rfl ?_ | refine lEB S ?_ | refine lH S ?_); (first | refine cT ?_ | refine cF ?_ | (refine cS ?_ ?_ <;> intro hc)) <;> (refine KO_nil ?_)) | (refine K_region (id := 9) ?_; (first | refine vl ?_ | refine fB S ?_ | refine fS S rfl rfl ?_ | refine fA ?_); (first | refine lB S rfl rfl ?_ | refine lES2 S rfl rfl ?_ | refine lEB S ?_ | refine lH S ?_); (first | refine sb ?_ | refine vl ?_); refine mv ?_; (first | refine sb ?_ | refine vl ?_); refine vl ?_; (first | (refine sB S rfl rfl ?_; clear S; intro h S) | (refine sE2 S rfl rfl ?_; clear S; intro h S)); refine KO_nil ?_) | (refine K_region (id := 10) ?_; refine vl ?_; (first | (refine sB S rfl rfl ?_; clear S; intro h S) | (refine sE2 S rfl rfl ?_; clear S; intro h S)); refine KO_nil ?_)))
  all_goals (refine K_ret ⟨_, ret_cell S rfl (by first | exact .here | exact .there .here | exact .there (.there .here)) (by exact rfl) (by exact rfl), ?_⟩)
  all_goals (refine ⟨?_, S.drop⟩; unfold spX spY)
  all_goals (repeat' split)
  all_goals (first | (exfalso; omega) | rfl | (simp only [Int.sub_zero]; rfl))
theorem aisle_ok {h0 : AH} (w : WfH h0) (t : Tab) (k : Int) (hb : TabB t) (hk : 0 < k ∧ k < t.A) : Fn Tryz.prog Xh 208 [tabV t, .int .i64 k] h0 (fun v h' => BoolIs v (t.B ≠ 0 ∧ t.B ∣ k) ∧ Hs h0 h' []) := by
  have S := Hs.start w
  obtain ⟨-, -, ha1, ha2, hb1, hb2⟩ := hb
  refine Fn_K rfl Tryz.func208 rfl rfl ?_
  all_goals (repeat' (first | refine K_seq ?_ | refine k_cond rfl ?_ | refine K_skip ?_ | refine K_exit ?_ | refine k_block ?_ | refine K_scope ?_ | (refine K_region (id := 0) ?_; (refine bx S ?_; clear S; intro b h S); refine mv ?_; refine KO_nil ?_) | (refine K_region (id := 1) ?_; (first | refine vl ?_ | refine fB S ?_ | refine fS S rfl rfl ?_ | refine fA ?_); (first | refine lB S rfl rfl ?_ | refine lES2 S rfl rfl ?_ | refine lEB S ?_ | refine lH S ?_); (first | refine cT ?_ | refine cF ?_ | (refine cS ?_ ?_ <;> intro hc)) <;> (refine KO_nil ?_)) | (refine K_region (id := 2) ?_; refine mv ?_; refine KO_nil ?_) | (refine K_region (id := 3) ?_; (first | refine vl ?_ | refine fB S ?_ | refine fS S rfl rfl ?_ | refine fA ?_); (first | refine lB S rfl rfl ?_ | refine lES2 S rfl rfl ?_ | refine lEB S ?_ | refine lH S ?_); refine mv ?_; refine KO_nil ?_)))
  · refine K_ret ⟨_, rfl, ?_⟩
    exact ⟨.inr ⟨rfl, fun q => q.1 hc⟩, S.drop⟩
  · refine k_loop (σ := Int) (fun at_ h' => Hs h0 h' [.blk b (eT t) 25] ∧ 0 < at_ ∧ at_ ≤ 200 ∧ t.B ∣ at_ ∧ ∀ m, 0 < m → m < at_ → t.B ∣ m → m ≠ k) (fun at_ => (t.A - at_).toNat) (fun at_ => [(1, .int .i64 k), (2, .pointer (some ⟨b, 0, none⟩)), (5, .int .i64 at_)]) t.B (by repeat (first | exact Ks.le_nil _ | refine Ks.le_cons rfl ?_ | refine Ks.le_int ?_)) ?_ ?_
    · refine ⟨S, by omega, by omega, Int.dvd_refl _, fun m h1 h2 h3 => ?_⟩
      have := Int.le_of_dvd h1 h3
      omega
    clear S
    rintro at_ h ⟨S, h1, h2, h3, h4⟩
    all_goals (repeat' (first | refine K_seq ?_ | refine k_cond rfl ?_ | refine K_skip ?_ | refine K_exit ?_ | refine k_block ?_ | refine K_scope ?_ | (refine K_region (id := 4) ?_; refine mv ?_; (first | refine vl ?_ | refine fB S ?_ | refine fS S rfl rfl ?_ | refine fA ?_); (first | refine lB S rfl rfl ?_ | refine lES2 S rfl rfl ?_ | refine lEB S ?_ | refine lH S ?_); (first | refine cT ?_ | refine cF ?_ | (refine cS ?_ ?_ <;> intro hc)) <;> (refine KO_nil ?_)) | (refine K_region (id := 5) ?_; refine mv ?_; (first | refine vl ?_ | refine fB S ?_ | refine fS S rfl rfl ?_ | refine fA ?_); (first | refine lB S rfl rfl ?_ | refine lES2 S rfl rfl ?_ | refine lEB S ?_ | refine lH S ?_); (first | refine ad ?_ | refine vl ?_); refine mv ?_; refine KO_nil ?_) | (refine K_region (id := 6) ?_; refine mv ?_; refine mv ?_; (first | refine cT ?_ | refine cF ?_ | (refine cS ?_ ?_ <;> intro hc)) <;> (refine KO_nil ?_)) | (refine K_region (id := 7) ?_; refine mv ?_; refine KO_nil ?_) | (refine K_region (id := 8) ?_; refine mv ?_; refine KO_nil ?_)))
    · refine K_ret ⟨_, rfl, ?_⟩
      exact ⟨.inl ⟨rfl, by omega, by rw [← hc]; exact h3⟩, S.drop⟩
    · refine ⟨at_ + t.B, ?_, ?_, (by repeat (first | exact Ks.le_nil _ | refine Ks.le_cons rfl ?_ | refine Ks.le_int ?_))⟩
      · show (t.A - (at_ + t.B)).toNat < (t.A - at_).toNat; omega
      · refine ⟨S, by omega, by omega, Int.dvd_add h3 (Int.dvd_refl _), fun m g1 g2 g3 => ?_⟩
        rcases Int.lt_trichotomy m at_ with q | q | q
        · exact h4 m g1 q g3
        · rw [q]; assumption
        · have := Int.le_of_dvd (show 0 < m - at_ by omega) (Int.dvd_sub g3 h3)
          omega
    · refine K_ret ⟨_, rfl, ?_⟩
      refine ⟨.inr ⟨rfl, fun q => ?_⟩, S.drop⟩
      exact h4 k hk.1 (by omega) q.2 rfl

theorem besideP_symm (t : Tab) (p q : Int) : besideP t p q ↔ besideP t q p := by
  unfold besideP
  rw [Int.min_comm, Int.max_comm]
  exact ⟨fun h => ⟨fun e => h.1 e.symm, h.2⟩, fun h => ⟨fun e => h.1 e.symm, h.2⟩⟩
theorem acrossP_symm (t : Tab) (p q : Int) : acrossP t p q ↔ acrossP t q p := by
  unfold acrossP
  rw [Int.min_comm, Int.max_comm]
  exact ⟨fun h => ⟨fun e => h.1 e.symm, h.2⟩, fun h => ⟨fun e => h.1 e.symm, h.2⟩⟩
section
variable {t : Tab} {p q : Int}
theorem besideP_1 (hs : TabS t) (h : t.shape = 1) (hp : 0 ≤ p ∧ p < tsize t) (hq : 0 ≤ q ∧ q < tsize t) (hne : p ≠ q) : besideP t p q ↔ nx t.A p = q ∨ nx t.A q = p := by
  have k := hs.s1 h
  have e : besideP t p q ↔ roundB t.A t.B (min p q) (max p q) := by
    unfold besideP
    constructor
    · rintro ⟨-, ⟨-, g⟩ | ⟨g, -⟩ | ⟨g, -⟩ | ⟨g, -⟩⟩
      · exact g
      all_goals omega
    · exact fun g => ⟨hne, .inl ⟨h, g⟩⟩
  rw [e]
  unfold roundB nx
  rcases Int.lt_trichotomy p q with g | g | g
  · rw [Int.min_eq_left (by omega), Int.max_eq_right (by omega)]
    repeat' split
    all_goals omega
  · exact absurd g hne
  · rw [Int.min_eq_right (by omega), Int.max_eq_left (by omega)]
    repeat' split
    all_goals omega
theorem besideP_2 (h : t.shape = 2) (hne : p ≠ q) : besideP t p q ↔ longB t.A t.B (min p q) (max p q) := by
  unfold besideP
  constructor
  · rintro ⟨-, ⟨g, -⟩ | ⟨-, g⟩ | ⟨g, -⟩ | ⟨g, -⟩⟩
    · omega
    · exact g
    all_goals omega
  · exact fun g => ⟨hne, .inr (.inl ⟨h, g⟩)⟩
theorem besideP_3 (h : t.shape = 3) (hne : p ≠ q) : besideP t p q ↔ p + 1 = q ∨ q + 1 = p := by
  unfold besideP shoeB
  constructor
  · rintro ⟨-, ⟨g, -⟩ | ⟨g, -⟩ | ⟨-, g⟩ | ⟨g, -⟩⟩ <;> omega
  · exact fun g => ⟨hne, .inr (.inr (.inl ⟨h, by omega⟩))⟩
theorem besideP_4 (h : t.shape = 4) (hlt : p < q) : besideP t p q ↔ p + 1 = q ∧ ¬ (t.B ≠ 0 ∧ t.B ∣ q) := by
  unfold besideP rowB
  rw [Int.min_eq_left (by omega), Int.max_eq_right (by omega)]
  constructor
  · rintro ⟨-, ⟨g, -⟩ | ⟨g, -⟩ | ⟨g, -⟩ | ⟨-, g1, g2⟩⟩
    · omega
    · omega
    · omega
    · exact ⟨by omega, fun k => g2.elim k.1 fun g => g (Int.emod_eq_zero_of_dvd k.2)⟩
  · refine fun g => ⟨by omega, .inr (.inr (.inr ⟨h, by omega, ?_⟩))⟩
    by_cases k : t.B = 0
    · exact .inl k
    · exact .inr fun k2 => g.2 ⟨k, Int.dvd_of_emod_eq_zero k2⟩
theorem acrossP_1 (hne : p ≠ q) (h : t.shape = 1) : acrossP t p q ↔ roundA t.A t.B (min p q) (max p q) := by
  unfold acrossP
  constructor
  · rintro ⟨-, ⟨-, g⟩ | ⟨g, -⟩ | ⟨g, -⟩⟩
    · exact g
    all_goals omega
  · exact fun g => ⟨hne, .inl ⟨h, g⟩⟩
theorem acrossP_2 (hne : p ≠ q) (h : t.shape = 2) : acrossP t p q ↔ longA t.A t.B (min p q) (max p q) := by
  unfold acrossP
  constructor
  · rintro ⟨-, ⟨g, -⟩ | ⟨-, g⟩ | ⟨g, -⟩⟩
    · omega
    · exact g
    · omega
  · exact fun g => ⟨hne, .inr (.inl ⟨h, g⟩)⟩
theorem acrossP_3 (hne : p ≠ q) (h : t.shape = 3) : acrossP t p q ↔ min p q < t.B ∧ p + q = t.A + 2 * t.B - 1 := by
  unfold acrossP shoeA
  constructor
  · rintro ⟨-, ⟨g, -⟩ | ⟨g, -⟩ | ⟨-, g⟩⟩ <;> omega
  · exact fun g => ⟨hne, .inr (.inr ⟨h, by omega⟩)⟩
theorem acrossP_4 (h : t.shape = 4) : ¬ acrossP t p q := by
  unfold acrossP
  rintro ⟨-, ⟨g, -⟩ | ⟨g, -⟩ | ⟨g, -⟩⟩ <;> omega
end

theorem besideAt_rec {h0 : AH} (w : WfH h0) (t : Tab) (p q : Int) (hs : TabS t) (hp : 0 ≤ p ∧ p < tsize t) (hq : 0 ≤ q ∧ q < tsize t)
    (hrec : ∀ h, WfH h → q < p → Fn Tryz.prog Xh 172 [tabV t, .int .i64 q, .int .i64 p] h (fun v h' => BoolIs v (besideP t q p) ∧ Hs h h' [])) :
    Fn Tryz.prog Xh 172 [tabV t, .int .i64 p, .int .i64 q] h0 (fun v h' => BoolIs v (besideP t p q) ∧ Hs h0 h' []) := by
  have S := Hs.start w
  have hsz := tsize_le t
  have hB := hs.b
  have hb := hs.b
  obtain ⟨-, -, ha1, ha2, hb1, hb2⟩ := hb
  have hsp := hs.shape
  refine Fn_K rfl Tryz.func172 rfl rfl ?_
  all_goals (repeat' (first | refine K_seq ?_ | refine k_cond rfl ?_ | refine K_skip ?_ | refine K_exit ?_ | refine k_block ?_ | refine K_scope ?_ | (refine K_region (id := 0) ?_; (refine bx S ?_; clear S; intro b h S); refine mv ?_; refine KO_nil ?_) | (refine K_region (id := 1) ?_; refine mv ?_; refine mv ?_; (first | refine cT ?_ | refine cF ?_ | (refine cS ?_ ?_ <;> intro hc)) <;> (refine KO_nil ?_)) | (refine K_region (id := 2) ?_; refine mv ?_; refine KO_nil ?_) | (refine K_region (id := 3) ?_; (first | refine vl ?_ | refine fB S ?_ | refine fS S rfl rfl ?_ | refine fA ?_); (first | refine lB S rfl rfl ?_ | refine lES2 S rfl rfl ?_ | refine lEB S ?_ | refine lH S ?_); refine KO_nil ?_) | (refine K_region (id := 4) ?_; (first | refine cT ?_ | refine cF ?_ | (refine cS ?_ ?_ <;> intro hc)) <;> (refine mv ?_; refine KO_nil ?_)) | (refine K_region (id := 5) ?_; (first | refine lB S rfl rfl ?_ | refine lES2 S rfl rfl ?_ | refine lEB S ?_ | refine lH S ?_); refine mv ?_) | (refine K_region (id := 6) ?_; (first | refine cT ?_ | refine cF ?_ | (refine cS ?_ ?_ <;> intro hc)) <;> (refine mv ?_; refine KO_nil ?_)) | (refine K_region (id := 11) ?_; (first | refine cT ?_ | refine cF ?_ | (refine cS ?_ ?_ <;> intro hc)) <;> (refine mv ?_; refine KO_nil ?_)) | (refine K_region (id := 12) ?_; refine mv ?_; (first | refine ad ?_ | refine vl ?_); refine mv ?_; (first | refine cT ?_ | refine cF ?_ | (refine cS ?_ ?_ <;> intro hc)) <;> (refine mv ?_; (first | refine off ?_ | refine mv ?_); (first | refine off ?_ | (first | refine ad ?_ | refine vl ?_)); (first | refine off ?_ | refine mv ?_); (first | refine off ?_ | (first | refine cT ?_ | refine cF ?_ | (refine cS ?_ ?_ <;> intro hc))) <;> (refine vl ?_; refine mv ?_; refine KO_nil ?_))) | (refine K_region (id := 13) ?_; refine mv ?_; refine mv ?_; (first | refine cT ?_ | refine cF ?_ | (refine cS ?_ ?_ <;> intro hc)) <;> (refine KO_nil ?_)) | (refine K_region (id := 14) ?_; (first | refine lB S rfl rfl ?_ | refine lES2 S rfl rfl ?_ | refine lEB S ?_ | refine lH S ?_); refine mv ?_; refine mv ?_) | (refine K_region (id := 15) ?_; refine mv ?_; (first | refine ad ?_ | refine vl ?_); refine mv ?_; (first | refine cT ?_ | refine cF ?_ | (refine cS ?_ ?_ <;> intro hc)) <;> (refine mv ?_; (first | refine off ?_ | (first | refine lB S rfl rfl ?_ | refine lES2 S rfl rfl ?_ | refine lEB S ?_ | refine lH S ?_)); (first | refine off ?_ | refine mv ?_); (first | (refine off ?_; (first | refine off ?_ | refine vl ?_); refine vl ?_; refine mv ?_; refine KO_nil ?_) | skip)))))
  · refine K_ret ⟨_, rfl, ?_⟩
    exact ⟨.inr ⟨rfl, fun g => g.1 hc⟩, S.drop⟩
  · have hsh := hc
    have hne : p ≠ q := by assumption
    have e := besideP_1 hs hsh hp hq hne
    (refine KO_fn rfl rfl rfl rfl rfl ((next_ok S.wf t p (by omega)).mono ?_); rintro _ h ⟨rfl, x⟩) <;> (replace S := S.join0 x; clear x; refine mv ?_; (first | refine cT ?_ | refine cF ?_ | (refine cS ?_ ?_ <;> intro hc)) <;> (refine mv ?_; (first | refine off ?_ | (first | refine lB S rfl rfl ?_ | refine lES2 S rfl rfl ?_ | refine lEB S ?_ | refine lH S ?_)); (first | refine off ?_ | refine mv ?_); (first | (refine off ?_; (first | refine off ?_ | refine mv ?_); (first | refine off ?_ | (first | refine cT ?_ | refine cF ?_ | (refine cS ?_ ?_ <;> intro hc))) <;> (refine vl ?_; refine mv ?_; refine KO_nil ?_)) | skip)))
    · all_goals (repeat' (first | refine K_seq ?_ | refine k_cond rfl ?_ | refine K_skip ?_ | refine K_exit ?_ | refine k_block ?_ | refine K_scope ?_))
      refine K_ret ⟨_, rfl, ?_⟩
      exact ⟨.inl ⟨rfl, e.2 (.inl (by assumption))⟩, S.drop⟩
    · (refine KO_fn rfl rfl rfl rfl rfl ((next_ok S.wf t q (by omega)).mono ?_); rintro _ h ⟨rfl, x⟩) <;> (replace S := S.join0 x; clear x; (first | refine off ?_ | refine mv ?_); (first | refine off ?_ | (first | refine cT ?_ | refine cF ?_ | (refine cS ?_ ?_ <;> intro hc))) <;> (refine vl ?_; refine mv ?_; refine KO_nil ?_))
      all_goals (repeat' (first | refine K_seq ?_ | refine k_cond rfl ?_ | refine K_skip ?_ | refine K_exit ?_ | refine k_block ?_ | refine K_scope ?_))
      all_goals (refine K_ret ⟨_, rfl, ?_⟩)
      · exact ⟨.inl ⟨rfl, e.2 (.inr (by assumption))⟩, S.drop⟩
      · exact ⟨.inr ⟨rfl, fun g => by have := e.1 g; omega⟩, S.drop⟩
  · have hsh := hc
    have hne : p ≠ q := by assumption
    have k := hs.s2 hsh
    have e := besideP_2 hsh hne
    have lb := long_beside (a := t.A) (b := t.B) (p := p) (q := q) (by omega) (by omega) (by omega) hne
    have hP := fun g => e.2 (lb.1 g)
    have hN := fun (g : ¬ _) (g2 : besideP t p q) => g (lb.2 (e.1 g2))
    have bx1 : -1 ≤ spX t.A t.B p ∧ spX t.A t.B p ≤ 1000 := by unfold spX; repeat' split <;> omega
    have bx2 : -1 ≤ spX t.A t.B q ∧ spX t.A t.B q ≤ 1000 := by unfold spX; repeat' split <;> omega
    clear lb e
    refine K_drawF2 (id := 7) (j1 := 6) (j2 := 7) (rd := [(3, (0, 1)), (6, (0, 2)), (7, (0, 2))]) (fun b1 b2 => [some (b), some b1, some b2]) S (HintOk.direct) (HintOk.direct) ?_; clear S; intro b1 b2 h S; refine KX_cons ?_; (first | (refine lB S rfl rfl ?_ <;> refine KO_nil ⟨⟨by (first | exact True.intro | exact Or.inl rfl | exact Or.inr rfl | exact Or.inr (congrArg some (blkOf_elA _ _ _ _)) | exact ⟨Or.inl rfl, rfl⟩ | exact ⟨Or.inr rfl, rfl⟩), rfl⟩, ?_⟩) | (refine lES2 S rfl rfl ?_ <;> refine KO_nil ⟨⟨by (first | exact True.intro | exact Or.inl rfl | exact Or.inr rfl | exact Or.inr (congrArg some (blkOf_elA _ _ _ _)) | exact ⟨Or.inl rfl, rfl⟩ | exact ⟨Or.inr rfl, rfl⟩), rfl⟩, ?_⟩) | (refine lEB S ?_ <;> refine KO_nil ⟨⟨by (first | exact True.intro | exact Or.inl rfl | exact Or.inr rfl | exact Or.inr (congrArg some (blkOf_elA _ _ _ _)) | exact ⟨Or.inl rfl, rfl⟩ | exact ⟨Or.inr rfl, rfl⟩), rfl⟩, ?_⟩) | (refine lH S ?_ <;> refine KO_nil ⟨⟨by (first | exact True.intro | exact Or.inl rfl | exact Or.inr rfl | exact Or.inr (congrArg some (blkOf_elA _ _ _ _)) | exact ⟨Or.inl rfl, rfl⟩ | exact ⟨Or.inr rfl, rfl⟩), rfl⟩, ?_⟩)); refine KX_cons ?_; (first | (refine mv ?_ <;> refine KO_nil ⟨⟨by (first | exact True.intro | exact Or.inl rfl | exact Or.inr rfl | exact Or.inr (congrArg some (blkOf_elA _ _ _ _)) | exact ⟨Or.inl rfl, rfl⟩ | exact ⟨Or.inr rfl, rfl⟩), rfl⟩, ?_⟩))
    ((refine KX_cons ?_; first | refine KO_fn rfl rfl rfl rfl rfl ((spotOf_ok S.wf t p hB (by omega)).mono ?_)); rintro _ h ⟨rfl, x⟩) <;> ((refine KO_nil ⟨⟨True.intro, ?_⟩, ?_⟩; (focus ((show keepsX _ _ _ _ _; simp only [keepsX]; (repeat' (first | exact True.intro | refine And.intro ?_ ?_)); all_goals (intro hw; first | exact True.intro | exact rfl | exact x.ext.old _ S.bB | exact x.ext.old _ (S.bR (by first | omega | grind)) | exact x.ext.old _ (S.bX (by assumption) (by assumption) (by first | omega | grind)) | exact x.ext.old _ (S.bY (by assumption) (by assumption)) | (refine x.ext.old _ ?_; assumption) | exact absurd hw (by decide +kernel)))))); replace S := S.join0 x; clear x; refine KX_cons ?_; (first | (refine lB S rfl rfl ?_ <;> refine KO_nil ⟨⟨by (first | exact True.intro | exact Or.inl rfl | exact Or.inr rfl | exact Or.inr (congrArg some (blkOf_elA _ _ _ _)) | exact ⟨Or.inl rfl, rfl⟩ | exact ⟨Or.inr rfl, rfl⟩), rfl⟩, ?_⟩) | (refine lES2 S rfl rfl ?_ <;> refine KO_nil ⟨⟨by (first | exact True.intro | exact Or.inl rfl | exact Or.inr rfl | exact Or.inr (congrArg some (blkOf_elA _ _ _ _)) | exact ⟨Or.inl rfl, rfl⟩ | exact ⟨Or.inr rfl, rfl⟩), rfl⟩, ?_⟩) | (refine lEB S ?_ <;> refine KO_nil ⟨⟨by (first | exact True.intro | exact Or.inl rfl | exact Or.inr rfl | exact Or.inr (congrArg some (blkOf_elA _ _ _ _)) | exact ⟨Or.inl rfl, rfl⟩ | exact ⟨Or.inr rfl, rfl⟩), rfl⟩, ?_⟩) | (refine lH S ?_ <;> refine KO_nil ⟨⟨by (first | exact True.intro | exact Or.inl rfl | exact Or.inr rfl | exact Or.inr (congrArg some (blkOf_elA _ _ _ _)) | exact ⟨Or.inl rfl, rfl⟩ | exact ⟨Or.inr rfl, rfl⟩), rfl⟩, ?_⟩)); refine KX_cons ?_; (first | (refine mv ?_ <;> refine KO_nil ⟨⟨by (first | exact True.intro | exact Or.inl rfl | exact Or.inr rfl | exact Or.inr (congrArg some (blkOf_elA _ _ _ _)) | exact ⟨Or.inl rfl, rfl⟩ | exact ⟨Or.inr rfl, rfl⟩), rfl⟩, ?_⟩)))
    ((refine KX_cons ?_; first | refine KO_fn rfl rfl rfl rfl rfl ((spotOf_ok S.wf t q hB (by omega)).mono ?_)); rintro _ h ⟨rfl, x⟩) <;> ((refine KO_nil ⟨⟨True.intro, ?_⟩, ?_⟩; (focus ((show keepsX _ _ _ _ _; simp only [keepsX]; (repeat' (first | exact True.intro | refine And.intro ?_ ?_)); all_goals (intro hw; first | exact True.intro | exact rfl | exact x.ext.old _ S.bB | exact x.ext.old _ (S.bR (by first | omega | grind)) | exact x.ext.old _ (S.bX (by assumption) (by assumption) (by first | omega | grind)) | exact x.ext.old _ (S.bY (by assumption) (by assumption)) | (refine x.ext.old _ ?_; assumption) | exact absurd hw (by decide +kernel)))))); replace S := S.join0 x; clear x; refine fl S rfl rfl S.gB ?_; refine fl S rfl rfl S.gB ?_; refine KX_cons ?_; (first | ((refine sB S rfl rfl ?_; have S0 := S; clear S; intro h S); refine KO_nil ⟨⟨True.intro, ?_⟩, ?_⟩; (focus ((show keepsX _ _ _ _ _; simp only [keepsX]; (repeat' (first | exact True.intro | refine And.intro ?_ ?_)); all_goals (intro hw; first | exact True.intro | exact (S.gB).trans (S0.gB).symm | exact absurd hw (by decide +kernel))))); clear S0) | ((refine sE2 S rfl rfl ?_; have S0 := S; clear S; intro h S); refine KO_nil ⟨⟨True.intro, ?_⟩, ?_⟩; (focus ((show keepsX _ _ _ _ _; simp only [keepsX]; (repeat' (first | exact True.intro | refine And.intro ?_ ?_)); all_goals (intro hw; first | exact True.intro | exact (S.gB).trans (S0.gB).symm | exact absurd hw (by decide +kernel))))); clear S0)); refine KX_cons ?_; (first | ((refine sB S rfl rfl ?_; have S0 := S; clear S; intro h S); refine KO_nil ⟨⟨True.intro, ?_⟩, ?_⟩; (focus ((show keepsX _ _ _ _ _; simp only [keepsX]; (repeat' (first | exact True.intro | refine And.intro ?_ ?_)); all_goals (intro hw; first | exact True.intro | exact (S.gB).trans (S0.gB).symm | exact absurd hw (by decide +kernel))))); clear S0) | ((refine sE2 S rfl rfl ?_; have S0 := S; clear S; intro h S); refine KO_nil ⟨⟨True.intro, ?_⟩, ?_⟩; (focus ((show keepsX _ _ _ _ _; simp only [keepsX]; (repeat' (first | exact True.intro | refine And.intro ?_ ?_)); all_goals (intro hw; first | exact True.intro | exact (S.gB).trans (S0.gB).symm | exact absurd hw (by decide +kernel))))); clear S0)); refine KX_nil ?_)
    generalize hx1 : spX t.A t.B p = x1 at *
    generalize hx2 : spX t.A t.B q = x2 at *
    generalize hy1 : spY t.A t.B p = y1 at *
    generalize hy2 : spY t.A t.B q = y2 at *
    all_goals (repeat' (first | refine K_seq ?_ | refine k_cond rfl ?_ | refine K_skip ?_ | refine K_exit ?_ | refine k_block ?_ | refine K_scope ?_ | (refine K_region (id := 8) ?_; (first | refine vl ?_ | refine fB S ?_ | refine fS S rfl rfl ?_ | refine fA ?_); (first | refine lB S rfl rfl ?_ | refine lES2 S rfl rfl ?_ | refine lEB S ?_ | refine lH S ?_); (first | refine vl ?_ | refine fB S ?_ | refine fS S rfl rfl ?_ | refine fA ?_); (first | refine lB S rfl rfl ?_ | refine lES2 S rfl rfl ?_ | refine lEB S ?_ | refine lH S ?_); (first | refine sb ?_ | refine vl ?_); (first | refine cT ?_ | refine cF ?_ | (refine cS ?_ ?_ <;> intro hc)) <;> (refine mv ?_; (first | refine off ?_ | (first | refine vl ?_ | refine fB S ?_ | refine fS S rfl rfl ?_ | refine fA ?_)); (first | refine off ?_ | (first | refine lB S rfl rfl ?_ | refine lES2 S rfl rfl ?_ | refine lEB S ?_ | refine lH S ?_)); (first | refine off ?_ | (first | refine vl ?_ | refine fB S ?_ | refine fS S rfl rfl ?_ | refine fA ?_)); (first | refine off ?_ | (first | refine lB S rfl rfl ?_ | refine lES2 S rfl rfl ?_ | refine lEB S ?_ | refine lH S ?_)); (first | refine off ?_ | (first | refine sb ?_ | refine vl ?_)); (first | refine off ?_ | (first | refine cT ?_ | refine cF ?_ | (refine cS ?_ ?_ <;> intro hc))) <;> (refine vl ?_; refine KO_nil ?_))) | (refine K_region (id := 9) ?_; refine mv ?_; refine KO_nil ?_) | (refine K_region (id := 10) ?_; (first | refine vl ?_ | refine fB S ?_ | refine fS S rfl rfl ?_ | refine fA ?_); (first | refine lB S rfl rfl ?_ | refine lES2 S rfl rfl ?_ | refine lEB S ?_ | refine lH S ?_); (first | refine vl ?_ | refine fB S ?_ | refine fS S rfl rfl ?_ | refine fA ?_); (first | refine lB S rfl rfl ?_ | refine lES2 S rfl rfl ?_ | refine lEB S ?_ | refine lH S ?_); (first | refine cT ?_ | refine cF ?_ | (refine cS ?_ ?_ <;> intro hc)) <;> (refine mv ?_; (first | refine off ?_ | (first | refine vl ?_ | refine fB S ?_ | refine fS S rfl rfl ?_ | refine fA ?_)); (first | refine off ?_ | (first | refine lB S rfl rfl ?_ | refine lES2 S rfl rfl ?_ | refine lEB S ?_ | refine lH S ?_)); (first | refine off ?_ | (first | refine cT ?_ | refine cF ?_ | (refine cS ?_ ?_ <;> intro hc))) <;> (refine vl ?_; refine mv ?_; (first | refine off ?_ | (first | refine vl ?_ | refine fB S ?_ | refine fS S rfl rfl ?_ | refine fA ?_)); (first | refine off ?_ | (first | refine lB S rfl rfl ?_ | refine lES2 S rfl rfl ?_ | refine lEB S ?_ | refine lH S ?_)); (first | refine off ?_ | (first | refine vl ?_ | refine fB S ?_ | refine fS S rfl rfl ?_ | refine fA ?_)); (first | refine off ?_ | (first | refine lB S rfl rfl ?_ | refine lES2 S rfl rfl ?_ | refine lEB S ?_ | refine lH S ?_)); (first | refine off ?_ | (first | refine cT ?_ | refine cF ?_ | (refine cS ?_ ?_ <;> intro hc))) <;> ((first | refine off ?_ | refine mv ?_); (first | refine off ?_ | (first | refine vl ?_ | refine fB S ?_ | refine fS S rfl rfl ?_ | refine fA ?_)); (first | refine off ?_ | (first | refine lB S rfl rfl ?_ | refine lES2 S rfl rfl ?_ | refine lEB S ?_ | refine lH S ?_)); (first | refine off ?_ | (first | refine cT ?_ | refine cF ?_ | (refine cS ?_ ?_ <;> intro hc))) <;> ((first | refine off ?_ | refine mv ?_); (first | refine off ?_ | (first | refine vl ?_ | refine fB S ?_ | refine fS S rfl rfl ?_ | refine fA ?_)); (first | refine off ?_ | (first | refine lB S rfl rfl ?_ | refine lES2 S rfl rfl ?_ | refine lEB S ?_ | refine lH S ?_)); (first | refine off ?_ | (first | refine cT ?_ | refine cF ?_ | (refine cS ?_ ?_ <;> intro hc))) <;> ((first | refine off ?_ | refine vl ?_); (first | refine off ?_ | refine vl ?_); refine vl ?_; refine mv ?_; refine KO_nil ?_))))))))
    all_goals (refine K_ret ⟨_, rfl, ?_⟩)
    all_goals (refine ⟨?_, S.drop⟩)
    all_goals (first | exact .inl ⟨rfl, hP (by omega)⟩ | exact .inr ⟨rfl, hN (by omega)⟩)
  · have e := besideP_3 (by assumption) (show p ≠ q by assumption)
    refine K_ret ⟨_, rfl, ?_⟩
    exact ⟨.inl ⟨rfl, e.2 (by omega)⟩, S.drop⟩
  · have e := besideP_3 (by assumption) (show p ≠ q by assumption)
    refine K_ret ⟨_, rfl, ?_⟩
    exact ⟨.inl ⟨rfl, e.2 (by omega)⟩, S.drop⟩
  · have e := besideP_3 (by assumption) (show p ≠ q by assumption)
    refine K_ret ⟨_, rfl, ?_⟩
    exact ⟨.inr ⟨rfl, fun g => by have := e.1 g; omega⟩, S.drop⟩
  · (refine KO_fn rfl rfl rfl rfl rfl ((hrec _ S.wf (by assumption)).mono ?_); rintro _ h ⟨hv, x⟩) <;> (replace S := S.join0 x; clear x; refine mv ?_; refine KO_nil ?_)
    all_goals (repeat' (first | refine K_seq ?_ | refine k_cond rfl ?_ | refine K_skip ?_ | refine K_exit ?_ | refine k_block ?_ | refine K_scope ?_))
    refine K_ret ⟨_, rfl, ?_⟩
    rcases hv with ⟨rfl, hv⟩ | ⟨rfl, hv⟩
    · exact ⟨.inl ⟨rfl, (besideP_symm t q p).1 hv⟩, S.drop⟩
    · exact ⟨.inr ⟨rfl, fun g => hv ((besideP_symm t q p).2 g)⟩, S.drop⟩
  · have h4 : t.shape = 4 := by omega
    have k := hs.s4 h4
    have e := besideP_4 h4 (show p < q by omega)
    (refine KO_fn rfl rfl rfl rfl rfl ((aisle_ok S.wf t q hB (by omega)).mono ?_); rintro _ h ⟨⟨rfl, hv⟩ | ⟨rfl, hv⟩, x⟩) <;> (replace S := S.join0 x; clear x; (first | refine off ?_ | refine vl ?_); refine vl ?_; refine mv ?_; refine KO_nil ?_)
    all_goals (repeat' (first | refine K_seq ?_ | refine k_cond rfl ?_ | refine K_skip ?_ | refine K_exit ?_ | refine k_block ?_ | refine K_scope ?_))
    all_goals (refine K_ret ⟨_, rfl, ?_⟩)
    · exact ⟨.inr ⟨rfl, fun g => (e.1 g).2 hv⟩, S.drop⟩
    · exact ⟨.inl ⟨rfl, e.2 ⟨by assumption, hv⟩⟩, S.drop⟩
  · have h4 : t.shape = 4 := by omega
    have e := besideP_4 h4 (show p < q by omega)
    refine K_ret ⟨_, rfl, ?_⟩
    exact ⟨.inr ⟨rfl, fun g => by have := (e.1 g).1; omega⟩, S.drop⟩
theorem besideAt_ok {h0 : AH} (w : WfH h0) (t : Tab) (p q : Int) (hs : TabS t) (hp : 0 ≤ p ∧ p < tsize t) (hq : 0 ≤ q ∧ q < tsize t) : Fn Tryz.prog Xh 172 [tabV t, .int .i64 p, .int .i64 q] h0 (fun v h' => BoolIs v (besideP t p q) ∧ Hs h0 h' []) :=
  besideAt_rec w t p q hs hp hq fun h wh g => besideAt_rec wh t q p hs hq hp fun h2 wh2 g2 => by omega
end Go.Proofs.Xx

/-
  Valid tables and halls that are made of codes.
-/
namespace Go.Proofs.Xx
open Go Go.Proofs
set_option linter.unusedSimpArgs false
set_option linter.unusedVariables false
set_option maxRecDepth 100000

structure MadeT (c : Cod) (nm : List UInt8) (t : Tab) : Prop where
  name : t.name = nm
  shape : t.shape = 1 + (c.s : Int) % 4
  ts : TabS t
  opn : OpnOk (tsize t) t.opn
  len : t.opn.length ≤ 24
  xy : t.X = 0 ∧ t.Y = 0
  round : (c.s : Int) % 4 = 0 → t.A = 1 + (c.a : Int) % 24 ∧ t.B = 0
def SizeOk (c : Cod) (A B : Int) (n : Nat) : Prop := sizeOf1 (1 + (c.s : Int) % 4) A B = n ∧ 0 < n ∧ n ≤ 24 ∧ ((c.s : Int) % 4 = 0 → A = 1 + (c.a : Int) % 24 ∧ B = 0)

end Go.Proofs.Xx

/-
  Halls that are made of codes.
-/
namespace Go.Proofs.Xx
open Go Go.Proofs
set_option linter.unusedSimpArgs false
set_option linter.unusedVariables false
set_option maxRecDepth 100000

abbrev letter (i : Nat) : List UInt8 := [UInt8.ofNat (97 + i)]
theorem letter_lt {i : Nat} (h : i < 16) : (UInt8.ofNat (97 + i)).toNat = 97 + i := by
  rw [UInt8.toNat_ofNat']; omega
theorem letter_inj {i j : Nat} (hi : i < 16) (hj : j < 16) (h : letter i = letter j) : i = j := by
  have : UInt8.ofNat (97 + i) = UInt8.ofNat (97 + j) := by simpa [letter] using h
  have := congrArg UInt8.toNat this
  rw [letter_lt hi, letter_lt hj] at this
  omega
/-- The hall of codes. -/
structure MadeH (cs : List Cod) (l : List Tab) : Prop where
  len : l.length = min cs.length 16
  tab : ∀ i, i < l.length → ∃ t, MadeT (cd cs i) (letter i) t ∧ tb l i = { t with X := 7 * (i : Int), Y := 100 - (i : Int) }
def OpnA (l : List Tab) (h : AH) (fp : Fp) : Prop := ∀ j, j < l.length → RdL h (tb l j).ov 1 eI (tb l j).opn
theorem MadeH.le {cs : List Cod} {l : List Tab} (m : MadeH cs l) : l.length ≤ 16 := by have := m.len; omega
theorem MadeH.name {cs : List Cod} {l : List Tab} (m : MadeH cs l) {i : Nat} (h : i < l.length) : (tb l i).name = letter i := by
  obtain ⟨t, h1, h2⟩ := m.tab i h
  rw [h2]; exact h1.name
theorem tsize_xy (t : Tab) (x y : Int) : tsize { t with X := x, Y := y } = tsize t := rfl
theorem MadeH.chk {cs : List Cod} {l : List Tab} (m : MadeH cs l) {i : Nat} (h : i < l.length) : chk (tb l i) = 0 := by
  have hle := m.le
  obtain ⟨t, h1, h2⟩ := m.tab i h
  rw [h2]
  unfold Xx.chk
  have hn : nameP t.name := by
    rw [h1.name]
    refine ⟨by simp, by simp, fun j hj => ?_⟩
    obtain rfl : j = 0 := by simpa using hj
    show lowB (UInt8.ofNat (97 + i))
    unfold lowB
    rw [letter_lt (by omega)]; omega
  have hp := h1.ts.pos
  rw [if_neg (by simpa using hn), tsize_xy, if_neg (by omega), if_neg (by simpa using h1.opn), if_neg]
  simp only [XYok, Classical.not_not]
  omega
theorem MadeH.valid {cs : List Cod} {l : List Tab} (m : MadeH cs l) : ValidL l := by
  have hle := m.le
  refine ⟨hle, fun j hj => ⟨m.chk hj, fun ⟨i, hi, he⟩ => ?_⟩⟩
  rw [m.name (by omega), m.name hj] at he
  have := letter_inj (by omega) (by omega) he
  omega
end Go.Proofs.Xx

/-
  Distances found level by level.
-/
namespace Go.Proofs.Xx
set_option linter.unusedVariables false

theorem pigeon : ∀ (n m : Nat) (f : Nat → Nat), (∀ k, k < m → f k < n) → (∀ i j, i < m → j < m → f i = f j → i = j) → m ≤ n
  | 0, m, f, h1, _ => by
    rcases Nat.eq_zero_or_pos m with h | h
    · omega
    · exact absurd (h1 0 h) (Nat.not_lt_zero _)
  | n + 1, m, f, h1, h2 => by
    by_cases hk : ∃ k, k < m ∧ f k = n
    · obtain ⟨k0, hk0, he⟩ := hk
      have := pigeon n (m - 1) (fun k => if k = k0 then f (m - 1) else f k) (fun k hk => by
        have key : ∀ j, j < m → j ≠ k0 → f j < n := fun j hj hne => by
          have := h1 j hj
          have : f j ≠ n := fun q => hne (h2 j k0 hj hk0 (by omega))
          omega
        split
        · exact key _ (by omega) (by omega)
        · exact key _ (by omega) (by assumption)) (fun i j hi hj q => by
        split at q <;> split at q
        · omega
        · have := h2 _ _ (by omega) (by omega) q; omega
        · have := h2 _ _ (by omega) (by omega) q; omega
        · exact h2 _ _ (by omega) (by omega) q)
      omega
    · have := pigeon n m f (fun k hk' => by
        have := h1 k hk'
        have : f k ≠ n := fun q => hk ⟨k, hk', q⟩
        omega) h2
      omega

section
variable {N : Int → Int → Prop} {n s : Nat}
theorem IsDist.pred {d y : Nat} (h : IsDist N n s (d + 1) y) : ∃ x : Nat, x < n ∧ IsDist N n s d x ∧ N x y := by
  obtain ⟨⟨x, hx, hw, hn⟩, h2⟩ := h
  refine ⟨x, hx, ⟨hw, fun e he q => h2 (e + 1) (by omega) ⟨x, hx, q, hn⟩⟩, hn⟩
theorem IsDist.lt {d y : Nat} (hs : s < n) (h : IsDist N n s d y) (hy : y < n) : d < n := by
  have all : ∀ (d y : Nat), y < n → IsDist N n s d y → ∀ k, k ≤ d → ∃ x, x < n ∧ IsDist N n s k x := by
    intro d
    induction d with
    | zero => intro y hy h k hk; exact ⟨y, hy, by rw [show k = 0 by omega]; exact h⟩
    | succ d ih =>
      intro y hy h k hk
      rcases Nat.eq_or_lt_of_le hk with q | q
      · exact ⟨y, hy, by rw [q]; exact h⟩
      · obtain ⟨x, hx, h3, -⟩ := h.pred
        exact ih x hx h3 k (by omega)
  have ch := all d y hy h
  have := Classical.axiomOfChoice (r := fun (k : Nat) (x : Nat) => k ≤ d → x < n ∧ IsDist N n s k x) (fun k => by
    by_cases hk : k ≤ d
    · obtain ⟨x, hx⟩ := ch k hk; exact ⟨x, fun _ => hx⟩
    · exact ⟨0, fun q => absurd q hk⟩)
  obtain ⟨f, hf⟩ := this
  have := pigeon n (d + 1) f (fun k hk => (hf k (by omega)).1) (fun i j hi hj q => by
    have h1 := (hf i (by omega)).2
    have h2 := (hf j (by omega)).2
    rw [q] at h1
    exact h1.unique h2)
  omega

/-- In the level d, the seats before a, and of a those before b, are looked at. -/
structure Lev (N : Int → Int → Prop) (n s d a b : Nat) (l : List Int) : Prop where
  len : l.length = n
  at_ : ∀ y, y < n → (∃ e : Nat, e ≤ d ∧ IsDist N n s e y ∧ l.getD y default = (e : Int)) ∨
    ((¬ ∃ e, e ≤ d ∧ IsDist N n s e y) ∧ (((∃ x, x < n ∧ (x < a ∨ (x = a ∧ y < b)) ∧ IsDist N n s d x ∧ N x y) ∧ l.getD y default = (d : Int) + 1) ∨ ((¬ ∃ x, x < n ∧ (x < a ∨ (x = a ∧ y < b)) ∧ IsDist N n s d x ∧ N x y) ∧ l.getD y default = -1)))
theorem getD_set_int (l : List Int) (i j : Nat) (v : Int) (h : i < l.length) : (l.set i v).getD j default = if j = i then v else l.getD j default := by
  simp only [List.getD_eq_getElem?_getD, List.getElem?_set]
  by_cases hj : j = i
  · subst hj; simp [h]
  · rw [if_neg hj, if_neg (Ne.symm hj)]
theorem Lev.start {l : List Int} (hl : l.length = n) (hs : s < n) (h0 : l.getD s default = 0) (h1 : ∀ y, y < n → y ≠ s → l.getD y default = -1) : Lev N n s 0 0 0 l := by
  refine ⟨hl, fun y hy => ?_⟩
  by_cases q : y = s
  · subst q
    exact .inl ⟨0, Nat.le_refl _, ⟨rfl, fun e he => absurd he (Nat.not_lt_zero _)⟩, h0⟩
  · refine .inr ⟨?_, .inr ⟨?_, h1 y hy q⟩⟩
    · rintro ⟨e, he, h2, -⟩
      obtain rfl : e = 0 := by omega
      exact q h2
    · rintro ⟨x, -, h3, -⟩; omega
theorem Lev.row {d a : Nat} {l : List Int} (L : Lev N n s d a n l) : Lev N n s d (a + 1) 0 l := by
  have he : ∀ y, y < n → ∀ x, (x < a ∨ (x = a ∧ y < n)) ↔ (x < a + 1 ∨ (x = a + 1 ∧ y < 0)) := fun y hy x => by omega
  refine ⟨L.len, fun y hy => ?_⟩
  have := L.at_ y hy
  simp only [he y hy] at this
  exact this
theorem Lev.level {d : Nat} {l : List Int} (L : Lev N n s d n 0 l) : Lev N n s (d + 1) 0 0 l := by
  refine ⟨L.len, fun y hy => ?_⟩
  rcases L.at_ y hy with ⟨e, h1, h2, h3⟩ | ⟨h1, ⟨⟨x, hx, -, h3, h4⟩, h5⟩ | ⟨h2, h3⟩⟩
  · exact .inl ⟨e, by omega, h2, h3⟩
  · refine .inl ⟨d + 1, Nat.le_refl _, ⟨⟨x, hx, h3.1, h4⟩, fun e he q => ?_⟩, by rw [h5]; simp⟩
    obtain ⟨e', q1, q2⟩ := q.least
    exact h1 ⟨e', by omega, q2⟩
  · refine .inr ⟨?_, .inr ⟨?_, h3⟩⟩
    · rintro ⟨e, he, q⟩
      rcases Nat.lt_or_ge d e with q1 | q1
      · obtain rfl : e = d + 1 := by omega
        obtain ⟨x, hx, q2, q3⟩ := q.pred
        exact h2 ⟨x, hx, .inl hx, q2, q3⟩
      · exact h1 ⟨e, q1, q⟩
    · rintro ⟨x, -, h3, -⟩; omega
theorem Lev.is {d a b x : Nat} {l : List Int} (L : Lev N n s d a b l) (hx : x < n) : l.getD x default = (d : Int) ↔ IsDist N n s d x := by
  rcases L.at_ x hx with ⟨e, h1, h2, h3⟩ | ⟨h1, ⟨-, h5⟩ | ⟨-, h3⟩⟩
  · exact ⟨fun q => by rw [h3] at q; have : e = d := by omega
                       rw [← this]; exact h2, fun q => by rw [h3, h2.unique q]⟩
  · exact ⟨fun q => by omega, fun q => absurd ⟨d, Nat.le_refl _, q⟩ h1⟩
  · exact ⟨fun q => by omega, fun q => absurd ⟨d, Nat.le_refl _, q⟩ h1⟩
/-- Nothing is written: the seat is told already, or there is no way over a. -/
theorem Lev.keep {d a b : Nat} {l : List Int} (L : Lev N n s d a b l) (ha : a < n) (hb : b < n) (h : ¬ (l.getD a default = (d : Int) ∧ l.getD b default < 0 ∧ N a b)) : Lev N n s d a (b + 1) l := by
  refine ⟨L.len, fun y hy => ?_⟩
  rcases L.at_ y hy with q | ⟨h1, ⟨⟨x, hx, h2, h3, h4⟩, h5⟩ | ⟨h2, h3⟩⟩
  · exact .inl q
  · exact .inr ⟨h1, .inl ⟨⟨x, hx, by omega, h3, h4⟩, h5⟩⟩
  · refine .inr ⟨h1, .inr ⟨?_, h3⟩⟩
    rintro ⟨x, hx, q1, q2, q3⟩
    by_cases q : x = a ∧ y = b
    · obtain ⟨rfl, rfl⟩ := q
      exact h ⟨(L.is hx).2 q2, by omega, q3⟩
    · exact h2 ⟨x, hx, by omega, q2, q3⟩
theorem Lev.put {d a b : Nat} {l : List Int} (L : Lev N n s d a b l) (ha : a < n) (hb : b < n) (h1 : l.getD a default = (d : Int)) (h2 : l.getD b default < 0) (h3 : N a b) : Lev N n s d a (b + 1) (l.set b ((d : Int) + 1)) := by
  have hda := (L.is ha).1 h1
  refine ⟨by rw [List.length_set]; exact L.len, fun y hy => ?_⟩
  rw [getD_set_int l b y _ (by rw [L.len]; exact hb)]
  rcases L.at_ y hy with ⟨e, g1, g2, g3⟩ | ⟨g1, g2⟩
  · by_cases q : y = b
    · subst q; omega
    · rw [if_neg q]; exact .inl ⟨e, g1, g2, g3⟩
  · by_cases q : y = b
    · subst q
      rw [if_pos rfl]
      exact .inr ⟨g1, .inl ⟨⟨a, ha, by omega, hda, h3⟩, rfl⟩⟩
    · rw [if_neg q]
      rcases g2 with ⟨⟨x, hx, k2, k3, k4⟩, k5⟩ | ⟨k2, k3⟩
      · exact .inr ⟨g1, .inl ⟨⟨x, hx, by omega, k3, k4⟩, k5⟩⟩
      · exact .inr ⟨g1, .inr ⟨fun ⟨x, hx, r1, r2, r3⟩ => k2 ⟨x, hx, by omega, r2, r3⟩, k3⟩⟩
theorem Lev.done {l : List Int} (L : Lev N n s n 0 0 l) (hs : s < n) : DistL N n s l := by
  refine ⟨L.len, fun y hy => ?_⟩
  rcases L.at_ y hy with ⟨e, g1, g2, g3⟩ | ⟨g1, ⟨⟨x, -, k2, -⟩, -⟩ | ⟨k2, k3⟩⟩
  · exact .inr ⟨e, g3, g2⟩
  · omega
  · refine .inl ⟨k3, fun d q => ?_⟩
    obtain ⟨e, q1, q2⟩ := q.least
    exact g1 ⟨e, Nat.le_of_lt (q2.lt hs hy), q2⟩
end
end Go.Proofs.Xx

/-
  The reference's seats across and near; its distances.
-/
namespace Go.Proofs.Xx
open Go Go.Proofs
set_option linter.unusedSimpArgs false
set_option linter.unusedVariables false
set_option maxRecDepth 100000
set_option maxHeartbeats 4000000

def wrp (a p i : Int) : Int := if p + i < a then p + i else p + i - a
theorem nx_wrp {a p i : Int} (hp : 0 ≤ p ∧ p < a) (hi : 0 ≤ i ∧ i < a) : nx a (wrp a p i) = wrp a p (i + 1) := by
  unfold nx wrp
  repeat' split
  all_goals omega
theorem acrossAt_ok {h0 : AH} (w : WfH h0) (t : Tab) (p q : Int) (hs : TabS t) (hp : 0 ≤ p ∧ p < tsize t) (hq : 0 ≤ q ∧ q < tsize t) : Fn Tryz.prog Xh 173 [tabV t, .int .i64 p, .int .i64 q] h0 (fun v h' => BoolIs v (acrossP t p q) ∧ Hs h0 h' []) := by
  have S := Hs.start w
  have hsz := tsize_le t
  have hB := hs.b
  have hb := hs.b
  obtain ⟨-, -, ha1, ha2, hb1, hb2⟩ := hb
  have hsp := hs.shape
  have ed : t.A.tdiv 2 = t.A / 2 := tdiv2 ha1
  have em : t.A.tmod 2 = t.A % 2 := Int.tmod_eq_emod_of_nonneg ha1
  refine Fn_K rfl Tryz.func173 rfl rfl ?_
  all_goals (repeat' (first | refine K_seq ?_ | refine k_cond rfl ?_ | refine K_skip ?_ | refine K_exit ?_ | refine k_block ?_ | refine K_scope ?_ | (refine K_region (id := 0) ?_; (refine bx S ?_; clear S; intro b h S); refine mv ?_; refine KO_nil ?_) | (refine K_region (id := 1) ?_; refine mv ?_; refine mv ?_; (first | refine cT ?_ | refine cF ?_ | (refine cS ?_ ?_ <;> intro hc)) <;> (refine KO_nil ?_)) | (refine K_region (id := 2) ?_; refine mv ?_; refine KO_nil ?_) | (refine K_region (id := 3) ?_; (first | refine vl ?_ | refine fB S ?_ | refine fS S rfl rfl ?_ | refine fA ?_); (first | refine lB S rfl rfl ?_ | refine lES2 S rfl rfl ?_ | refine lEB S ?_ | refine lH S ?_); refine KO_nil ?_) | (refine K_region (id := 4) ?_; (first | refine cT ?_ | refine cF ?_ | (refine cS ?_ ?_ <;> intro hc)) <;> (refine mv ?_; refine KO_nil ?_)) | (refine K_region (id := 5) ?_; (first | refine vl ?_ | refine fB S ?_ | refine fS S rfl rfl ?_ | refine fA ?_); (first | refine lB S rfl rfl ?_ | refine lES2 S rfl rfl ?_ | refine lEB S ?_ | refine lH S ?_); (first | refine rm ?_ | refine vl ?_); (first | refine cT ?_ | refine cF ?_ | (refine cS ?_ ?_ <;> intro hc)) <;> (refine KO_nil ?_)) | (refine K_region (id := 6) ?_; refine mv ?_; refine KO_nil ?_) | (refine K_region (id := 7) ?_; refine mv ?_; refine KO_nil ?_) | (refine K_region (id := 12) ?_; (first | refine cT ?_ | refine cF ?_ | (refine cS ?_ ?_ <;> intro hc)) <;> (refine mv ?_; refine KO_nil ?_)) | (refine K_region (id := 15) ?_; (first | refine cT ?_ | refine cF ?_ | (refine cS ?_ ?_ <;> intro hc)) <;> (refine mv ?_; refine KO_nil ?_)) | (refine K_region (id := 16) ?_; refine mv ?_; refine KO_nil ?_) | (refine K_region (id := 21) ?_; refine mv ?_; refine KO_nil ?_)))
  · refine K_ret ⟨_, rfl, ?_⟩
    exact ⟨.inr ⟨rfl, fun g => g.1 hc⟩, S.drop⟩
  · have e := acrossP_1 (show p ≠ q by assumption) (by assumption)
    refine K_ret ⟨_, rfl, ?_⟩
    exact ⟨.inr ⟨rfl, fun g => by have := (e.1 g).1; omega⟩, S.drop⟩
  · have k := hs.s1 (by assumption)
    have hne : p ≠ q := by assumption
    have e := acrossP_1 hne (by assumption)
    have w0 : wrp t.A p ((0 : Nat) : Int) = p := by unfold wrp; rw [if_pos (by omega)]; simp
    refine k_loop (σ := Nat) (fun i h' => Hs h0 h' [.blk b (eT t) 25] ∧ (i : Int) ≤ t.A / 2) (fun i => (t.A / 2 - i).toNat) (fun i => [(1, .int .i64 (wrp t.A p i)), (2, .int .i64 q), (3, .pointer (some ⟨b, 0, none⟩)), (7, .int .i64 i)]) 0 (by repeat (first | exact Ks.le_nil _ | refine Ks.le_cons rfl ?_ | refine Ks.le_int ?_)) ?_ ?_
    · refine ⟨S, by omega⟩
    clear S
    rintro i h ⟨S, h1⟩
    have wb : 0 ≤ wrp t.A p i ∧ wrp t.A p i < t.A := by unfold wrp; split <;> omega
    all_goals (repeat' (first | refine K_seq ?_ | refine k_cond rfl ?_ | refine K_skip ?_ | refine K_exit ?_ | refine k_block ?_ | refine K_scope ?_ | (refine K_region (id := 8) ?_; refine mv ?_; (first | refine vl ?_ | refine fB S ?_ | refine fS S rfl rfl ?_ | refine fA ?_); (first | refine lB S rfl rfl ?_ | refine lES2 S rfl rfl ?_ | refine lEB S ?_ | refine lH S ?_); (first | refine qu ?_ | refine vl ?_); (first | refine cT ?_ | refine cF ?_ | (refine cS ?_ ?_ <;> intro hc)) <;> (refine KO_nil ?_)) | (refine K_region (id := 10) ?_; (first | refine lB S rfl rfl ?_ | refine lES2 S rfl rfl ?_ | refine lEB S ?_ | refine lH S ?_); refine mv ?_) | (refine K_region (id := 11) ?_; refine mv ?_; refine mv ?_; (first | refine cT ?_ | refine cF ?_ | (refine cS ?_ ?_ <;> intro hc)) <;> (refine mv ?_; refine KO_nil ?_))))
    · (refine KO_fn rfl rfl rfl rfl rfl ((next_ok S.wf t (wrp t.A p i) (by omega)).mono ?_); rintro _ h ⟨rfl, x⟩) <;> (replace S := S.join0 x; clear x; refine mv ?_; refine KO_nil ?_)
      rw [nx_wrp (by omega) (by omega)]
      all_goals (repeat' (first | refine K_seq ?_ | refine k_cond rfl ?_ | refine K_skip ?_ | refine K_exit ?_ | refine k_block ?_ | refine K_scope ?_ | (refine K_region (id := 9) ?_; refine mv ?_; (first | refine ad ?_ | refine vl ?_); refine mv ?_; refine KO_nil ?_)))
      refine ⟨i + 1, ?_, ?_, (by repeat (first | exact Ks.le_nil _ | refine Ks.le_cons rfl ?_ | refine Ks.le_int ?_))⟩
      · show (t.A / 2 - ((i + 1 : Nat) : Int)).toNat < (t.A / 2 - i).toNat; omega
      · exact ⟨S, by omega⟩
    · refine K_ret ⟨_, rfl, ?_⟩
      refine ⟨.inl ⟨rfl, e.2 ?_⟩, S.drop⟩
      have hi : (i : Int) = t.A / 2 := by omega
      have hw : wrp t.A p i = q := by assumption
      unfold roundA
      unfold wrp at hw
      rw [hi] at hw
      split at hw <;> omega
    · refine K_ret ⟨_, rfl, ?_⟩
      refine ⟨.inr ⟨rfl, fun g => ?_⟩, S.drop⟩
      have g := e.1 g
      have hi : (i : Int) = t.A / 2 := by omega
      have hw : ¬ wrp t.A p i = q := by assumption
      unfold roundA at g
      unfold wrp at hw
      rw [hi] at hw
      split at hw <;> omega
  · have hsh := hc
    have hne : p ≠ q := by assumption
    have k := hs.s2 hsh
    have e := acrossP_2 hne hsh
    have lb := long_across (a := t.A) (b := t.B) (p := p) (q := q) (by omega) (by omega) (by omega) hne
    have hP := fun g => e.2 (lb.1 g)
    have hN := fun (g : ¬ _) (g2 : acrossP t p q) => g (lb.2 (e.1 g2))
    clear lb e
    refine K_drawF2 (id := 13) (j1 := 6) (j2 := 7) (rd := [(3, (0, 1)), (6, (0, 2)), (7, (0, 2))]) (fun b1 b2 => [some (b), some b1, some b2]) S (HintOk.direct) (HintOk.direct) ?_; clear S; intro b1 b2 h S; refine KX_cons ?_; (first | (refine lB S rfl rfl ?_ <;> refine KO_nil ⟨⟨by (first | exact True.intro | exact Or.inl rfl | exact Or.inr rfl | exact Or.inr (congrArg some (blkOf_elA _ _ _ _)) | exact ⟨Or.inl rfl, rfl⟩ | exact ⟨Or.inr rfl, rfl⟩), rfl⟩, ?_⟩) | (refine lES2 S rfl rfl ?_ <;> refine KO_nil ⟨⟨by (first | exact True.intro | exact Or.inl rfl | exact Or.inr rfl | exact Or.inr (congrArg some (blkOf_elA _ _ _ _)) | exact ⟨Or.inl rfl, rfl⟩ | exact ⟨Or.inr rfl, rfl⟩), rfl⟩, ?_⟩) | (refine lEB S ?_ <;> refine KO_nil ⟨⟨by (first | exact True.intro | exact Or.inl rfl | exact Or.inr rfl | exact Or.inr (congrArg some (blkOf_elA _ _ _ _)) | exact ⟨Or.inl rfl, rfl⟩ | exact ⟨Or.inr rfl, rfl⟩), rfl⟩, ?_⟩) | (refine lH S ?_ <;> refine KO_nil ⟨⟨by (first | exact True.intro | exact Or.inl rfl | exact Or.inr rfl | exact Or.inr (congrArg some (blkOf_elA _ _ _ _)) | exact ⟨Or.inl rfl, rfl⟩ | exact ⟨Or.inr rfl, rfl⟩), rfl⟩, ?_⟩)); refine KX_cons ?_; (first | (refine mv ?_ <;> refine KO_nil ⟨⟨by (first | exact True.intro | exact Or.inl rfl | exact Or.inr rfl | exact Or.inr (congrArg some (blkOf_elA _ _ _ _)) | exact ⟨Or.inl rfl, rfl⟩ | exact ⟨Or.inr rfl, rfl⟩), rfl⟩, ?_⟩))
    ((refine KX_cons ?_; first | refine KO_fn rfl rfl rfl rfl rfl ((spotOf_ok S.wf t p hB (by omega)).mono ?_)); rintro _ h ⟨rfl, x⟩) <;> ((refine KO_nil ⟨⟨True.intro, ?_⟩, ?_⟩; (focus ((show keepsX _ _ _ _ _; simp only [keepsX]; (repeat' (first | exact True.intro | refine And.intro ?_ ?_)); all_goals (intro hw; first | exact True.intro | exact rfl | exact x.ext.old _ S.bB | exact x.ext.old _ (S.bR (by first | omega | grind)) | exact x.ext.old _ (S.bX (by assumption) (by assumption) (by first | omega | grind)) | exact x.ext.old _ (S.bY (by assumption) (by assumption)) | (refine x.ext.old _ ?_; assumption) | exact absurd hw (by decide +kernel)))))); replace S := S.join0 x; clear x; refine KX_cons ?_; (first | (refine lB S rfl rfl ?_ <;> refine KO_nil ⟨⟨by (first | exact True.intro | exact Or.inl rfl | exact Or.inr rfl | exact Or.inr (congrArg some (blkOf_elA _ _ _ _)) | exact ⟨Or.inl rfl, rfl⟩ | exact ⟨Or.inr rfl, rfl⟩), rfl⟩, ?_⟩) | (refine lES2 S rfl rfl ?_ <;> refine KO_nil ⟨⟨by (first | exact True.intro | exact Or.inl rfl | exact Or.inr rfl | exact Or.inr (congrArg some (blkOf_elA _ _ _ _)) | exact ⟨Or.inl rfl, rfl⟩ | exact ⟨Or.inr rfl, rfl⟩), rfl⟩, ?_⟩) | (refine lEB S ?_ <;> refine KO_nil ⟨⟨by (first | exact True.intro | exact Or.inl rfl | exact Or.inr rfl | exact Or.inr (congrArg some (blkOf_elA _ _ _ _)) | exact ⟨Or.inl rfl, rfl⟩ | exact ⟨Or.inr rfl, rfl⟩), rfl⟩, ?_⟩) | (refine lH S ?_ <;> refine KO_nil ⟨⟨by (first | exact True.intro | exact Or.inl rfl | exact Or.inr rfl | exact Or.inr (congrArg some (blkOf_elA _ _ _ _)) | exact ⟨Or.inl rfl, rfl⟩ | exact ⟨Or.inr rfl, rfl⟩), rfl⟩, ?_⟩)); refine KX_cons ?_; (first | (refine mv ?_ <;> refine KO_nil ⟨⟨by (first | exact True.intro | exact Or.inl rfl | exact Or.inr rfl | exact Or.inr (congrArg some (blkOf_elA _ _ _ _)) | exact ⟨Or.inl rfl, rfl⟩ | exact ⟨Or.inr rfl, rfl⟩), rfl⟩, ?_⟩)))
    ((refine KX_cons ?_; first | refine KO_fn rfl rfl rfl rfl rfl ((spotOf_ok S.wf t q hB (by omega)).mono ?_)); rintro _ h ⟨rfl, x⟩) <;> ((refine KO_nil ⟨⟨True.intro, ?_⟩, ?_⟩; (focus ((show keepsX _ _ _ _ _; simp only [keepsX]; (repeat' (first | exact True.intro | refine And.intro ?_ ?_)); all_goals (intro hw; first | exact True.intro | exact rfl | exact x.ext.old _ S.bB | exact x.ext.old _ (S.bR (by first | omega | grind)) | exact x.ext.old _ (S.bX (by assumption) (by assumption) (by first | omega | grind)) | exact x.ext.old _ (S.bY (by assumption) (by assumption)) | (refine x.ext.old _ ?_; assumption) | exact absurd hw (by decide +kernel)))))); replace S := S.join0 x; clear x; refine fl S rfl rfl S.gB ?_; refine fl S rfl rfl S.gB ?_; refine KX_cons ?_; (first | ((refine sB S rfl rfl ?_; have S0 := S; clear S; intro h S); refine KO_nil ⟨⟨True.intro, ?_⟩, ?_⟩; (focus ((show keepsX _ _ _ _ _; simp only [keepsX]; (repeat' (first | exact True.intro | refine And.intro ?_ ?_)); all_goals (intro hw; first | exact True.intro | exact (S.gB).trans (S0.gB).symm | exact absurd hw (by decide +kernel))))); clear S0) | ((refine sE2 S rfl rfl ?_; have S0 := S; clear S; intro h S); refine KO_nil ⟨⟨True.intro, ?_⟩, ?_⟩; (focus ((show keepsX _ _ _ _ _; simp only [keepsX]; (repeat' (first | exact True.intro | refine And.intro ?_ ?_)); all_goals (intro hw; first | exact True.intro | exact (S.gB).trans (S0.gB).symm | exact absurd hw (by decide +kernel))))); clear S0)); refine KX_cons ?_; (first | ((refine sB S rfl rfl ?_; have S0 := S; clear S; intro h S); refine KO_nil ⟨⟨True.intro, ?_⟩, ?_⟩; (focus ((show keepsX _ _ _ _ _; simp only [keepsX]; (repeat' (first | exact True.intro | refine And.intro ?_ ?_)); all_goals (intro hw; first | exact True.intro | exact (S.gB).trans (S0.gB).symm | exact absurd hw (by decide +kernel))))); clear S0) | ((refine sE2 S rfl rfl ?_; have S0 := S; clear S; intro h S); refine KO_nil ⟨⟨True.intro, ?_⟩, ?_⟩; (focus ((show keepsX _ _ _ _ _; simp only [keepsX]; (repeat' (first | exact True.intro | refine And.intro ?_ ?_)); all_goals (intro hw; first | exact True.intro | exact (S.gB).trans (S0.gB).symm | exact absurd hw (by decide +kernel))))); clear S0)); refine KX_nil ?_)
    generalize hx1 : spX t.A t.B p = x1 at *
    generalize hx2 : spX t.A t.B q = x2 at *
    generalize hy1 : spY t.A t.B p = y1 at *
    generalize hy2 : spY t.A t.B q = y2 at *
    all_goals (repeat' (first | refine K_seq ?_ | refine k_cond rfl ?_ | refine K_skip ?_ | refine K_exit ?_ | refine k_block ?_ | refine K_scope ?_ | (refine K_region (id := 14) ?_; (first | refine vl ?_ | refine fB S ?_ | refine fS S rfl rfl ?_ | refine fA ?_); (first | refine lB S rfl rfl ?_ | refine lES2 S rfl rfl ?_ | refine lEB S ?_ | refine lH S ?_); (first | refine vl ?_ | refine fB S ?_ | refine fS S rfl rfl ?_ | refine fA ?_); (first | refine lB S rfl rfl ?_ | refine lES2 S rfl rfl ?_ | refine lEB S ?_ | refine lH S ?_); (first | refine cT ?_ | refine cF ?_ | (refine cS ?_ ?_ <;> intro hc)) <;> (refine mv ?_; (first | refine off ?_ | (first | refine vl ?_ | refine fB S ?_ | refine fS S rfl rfl ?_ | refine fA ?_)); (first | refine off ?_ | (first | refine lB S rfl rfl ?_ | refine lES2 S rfl rfl ?_ | refine lEB S ?_ | refine lH S ?_)); (first | refine off ?_ | (first | refine cT ?_ | refine cF ?_ | (refine cS ?_ ?_ <;> intro hc))) <;> (refine vl ?_; refine mv ?_; (first | refine off ?_ | (first | refine vl ?_ | refine fB S ?_ | refine fS S rfl rfl ?_ | refine fA ?_)); (first | refine off ?_ | (first | refine lB S rfl rfl ?_ | refine lES2 S rfl rfl ?_ | refine lEB S ?_ | refine lH S ?_)); (first | refine off ?_ | (first | refine cT ?_ | refine cF ?_ | (refine cS ?_ ?_ <;> intro hc))) <;> (refine vl ?_; refine mv ?_; (first | refine off ?_ | (first | refine vl ?_ | refine fB S ?_ | refine fS S rfl rfl ?_ | refine fA ?_)); (first | refine off ?_ | (first | refine lB S rfl rfl ?_ | refine lES2 S rfl rfl ?_ | refine lEB S ?_ | refine lH S ?_)); (first | refine off ?_ | (first | refine cT ?_ | refine cF ?_ | (refine cS ?_ ?_ <;> intro hc))) <;> ((first | refine off ?_ | refine mv ?_); (first | refine off ?_ | (first | refine vl ?_ | refine fB S ?_ | refine fS S rfl rfl ?_ | refine fA ?_)); (first | refine off ?_ | (first | refine lB S rfl rfl ?_ | refine lES2 S rfl rfl ?_ | refine lEB S ?_ | refine lH S ?_)); (first | refine off ?_ | (first | refine cT ?_ | refine cF ?_ | (refine cS ?_ ?_ <;> intro hc))) <;> ((first | refine off ?_ | refine vl ?_); refine vl ?_; refine mv ?_; refine KO_nil ?_))))))))
    all_goals (refine K_ret ⟨_, rfl, ?_⟩)
    all_goals (refine ⟨?_, S.drop⟩)
    all_goals (first | exact .inl ⟨rfl, hP (by omega)⟩ | exact .inr ⟨rfl, hN (by omega)⟩)
  · have hsh := hc
    have hne : p ≠ q := by assumption
    have k := hs.s3 hsh
    have e := acrossP_3 hne hsh
    refine k_loop (σ := Nat) (fun i h' => Hs h0 h' [.blk b (eT t) 25] ∧ (i : Int) ≤ t.B ∧ ∀ j : Nat, j < i → ¬ ((p = j ∧ q = tsize t - 1 - j) ∨ (q = j ∧ p = tsize t - 1 - j))) (fun i => (t.B - i).toNat) (fun i => [(1, .int .i64 p), (2, .int .i64 q), (3, .pointer (some ⟨b, 0, none⟩)), (10, .int .i64 i)]) 0 (by repeat (first | exact Ks.le_nil _ | refine Ks.le_cons rfl ?_ | refine Ks.le_int ?_)) ?_ ?_
    · exact ⟨S, by omega, fun j hj => absurd hj (Nat.not_lt_zero _)⟩
    clear S
    rintro i h ⟨S, h1, h2⟩
    have step : ¬ ((p = i ∧ q = tsize t - 1 - i) ∨ (q = i ∧ p = tsize t - 1 - i)) → ∀ j : Nat, j < i + 1 → ¬ ((p = j ∧ q = tsize t - 1 - j) ∨ (q = j ∧ p = tsize t - 1 - j)) := fun g j hj => by
      rcases Nat.lt_or_ge j i with r | r
      · exact h2 j r
      · obtain rfl : j = i := by omega
        exact g
    all_goals (repeat' (first | refine K_seq ?_ | refine k_cond rfl ?_ | refine K_skip ?_ | refine K_exit ?_ | refine k_block ?_ | refine K_scope ?_ | (refine K_region (id := 17) ?_; refine mv ?_; (first | refine vl ?_ | refine fB S ?_ | refine fS S rfl rfl ?_ | refine fA ?_); (first | refine lB S rfl rfl ?_ | refine lES2 S rfl rfl ?_ | refine lEB S ?_ | refine lH S ?_); (first | refine cT ?_ | refine cF ?_ | (refine cS ?_ ?_ <;> intro hc)) <;> (refine KO_nil ?_)) | (refine K_region (id := 18) ?_; refine mv ?_; (first | refine ad ?_ | refine vl ?_); refine mv ?_; refine KO_nil ?_) | (refine K_region (id := 19) ?_; refine mv ?_; refine mv ?_; (first | refine cT ?_ | refine cF ?_ | (refine cS ?_ ?_ <;> intro hc)) <;> (refine mv ?_; (first | refine off ?_ | refine mv ?_); (first | refine off ?_ | (first | refine lB S rfl rfl ?_ | refine lES2 S rfl rfl ?_ | refine lEB S ?_ | refine lH S ?_)); (first | (refine off ?_; (first | refine off ?_ | (first | refine sb ?_ | refine vl ?_)); (first | refine off ?_ | refine mv ?_); (first | refine off ?_ | (first | refine sb ?_ | refine vl ?_)); (first | refine off ?_ | (first | refine cT ?_ | refine cF ?_ | (refine cS ?_ ?_ <;> intro hc))) <;> (refine vl ?_; refine mv ?_; (first | refine off ?_ | refine mv ?_); (first | refine off ?_ | refine mv ?_); (first | refine off ?_ | (first | refine cT ?_ | refine cF ?_ | (refine cS ?_ ?_ <;> intro hc))) <;> ((first | refine off ?_ | refine mv ?_); (first | refine off ?_ | refine mv ?_); (first | refine off ?_ | (first | refine lB S rfl rfl ?_ | refine lES2 S rfl rfl ?_ | refine lEB S ?_ | refine lH S ?_)); (first | (refine off ?_; (first | refine off ?_ | (first | refine sb ?_ | refine vl ?_)); (first | refine off ?_ | refine mv ?_); (first | refine off ?_ | (first | refine sb ?_ | refine vl ?_)); (first | refine off ?_ | (first | refine cT ?_ | refine cF ?_ | (refine cS ?_ ?_ <;> intro hc))) <;> ((first | refine off ?_ | refine vl ?_); refine vl ?_; refine KO_nil ?_)) | skip)))) | skip))) | (refine K_region (id := 20) ?_; refine mv ?_; refine KO_nil ?_) | (refine K_region (id := 21) ?_; refine mv ?_; refine KO_nil ?_)))
    · (refine KO_fn rfl rfl rfl rfl rfl ((refSize_ok S.wf t).mono ?_); rintro _ h ⟨rfl, x⟩) <;> (replace S := S.join0 x; clear x; (first | refine off ?_ | (first | refine sb ?_ | refine vl ?_)); (first | refine off ?_ | refine mv ?_); (first | refine off ?_ | (first | refine sb ?_ | refine vl ?_)); (first | refine off ?_ | (first | refine cT ?_ | refine cF ?_ | (refine cS ?_ ?_ <;> intro hc))) <;> (refine vl ?_; refine mv ?_; (first | refine off ?_ | refine mv ?_); (first | refine off ?_ | refine mv ?_); (first | refine off ?_ | (first | refine cT ?_ | refine cF ?_ | (refine cS ?_ ?_ <;> intro hc))) <;> ((first | refine off ?_ | refine mv ?_); (first | refine off ?_ | refine mv ?_); (first | refine off ?_ | (first | refine lB S rfl rfl ?_ | refine lES2 S rfl rfl ?_ | refine lEB S ?_ | refine lH S ?_)); (first | (refine off ?_; (first | refine off ?_ | (first | refine sb ?_ | refine vl ?_)); (first | refine off ?_ | refine mv ?_); (first | refine off ?_ | (first | refine sb ?_ | refine vl ?_)); (first | refine off ?_ | (first | refine cT ?_ | refine cF ?_ | (refine cS ?_ ?_ <;> intro hc))) <;> ((first | refine off ?_ | refine vl ?_); refine vl ?_; refine KO_nil ?_)) | skip))))
      · all_goals (repeat' (first | refine K_seq ?_ | refine k_cond rfl ?_ | refine K_skip ?_ | refine K_exit ?_ | refine k_block ?_ | refine K_scope ?_ | (refine K_region (id := 18) ?_; refine mv ?_; (first | refine ad ?_ | refine vl ?_); refine mv ?_; refine KO_nil ?_) | (refine K_region (id := 20) ?_; refine mv ?_; refine KO_nil ?_)))
        refine K_ret ⟨_, rfl, ?_⟩
        exact ⟨.inl ⟨rfl, e.2 (by omega)⟩, S.drop⟩
      · all_goals (repeat' (first | refine K_seq ?_ | refine k_cond rfl ?_ | refine K_skip ?_ | refine K_exit ?_ | refine k_block ?_ | refine K_scope ?_ | (refine K_region (id := 18) ?_; refine mv ?_; (first | refine ad ?_ | refine vl ?_); refine mv ?_; refine KO_nil ?_) | (refine K_region (id := 20) ?_; refine mv ?_; refine KO_nil ?_)))
        refine ⟨i + 1, ?_, ?_, (by repeat (first | exact Ks.le_nil _ | refine Ks.le_cons rfl ?_ | refine Ks.le_int ?_))⟩
        · show (t.B - ((i + 1 : Nat) : Int)).toNat < (t.B - i).toNat; omega
        · exact ⟨S, by omega, step (by omega)⟩
    · (refine KO_fn rfl rfl rfl rfl rfl ((refSize_ok S.wf t).mono ?_); rintro _ h ⟨rfl, x⟩) <;> (replace S := S.join0 x; clear x; (first | refine off ?_ | (first | refine sb ?_ | refine vl ?_)); (first | refine off ?_ | refine mv ?_); (first | refine off ?_ | (first | refine sb ?_ | refine vl ?_)); (first | refine off ?_ | (first | refine cT ?_ | refine cF ?_ | (refine cS ?_ ?_ <;> intro hc))) <;> ((first | refine off ?_ | refine vl ?_); refine vl ?_; refine KO_nil ?_))
      · all_goals (repeat' (first | refine K_seq ?_ | refine k_cond rfl ?_ | refine K_skip ?_ | refine K_exit ?_ | refine k_block ?_ | refine K_scope ?_ | (refine K_region (id := 18) ?_; refine mv ?_; (first | refine ad ?_ | refine vl ?_); refine mv ?_; refine KO_nil ?_) | (refine K_region (id := 20) ?_; refine mv ?_; refine KO_nil ?_)))
        refine K_ret ⟨_, rfl, ?_⟩
        exact ⟨.inl ⟨rfl, e.2 (by omega)⟩, S.drop⟩
      · all_goals (repeat' (first | refine K_seq ?_ | refine k_cond rfl ?_ | refine K_skip ?_ | refine K_exit ?_ | refine k_block ?_ | refine K_scope ?_ | (refine K_region (id := 18) ?_; refine mv ?_; (first | refine ad ?_ | refine vl ?_); refine mv ?_; refine KO_nil ?_) | (refine K_region (id := 20) ?_; refine mv ?_; refine KO_nil ?_)))
        refine ⟨i + 1, ?_, ?_, (by repeat (first | exact Ks.le_nil _ | refine Ks.le_cons rfl ?_ | refine Ks.le_int ?_))⟩
        · show (t.B - ((i + 1 : Nat) : Int)).toNat < (t.B - i).toNat; omega
        · exact ⟨S, by omega, step (by omega)⟩
    · refine ⟨i + 1, ?_, ?_, (by repeat (first | exact Ks.le_nil _ | refine Ks.le_cons rfl ?_ | refine Ks.le_int ?_))⟩
      · show (t.B - ((i + 1 : Nat) : Int)).toNat < (t.B - i).toNat; omega
      · exact ⟨S, by omega, step (by omega)⟩
    · refine K_ret ⟨_, rfl, ?_⟩
      refine ⟨.inr ⟨rfl, fun g => ?_⟩, S.drop⟩
      have g := e.1 g
      rcases Int.lt_trichotomy p q with r | r | r
      · have := h2 p.toNat (by omega)
        omega
      · exact hne r
      · have := h2 q.toNat (by omega)
        omega
  · have h4 : t.shape = 4 := by omega
    refine K_ret ⟨_, rfl, ?_⟩
    exact ⟨.inr ⟨rfl, acrossP_4 h4⟩, S.drop⟩
end Go.Proofs.Xx

/-
  The reference's distances, honour seats and levels.
-/
namespace Go.Proofs.Xx
open Go Go.Proofs
set_option linter.unusedSimpArgs false
set_option linter.unusedVariables false
set_option maxRecDepth 100000
set_option maxHeartbeats 4000000

def openP (t : Tab) (k : Int) : Prop := ∃ i, i < t.opn.length ∧ t.opn.getD i default = k
theorem isOpen_ok {h0 : AH} (w : WfH h0) (t : Tab) (r : TabR h0 t) (k : Int) : Fn Tryz.prog Xh 130 [tabV t, .int .i64 k] h0 (fun v h' => BoolIs v (openP t k) ∧ Hs h0 h' []) := by
  have S := Hs.start w
  obtain ⟨hov, hnm, hol⟩ := r
  refine Fn_K rfl Tryz.func130 rfl rfl ?_
  all_goals (repeat' (first | refine K_seq ?_ | refine k_cond rfl ?_ | refine K_skip ?_ | refine K_exit ?_ | refine k_block ?_ | refine K_scope ?_ | (refine K_region (id := 0) ?_; (refine bx S ?_; clear S; intro b h S); refine mv ?_; refine KO_nil ?_) | (refine K_region (id := 1) ?_; refine mv ?_; refine KO_nil ?_)))
  refine k_loop (σ := Nat) (fun i h' => Hs h0 h' [.blk b (eT t) 25] ∧ i ≤ t.opn.length ∧ ∀ j, j < i → t.opn.getD j default ≠ k) (fun i => t.opn.length - i) (fun i => [(1, .int .i64 k), (2, .pointer (some ⟨b, 0, none⟩)), (5, .int .i64 i)]) 0 (by repeat (first | exact Ks.le_nil _ | refine Ks.le_cons rfl ?_ | refine Ks.le_int ?_)) ?_ ?_
  · exact ⟨S, Nat.zero_le _, fun j hj => absurd hj (Nat.not_lt_zero _)⟩
  clear S
  rintro i h ⟨S, h1, h2⟩
  all_goals (repeat' (first | refine K_seq ?_ | refine k_cond rfl ?_ | refine K_skip ?_ | refine K_exit ?_ | refine k_block ?_ | refine K_scope ?_ | (refine K_region (id := 2) ?_; refine mv ?_; (first | refine vl ?_ | refine fB S ?_ | refine fS S rfl rfl ?_ | refine fA ?_); (first | refine lB S rfl rfl ?_ | refine lES2 S rfl rfl ?_ | refine lEB S ?_ | refine lH S ?_); (first | refine lnB S ?_ | refine lnS S rfl rfl ?_); (first | refine cT ?_ | refine cF ?_ | (refine cS ?_ ?_ <;> intro hc)) <;> (refine KO_nil ?_)) | (refine K_region (id := 3) ?_; refine mv ?_; (first | refine ad ?_ | refine vl ?_); refine mv ?_; refine KO_nil ?_) | (refine K_region (id := 4) ?_; (first | refine vl ?_ | refine fB S ?_ | refine fS S rfl rfl ?_ | refine fA ?_); (first | refine lB S rfl rfl ?_ | refine lES2 S rfl rfl ?_ | refine lEB S ?_ | refine lH S ?_); refine mv ?_; (first | refine ixB S ?_ | refine ixS2 S rfl rfl ?_); (first | refine lB S rfl rfl ?_ | refine lES2 S rfl rfl ?_ | refine lEB S ?_ | refine lH S ?_); refine mv ?_; (first | refine cT ?_ | refine cF ?_ | (refine cS ?_ ?_ <;> intro hc)) <;> (refine KO_nil ?_)) | (refine K_region (id := 5) ?_; refine mv ?_; refine KO_nil ?_) | (refine K_region (id := 6) ?_; refine mv ?_; refine KO_nil ?_)))
  all_goals (try simp only [Int.toNat_natCast] at *)
  · refine K_ret ⟨_, rfl, ?_⟩
    exact ⟨.inl ⟨rfl, i, by omega, by assumption⟩, S.drop⟩
  · refine ⟨i + 1, ?_, ?_, (by repeat (first | exact Ks.le_nil _ | refine Ks.le_cons rfl ?_ | refine Ks.le_int ?_))⟩
    · show t.opn.length - (i + 1) < t.opn.length - i; omega
    · refine ⟨S, by omega, fun j hj => ?_⟩
      rcases Nat.lt_or_ge j i with q | q
      · exact h2 j q
      · obtain rfl : j = i := by omega
        assumption
  · refine K_ret ⟨_, rfl, ?_⟩
    exact ⟨.inr ⟨rfl, fun ⟨j, hj, q⟩ => h2 j (by omega) q⟩, S.drop⟩

def SeatAt (t : Tab) (X Y r : Int) : Prop := (r = -1 ∧ ∀ k : Nat, (k : Int) < tsize t → ¬ (spX t.A t.B k = X ∧ spY t.A t.B k = Y)) ∨ ∃ k : Nat, r = k ∧ (k : Int) < tsize t ∧ (spX t.A t.B k = X ∧ spY t.A t.B k = Y) ∧ ∀ j : Nat, j < k → ¬ (spX t.A t.B j = X ∧ spY t.A t.B j = Y)
theorem seatAt_ok {h0 : AH} (w : WfH h0) (t : Tab) (X Y : Int) (hs : TabS t) : Fn Tryz.prog Xh 171 [tabV t, .agg #[.int .i64 X, .int .i64 Y]] h0 (fun v h' => ∃ r, v = .int .i64 r ∧ SeatAt t X Y r ∧ Hs h0 h' []) := by
  have S := Hs.start w
  have hB := hs.b
  have hsz := tsize_le t
  refine Fn_K rfl Tryz.func171 rfl rfl ?_
  all_goals (repeat' (first | refine K_seq ?_ | refine k_cond rfl ?_ | refine K_skip ?_ | refine K_exit ?_ | refine k_block ?_ | refine K_scope ?_ | (refine K_region (id := 0) ?_; (refine bx S ?_; clear S; intro b h S); (refine bx S ?_; clear S; intro b h S); refine mv ?_; refine KO_nil ?_) | (refine K_region (id := 1) ?_; refine mv ?_; refine KO_nil ?_)))
  obtain ⟨b2, hnm⟩ : ∃ x, x = b := ⟨_, rfl⟩; subst hnm
  refine k_loop (σ := Nat) (fun i h' => Hs h0 h' [.blk b2 [.int .i64 X, .int .i64 Y] 161, .blk b (eT t) 25] ∧ (i : Int) ≤ tsize t ∧ ∀ j : Nat, j < i → ¬ (spX t.A t.B j = X ∧ spY t.A t.B j = Y)) (fun i => (tsize t - i).toNat) (fun i => [(2, .pointer (some ⟨b, 0, none⟩)), (3, .pointer (some ⟨b2, 0, none⟩)), (5, .int .i64 i)]) 0 (by repeat (first | exact Ks.le_nil _ | refine Ks.le_cons rfl ?_ | refine Ks.le_int ?_)) ?_ ?_
  · exact ⟨S, by omega, fun j hj => absurd hj (Nat.not_lt_zero _)⟩
  clear S
  rintro i h ⟨S, h1, h2⟩
  all_goals (repeat' (first | refine K_seq ?_ | refine k_cond rfl ?_ | refine K_skip ?_ | refine K_exit ?_ | refine k_block ?_ | refine K_scope ?_ | (refine K_region (id := 2) ?_; refine mv ?_; (first | refine lB S rfl rfl ?_ | refine lES2 S rfl rfl ?_ | refine lEB S ?_ | refine lH S ?_))))
  (refine KO_fn rfl rfl rfl rfl rfl ((refSize_ok S.wf t).mono ?_); rintro _ h ⟨rfl, x⟩) <;> (replace S := S.join0 x; clear x; (first | refine cT ?_ | refine cF ?_ | (refine cS ?_ ?_ <;> intro hc)) <;> (refine KO_nil ?_))
  all_goals (repeat' (first | refine K_seq ?_ | refine k_cond rfl ?_ | refine K_skip ?_ | refine K_exit ?_ | refine k_block ?_ | refine K_scope ?_ | (refine K_region (id := 6) ?_; refine mv ?_; refine KO_nil ?_)))
  · refine K_drawX (id := 4) [(3, (0, 1))] [some (b2)] ?_; refine KX_cons ?_; (first | (refine lB S rfl rfl ?_ <;> refine KO_nil ⟨⟨by (first | exact True.intro | exact Or.inl rfl | exact Or.inr rfl | exact Or.inr (congrArg some (blkOf_elA _ _ _ _)) | exact ⟨Or.inl rfl, rfl⟩ | exact ⟨Or.inr rfl, rfl⟩), rfl⟩, ?_⟩) | (refine lES2 S rfl rfl ?_ <;> refine KO_nil ⟨⟨by (first | exact True.intro | exact Or.inl rfl | exact Or.inr rfl | exact Or.inr (congrArg some (blkOf_elA _ _ _ _)) | exact ⟨Or.inl rfl, rfl⟩ | exact ⟨Or.inr rfl, rfl⟩), rfl⟩, ?_⟩) | (refine lEB S ?_ <;> refine KO_nil ⟨⟨by (first | exact True.intro | exact Or.inl rfl | exact Or.inr rfl | exact Or.inr (congrArg some (blkOf_elA _ _ _ _)) | exact ⟨Or.inl rfl, rfl⟩ | exact ⟨Or.inr rfl, rfl⟩), rfl⟩, ?_⟩) | (refine lH S ?_ <;> refine KO_nil ⟨⟨by (first | exact True.intro | exact Or.inl rfl | exact Or.inr rfl | exact Or.inr (congrArg some (blkOf_elA _ _ _ _)) | exact ⟨Or.inl rfl, rfl⟩ | exact ⟨Or.inr rfl, rfl⟩), rfl⟩, ?_⟩)); refine KX_cons ?_; (first | (refine mv ?_ <;> refine KO_nil ⟨⟨by (first | exact True.intro | exact Or.inl rfl | exact Or.inr rfl | exact Or.inr (congrArg some (blkOf_elA _ _ _ _)) | exact ⟨Or.inl rfl, rfl⟩ | exact ⟨Or.inr rfl, rfl⟩), rfl⟩, ?_⟩))
    ((refine KX_cons ?_; first | refine KO_fn rfl rfl rfl rfl rfl ((spotOf_ok S.wf t i hB (by omega)).mono ?_)); rintro _ h ⟨rfl, x⟩) <;> ((refine KO_nil ⟨⟨True.intro, ?_⟩, ?_⟩; (focus ((show keepsX _ _ _ _ _; simp only [keepsX]; (repeat' (first | exact True.intro | refine And.intro ?_ ?_)); all_goals (intro hw; first | exact True.intro | exact rfl | exact x.ext.old _ S.bB | exact x.ext.old _ (S.bR (by first | omega | grind)) | exact x.ext.old _ (S.bX (by assumption) (by assumption) (by first | omega | grind)) | exact x.ext.old _ (S.bY (by assumption) (by assumption)) | (refine x.ext.old _ ?_; assumption) | exact absurd hw (by decide +kernel)))))); replace S := S.join0 x; clear x; refine KX_cons ?_; (first | (refine lB S rfl rfl ?_ <;> refine KO_nil ⟨⟨by (first | exact True.intro | exact Or.inl rfl | exact Or.inr rfl | exact Or.inr (congrArg some (blkOf_elA _ _ _ _)) | exact ⟨Or.inl rfl, rfl⟩ | exact ⟨Or.inr rfl, rfl⟩), rfl⟩, ?_⟩) | (refine lES2 S rfl rfl ?_ <;> refine KO_nil ⟨⟨by (first | exact True.intro | exact Or.inl rfl | exact Or.inr rfl | exact Or.inr (congrArg some (blkOf_elA _ _ _ _)) | exact ⟨Or.inl rfl, rfl⟩ | exact ⟨Or.inr rfl, rfl⟩), rfl⟩, ?_⟩) | (refine lEB S ?_ <;> refine KO_nil ⟨⟨by (first | exact True.intro | exact Or.inl rfl | exact Or.inr rfl | exact Or.inr (congrArg some (blkOf_elA _ _ _ _)) | exact ⟨Or.inl rfl, rfl⟩ | exact ⟨Or.inr rfl, rfl⟩), rfl⟩, ?_⟩) | (refine lH S ?_ <;> refine KO_nil ⟨⟨by (first | exact True.intro | exact Or.inl rfl | exact Or.inr rfl | exact Or.inr (congrArg some (blkOf_elA _ _ _ _)) | exact ⟨Or.inl rfl, rfl⟩ | exact ⟨Or.inr rfl, rfl⟩), rfl⟩, ?_⟩)); refine KX_cons ?_; (first | ((refine pE ?_ ?_ <;> intro hc) <;> refine KO_nil ⟨⟨by (first | exact True.intro | exact Or.inl rfl | exact Or.inr rfl | exact Or.inr (congrArg some (blkOf_elA _ _ _ _)) | exact ⟨Or.inl rfl, rfl⟩ | exact ⟨Or.inr rfl, rfl⟩), rfl⟩, ?_⟩)) <;> (refine KX_nil ?_))
    all_goals (repeat' (first | refine K_seq ?_ | refine k_cond rfl ?_ | refine K_skip ?_ | refine K_exit ?_ | refine k_block ?_ | refine K_scope ?_ | (refine K_region (id := 3) ?_; refine mv ?_; (first | refine ad ?_ | refine vl ?_); refine mv ?_; refine KO_nil ?_) | (refine K_region (id := 5) ?_; refine mv ?_; refine mv ?_; refine KO_nil ?_)))
    · refine K_ret ⟨_, rfl, ?_⟩
      exact ⟨i, rfl, .inr ⟨i, rfl, by omega, by assumption, h2⟩, S.drop⟩
    · refine ⟨i + 1, ?_, ?_, (by repeat (first | exact Ks.le_nil _ | refine Ks.le_cons rfl ?_ | refine Ks.le_int ?_))⟩
      · show (tsize t - ((i + 1 : Nat) : Int)).toNat < (tsize t - i).toNat; omega
      · refine ⟨S, by omega, fun j hj => ?_⟩
        rcases Nat.lt_or_ge j i with q | q
        · exact h2 j q
        · obtain rfl : j = i := by omega
          assumption
  · refine K_ret ⟨_, rfl, ?_⟩
    exact ⟨-1, rfl, .inl ⟨rfl, fun j hj => h2 j (by omega)⟩, S.drop⟩
end Go.Proofs.Xx

/-
  HallChecks: its contract.
-/
namespace Go.Proofs.Xx
open Go Go.Proofs
set_option linter.unusedSimpArgs false
set_option linter.unusedVariables false
set_option maxRecDepth 100000
set_option maxHeartbeats 1000000

section
variable {l2 l : List Tab}
theorem SameAll.all (s : SameAll l2 l) (i : Nat) : SameTab (tb l2 i) (tb l i) := by
  rcases Nat.lt_or_ge i l2.length with h | h
  · exact s.2 i h
  · have := s.1
    simp only [tb, List.getD_eq_getElem?_getD, List.getElem?_eq_none h, List.getElem?_eq_none (show l.length ≤ i by omega)]
    rfl
theorem SameAll.chk (s : SameAll l2 l) (i : Nat) : chk (tb l2 i) = chk (tb l i) := by have := s.all i; unfold SameTab at this; rw [this]; rfl
theorem SameAll.name (s : SameAll l2 l) (i : Nat) : (tb l2 i).name = (tb l i).name := by have := s.all i; unfold SameTab at this; rw [this]
theorem SameAll.size (s : SameAll l2 l) (i : Nat) : tsize (tb l2 i) = tsize (tb l i) := by have := s.all i; unfold SameTab at this; rw [this]; rfl
theorem SameAll.valid (s : SameAll l2 l) : ValidL l2 ↔ ValidL l := by
  unfold ValidL goodAt dupAt
  simp only [s.chk, s.name, s.1]
theorem SameAll.sum (s : SameAll l2 l) : ∀ n, sumT l2 n = sumT l n
  | 0 => rfl
  | n + 1 => by simp only [sumT, s.sum n, s.size]
theorem SameAll.first (s : SameAll l2 l) (t : Int) : firstV l2 t = firstV l t := by
  unfold firstV
  by_cases q : 0 ≤ t ∧ t < l.length ∧ ValidL l
  · rw [if_pos q, if_pos ⟨q.1, by rw [s.1]; exact q.2.1, s.valid.2 q.2.2⟩, s.sum]
  · rw [if_neg q, if_neg fun k => q ⟨k.1, by rw [← s.1]; exact k.2.1, s.valid.1 k.2.2⟩]
theorem SameAll.count (s : SameAll l2 l) : countV l2 = countV l := by
  unfold countV
  by_cases q : ValidL l
  · rw [if_pos q, if_pos (s.valid.2 q), s.sum, s.1]
  · rw [if_neg q, if_neg fun k => q (s.valid.1 k)]
theorem SameAll.seats (s : SameAll l2 l) (i : Nat) : seatsV (tb l2 i) = seatsV (tb l i) := by
  unfold seatsV
  simp only [s.chk, s.size]
def FindR (l : List Tab) (nm : List UInt8) (k2 : Int) (f2 : Bool) : Prop :=
  (f2 = true ∧ ∃ k : Nat, k2 = k ∧ ValidL l ∧ k < l.length ∧ (tb l k).name = nm ∧ ∀ j, j < k → ¬ (tb l j).name = nm) ∨ (f2 = false ∧ k2 = 0 ∧ (¬ ValidL l ∨ ∀ j, j < l.length → ¬ (tb l j).name = nm))
theorem ValidL.one (k : ValidL l) {i j : Nat} (hi : i < l.length) (hj : j < l.length) (h : (tb l i).name = (tb l j).name) : i = j := by
  rcases Nat.lt_trichotomy i j with q | q | q
  · exact absurd ⟨i, q, h⟩ (k.2 j hj).2
  · exact q
  · exact absurd ⟨j, q, h.symm⟩ (k.2 i hi).2
end
theorem awake_ok {h0 : AH} : Fn Tryz.prog Xh 21 [] h0 (fun v h' => v = .bool true ∧ h' = h0) := Fn_known rfl ⟨rfl, rfl⟩

end Go.Proofs.Xx

/-
  Seats by their numbers: the program's questions.
-/
namespace Go.Proofs.Xx
open Go Go.Proofs
set_option linter.unusedSimpArgs false
set_option linter.unusedVariables false
set_option maxRecDepth 100000
set_option maxHeartbeats 4000000

/-- The seat s of the hall is the seat k of the table i. -/
def WhereI (l : List Tab) (s : Int) (i k : Nat) : Prop := ValidL l ∧ i < l.length ∧ (k : Int) < tsize (tb l i) ∧ s = sumT l i + k
theorem sumT_mono (l : List Tab) {i j : Nat} (h : i ≤ j) : sumT l i ≤ sumT l j := by
  induction h with
  | refl => exact Int.le_refl _
  | @step m _ ih => have := tsize_le (tb l m); simp only [sumT]; omega
theorem WhereI.unique {l : List Tab} {s : Int} {i k j m : Nat} (h : WhereI l s i k) (g : WhereI l s j m) : i = j ∧ k = m := by
  obtain ⟨-, h2, h3, h4⟩ := h
  obtain ⟨-, g2, g3, g4⟩ := g
  rcases Nat.lt_trichotomy i j with q | q | q
  · have := sumT_mono l (show i + 1 ≤ j by omega); simp only [sumT] at this; omega
  · subst q; exact ⟨rfl, by omega⟩
  · have := sumT_mono l (show j + 1 ≤ i by omega); simp only [sumT] at this; omega
theorem WhereI.sz {l : List Tab} {s : Int} {i k : Nat} (h : WhereI l s i k) : TabS (tb l i) := TabS.of _ (by have := h.2.2.1; omega)
def WhereR (l : List Tab) (s a b : Int) (f : Bool) : Prop := (f = true ∧ ∃ i k : Nat, a = i ∧ b = k ∧ WhereI l s i k) ∨ (f = false ∧ a = 0 ∧ b = 0 ∧ ∀ i k, ¬ WhereI l s i k)
theorem WhereR.unique {l : List Tab} {s a b a' b' : Int} {f f' : Bool} (h : WhereR l s a b f) (g : WhereR l s a' b' f') : a = a' ∧ b = b' ∧ f = f' := by
  rcases h with ⟨rfl, i, k, rfl, rfl, h⟩ | ⟨rfl, rfl, rfl, h⟩ <;> rcases g with ⟨rfl, j, m, rfl, rfl, g⟩ | ⟨rfl, rfl, rfl, g⟩
  · obtain ⟨rfl, rfl⟩ := h.unique g; exact ⟨rfl, rfl, rfl⟩
  · exact absurd h (g _ _)
  · exact absurd g (h _ _)
  · exact ⟨rfl, rfl, rfl⟩
def PairR (l : List Tab) (a b : Int) (t : Tab) (x y : Int) (f : Bool) : Prop := (f = true ∧ ∃ i k m : Nat, t = tb l i ∧ x = k ∧ y = m ∧ WhereI l a i k ∧ WhereI l b i m) ∨ (f = false ∧ t = default ∧ x = 0 ∧ y = 0 ∧ ∀ i k m, WhereI l a i k → ¬ WhereI l b i m)
/-- Of two seats of one table P holds. -/
def BothP (P : Tab → Int → Int → Prop) (l : List Tab) (a b : Int) : Prop := ∃ i k m : Nat, WhereI l a i k ∧ WhereI l b i m ∧ P (tb l i) k m
def DistR (l : List Tab) (a b d : Int) (f : Bool) : Prop := (f = true ∧ ∃ (i k m : Nat) (e : Nat), WhereI l a i k ∧ WhereI l b i m ∧ d = e ∧ IsDist (nearP (tb l i)) (tsize (tb l i)).toNat k e m) ∨ (f = false ∧ d = 0 ∧ ∀ i k m e, WhereI l a i k → WhereI l b i m → ¬ IsDist (nearP (tb l i)) (tsize (tb l i)).toNat k e m)
def LevR (l : List Tab) (a v : Int) : Prop := (∃ (i k : Nat) (ld : List Int), WhereI l a i k ∧ DistL (nearP (tb l i)) (tsize (tb l i)).toNat (tHon (tb l i)).toNat ld ∧ v = (lvl (tsize (tb l i)).toNat ld).getD k default) ∨ (v = 0 ∧ ∀ i k, ¬ WhereI l a i k)
theorem index_ok {h0 : AH} (w : WfH h0) (v : Value) (l : List Int) (hr : RdL h0 v 1 eI l) (hl : l.length ≤ 1000000) (k : Int) : Fn Tryz.prog Xh 105 [v, .int .i64 k] h0 (fun r h' => IdxIs r (fun i => l.getD i default = k) l.length ∧ Hs h0 h' []) := by
  have S := Hs.start w
  refine Fn_K rfl Tryz.func105 rfl rfl ?_
  all_goals (repeat' (first | refine K_seq ?_ | refine k_cond rfl ?_ | refine K_skip ?_ | refine K_exit ?_ | refine k_block ?_ | refine K_scope ?_ | (refine K_region (id := 0) ?_; refine mv ?_; refine KO_nil ?_) | (refine K_region (id := 1) ?_; refine mv ?_; (first | refine lnB S ?_ | refine lnS S rfl rfl ?_); refine mv ?_; refine KO_nil ?_)))
  refine k_loop (σ := Nat) (fun i h' => Hs h0 h' [] ∧ i ≤ l.length ∧ ∀ j, j < i → ¬ l.getD j default = k) (fun i => l.length - i) (fun i => [(0, v), (1, .int .i64 k), (7, .int .i64 l.length), (8, .int .i64 i)]) 0 (by repeat (first | exact Ks.le_nil _ | refine Ks.le_cons rfl ?_ | refine Ks.le_int ?_)) ?_ ?_
  · exact ⟨S, Nat.zero_le _, fun j hj => absurd hj (Nat.not_lt_zero _)⟩
  clear S
  rintro i h ⟨S, h1, h2⟩
  all_goals (repeat' (first | refine K_seq ?_ | refine k_cond rfl ?_ | refine K_skip ?_ | refine K_exit ?_ | refine k_block ?_ | refine K_scope ?_ | (refine K_region (id := 2) ?_; (first | refine cT ?_ | refine cF ?_ | (refine cS ?_ ?_ <;> intro hc)) <;> (refine KO_nil ?_)) | (refine K_region (id := 3) ?_; refine mv ?_; refine mv ?_; refine KO_nil ?_) | (refine K_region (id := 4) ?_; refine mv ?_; refine mv ?_; refine mv ?_; (first | refine ixB S ?_ | refine ixS2 S rfl rfl ?_); (first | refine lB S rfl rfl ?_ | refine lES2 S rfl rfl ?_ | refine lEB S ?_ | refine lH S ?_); (first | refine cT ?_ | refine cF ?_ | (refine cS ?_ ?_ <;> intro hc)) <;> (refine KO_nil ?_)) | (refine K_region (id := 5) ?_; refine mv ?_; refine mv ?_; refine KO_nil ?_) | (refine K_region (id := 6) ?_; (first | refine ad ?_ | refine vl ?_); refine mv ?_; refine KO_nil ?_) | (refine K_region (id := 7) ?_; refine mv ?_; refine KO_nil ?_)))
  all_goals (try simp only [Int.toNat_natCast] at *)
  · refine K_ret ⟨_, rfl, ?_⟩
    exact ⟨.inl ⟨i, by omega, rfl, hc.symm, h2⟩, S⟩
  · refine ⟨i + 1, ?_, ?_, (by repeat (first | exact Ks.le_nil _ | refine Ks.le_cons rfl ?_ | refine Ks.le_int ?_))⟩
    · show l.length - (i + 1) < l.length - i; omega
    · refine ⟨S, by omega, fun j hj => ?_⟩
      rcases Nat.lt_or_ge j i with q | q
      · exact h2 j q
      · obtain rfl : j = i := by omega
        exact fun q => hc q.symm
  · refine K_ret ⟨_, rfl, ?_⟩
    exact ⟨.inr ⟨rfl, fun j hj => h2 j (by omega)⟩, S⟩
theorem containsI_ok {h0 : AH} (w : WfH h0) (v : Value) (l : List Int) (hr : RdL h0 v 1 eI l) (hl : l.length ≤ 1000000) (k : Int) : Fn Tryz.prog Xh 48 [v, .int .i64 k] h0 (fun r h' => BoolIs r (∃ i, i < l.length ∧ l.getD i default = k) ∧ Hs h0 h' []) := by
  have S := Hs.start w
  refine Fn_K rfl Tryz.func48 rfl rfl ?_
  all_goals (repeat' (first | refine K_seq ?_ | refine k_cond rfl ?_ | refine K_skip ?_ | refine K_exit ?_ | refine k_block ?_ | refine K_scope ?_ | (refine K_region (id := 0) ?_; refine mv ?_; refine KO_nil ?_) | (refine K_region (id := 1) ?_; refine mv ?_; refine mv ?_)))
  (refine KO_fn rfl rfl rfl rfl rfl ((index_ok S.wf v l hr hl k).mono ?_); rintro _ h ⟨⟨i, hi, rfl, hq, hn⟩ | ⟨rfl, hn⟩, x⟩) <;> (replace S := S.join0 x; clear x; (first | refine cT ?_ | refine cF ?_ | (refine cS ?_ ?_ <;> intro hc)) <;> (refine mv ?_; refine KO_nil ?_))
  all_goals (repeat' (first | refine K_seq ?_ | refine k_cond rfl ?_ | refine K_skip ?_ | refine K_exit ?_ | refine k_block ?_ | refine K_scope ?_))
  all_goals (try omega)
  all_goals (refine K_ret ⟨_, rfl, ?_⟩)
  · exact ⟨.inl ⟨rfl, i, hi, hq⟩, S⟩
  · exact ⟨.inr ⟨rfl, fun ⟨j, hj, hp⟩ => hn j hj hp⟩, S⟩
def OpenR (l : List Tab) (a : Int) : Prop := ∃ i k : Nat, WhereI l a i k ∧ openP (tb l i) k
open Classical in
/-- The near seats among the first n. -/
noncomputable def nbUp (N : Int → Int → Prop) (k a : Int) : Nat → List Int
  | 0 => []
  | m + 1 => if N k m then nbUp N k a m ++ [a - k + m] else nbUp N k a m
def NbR (l : List Tab) (a : Int) (out : List Int) : Prop := (∃ i k : Nat, WhereI l a i k ∧ out = nbUp (nearP (tb l i)) k a (tsize (tb l i)).toNat) ∨ (out = [] ∧ ∀ i k, ¬ WhereI l a i k)
end Go.Proofs.Xx

/-
  HallNumbers: the seats of a hall are numbered without gaps.
-/
namespace Go.Proofs.Xx
open Go Go.Proofs
set_option linter.unusedSimpArgs false
set_option linter.unusedVariables false
set_option maxRecDepth 100000

theorem WhereR.is {l : List Tab} {s a b : Int} {f : Bool} (h : WhereR l s a b f) {i k : Nat} (q : WhereI l s i k) : a = i ∧ b = k ∧ f = true := h.unique (.inl ⟨rfl, i, k, rfl, rfl, q⟩)
theorem WhereR.no {l : List Tab} {s a b : Int} {f : Bool} (h : WhereR l s a b f) (q : ∀ i k, ¬ WhereI l s i k) : a = 0 ∧ b = 0 ∧ f = false := h.unique (.inr ⟨rfl, rfl, rfl, q⟩)
theorem MadeH.sz {cs : List Cod} {l : List Tab} (m : MadeH cs l) {i : Nat} (h : i < l.length) : TabS (tb l i) := by
  obtain ⟨t, h1, h2⟩ := m.tab i h
  refine TabS.of _ ?_
  rw [h2, tsize_xy]; exact h1.ts.pos
theorem MadeH.seats {cs : List Cod} {l : List Tab} (m : MadeH cs l) {i : Nat} (h : i < l.length) : seatsV (tb l i) = tsize (tb l i) := by
  unfold seatsV; rw [if_pos (m.chk h)]
theorem MadeH.first {cs : List Cod} {l : List Tab} (m : MadeH cs l) {i : Nat} (h : i < l.length) : firstV l i = sumT l i := by
  unfold firstV; rw [if_pos ⟨by omega, by omega, m.valid⟩, Int.toNat_natCast]
theorem MadeH.count {cs : List Cod} {l : List Tab} (m : MadeH cs l) : countV l = sumT l l.length := by
  unfold countV; rw [if_pos m.valid]
theorem MadeH.find {cs : List Cod} {l : List Tab} (m : MadeH cs l) {i : Nat} (hi : i < l.length) {k : Int} {f : Bool} (h : FindR l (tb l i).name k f) : k = i ∧ f = true := by
  rcases h with ⟨rfl, j, rfl, h1, h2, h3, h4⟩ | ⟨rfl, rfl, h1 | h1⟩
  · have := m.valid.one h2 hi h3
    exact ⟨by rw [this], rfl⟩
  · exact absurd m.valid h1
  · exact absurd rfl (h1 i hi)
def wZebra : List UInt8 := [122, 101, 98, 114, 97]

end Go.Proofs.Xx

/-
  Sorting by a key, in place: merging.
-/
namespace Go.Proofs.Xx
open Go Go.Proofs
set_option linter.unusedSimpArgs false
set_option linter.unusedVariables false
set_option maxRecDepth 100000

theorem IsRot.none {a b : Nat} {l : List Int} : IsRot a b b l l := fun k => by
  congr 1; unfold rot; split
  · rfl
  · split
    · omega
    · split
      · omega
      · rfl
end Go.Proofs.Xx

/-
  Distances are less than the number of places; lists in strict order with the same elements.
-/
namespace Go.Proofs.Xx
set_option linter.unusedVariables false

section
variable {N : Int → Int → Prop} {n s : Nat}
/-- On a least walk there is a place at each distance. -/
theorem IsDist.chain {d y : Nat} (h : IsDist N n s d y) (hy : y < n) : ∀ e, e ≤ d → ∃ x, x < n ∧ IsDist N n s e x := by
  induction d generalizing y with
  | zero => intro e he; exact ⟨y, hy, by rw [Nat.le_zero.1 he]; exact h⟩
  | succ d ih =>
    intro e he
    rcases Nat.lt_or_ge e (d + 1) with q | q
    · obtain ⟨x, hx, hw, hn⟩ := h.1
      obtain ⟨e', h1, h2⟩ := hw.least
      have : e' = d := by
        rcases Nat.lt_or_ge e' d with q1 | q1
        · exact absurd (show Wk N n s (e' + 1) y from ⟨x, hx, h2.1, hn⟩) (h.2 (e' + 1) (by omega))
        · omega
      subst this
      exact ih h2 hx e (by omega)
    · have : e = d + 1 := by omega
      subst this; exact ⟨y, hy, h⟩
end

/-- Two lists in strict order with the same elements are the same. -/
theorem strict_ext {α : Type} {lt : α → α → Prop} (irr : ∀ x, ¬ lt x x) (tr : ∀ {x y z}, lt x y → lt y z → lt x z) : ∀ {l m : List α}, l.Pairwise lt → m.Pairwise lt → (∀ x, x ∈ l ↔ x ∈ m) → l = m
  | [], [], _, _, _ => rfl
  | [], y :: m, _, _, h => by have := (h y).2 (by simp); simp at this
  | x :: l, [], _, _, h => by have := (h x).1 (by simp); simp at this
  | x :: l, y :: m, h1, h2, h => by
    rw [List.pairwise_cons] at h1 h2
    have e : x = y := by
      have a := (h x).1 (by simp)
      have b := (h y).2 (by simp)
      rw [List.mem_cons] at a b
      rcases a with a | a
      · exact a
      · rcases b with b | b
        · exact b.symm
        · exact absurd (tr (h1.1 y b) (h2.1 x a)) (irr x)
    subst e
    congr 1
    refine strict_ext irr tr h1.2 h2.2 fun z => ?_
    have hz := h z
    rw [List.mem_cons, List.mem_cons] at hz
    constructor
    · intro q
      rcases hz.1 (.inr q) with r | r
      · subst r; exact absurd (h1.1 z q) (irr z)
      · exact r
    · intro q
      rcases hz.2 (.inr q) with r | r
      · subst r; exact absurd (h2.1 z q) (irr z)
      · exact r
/-- The order of honour: by key, then by number. -/
def HonL (key : Int → Int) (f n : Int) (out : List Int) : Prop := out.Pairwise (lexi key) ∧ ∀ x, x ∈ out ↔ f ≤ x ∧ x < f + n
theorem HonL.unique {key : Int → Int} {f n : Int} {a b : List Int} (ha : HonL key f n a) (hb : HonL key f n b) : a = b :=
  strict_ext (lexi_ord key).irr (lexi_ord key).tr ha.1 hb.1 fun x => (ha.2 x).trans (hb.2 x).symm
end Go.Proofs.Xx

/-
  The order of honour.
-/
namespace Go.Proofs.Xx
open Go Go.Proofs
set_option linter.unusedSimpArgs false
set_option linter.unusedVariables false
set_option maxRecDepth 100000

theorem lvl_get (n : Nat) (l : List Int) (i : Nat) (h : i < l.length) : (lvl n l).getD i default = if l.getD i default < 0 then (n : Int) else l.getD i default := by
  simp [lvl, List.getD_eq_getElem?_getD, List.getElem?_map, List.getElem?_eq_getElem h]
/-- The first n seats of a table whose first seat is f. -/
def ups (f : Int) (n : Nat) : List Int := (List.range n).map fun k : Nat => f + (k : Int)
def HonR (l : List Tab) (t : Int) (out : List Int) : Prop :=
  (∃ (i n : Nat) (ld : List Int), t = i ∧ i < l.length ∧ ValidL l ∧ tsize (tb l i) = n ∧ DistL (nearP (tb l i)) n (tHon (tb l i)).toNat ld ∧ HonL (fun x => (lvl n ld).getD (x - sumT l i).toNat default) (sumT l i) n out) ∨ (¬ (0 ≤ t ∧ t < l.length ∧ ValidL l) ∧ out = [])
theorem HonR.unique {l : List Tab} {t : Int} {a b : List Int} (ha : HonR l t a) (hb : HonR l t b) : a = b := by
  rcases ha with ⟨i, n, ld, rfl, h1, h2, h3, h4, h5⟩ | ⟨h1, rfl⟩ <;> rcases hb with ⟨i', n', ld', e, g1, g2, g3, g4, g5⟩ | ⟨g1, rfl⟩
  · obtain rfl : i = i' := by omega
    obtain rfl : n = n' := by omega
    obtain rfl := h4.unique g4
    exact h5.unique g5
  · exact absurd ⟨by omega, by omega, h2⟩ g1
  · exact absurd ⟨by omega, by omega, g2⟩ h1
  · rfl

/-- The order of honour as far as it is told: levels below d, and d among the first k. -/
def HonPre (key : Int → Int) (f : Int) (n : Nat) (d : Int) (k : Nat) (out : List Int) : Prop := out.Pairwise (lexi key) ∧ ∀ x, x ∈ out ↔ ∃ j : Nat, j < n ∧ x = f + j ∧ (key x < d ∨ (key x = d ∧ j < k))
theorem HonPre.take {key : Int → Int} {f : Int} {n : Nat} {d : Int} {k : Nat} {out : List Int} (h : HonPre key f n d k out) (hk : k < n) (hq : key (f + k) = d) : HonPre key f n d (k + 1) (out ++ [f + k]) := by
  refine ⟨List.pairwise_append.2 ⟨h.1, by simp, fun a ha b hb => ?_⟩, fun x => ?_⟩
  · obtain ⟨j, h1, h2, h3⟩ := (h.2 a).1 ha
    rw [List.mem_singleton] at hb
    subst hb
    unfold lexi
    omega
  · rw [List.mem_append, List.mem_singleton, h.2]
    constructor
    · rintro (⟨j, h1, h2, h3⟩ | h1)
      · exact ⟨j, h1, h2, by omega⟩
      · exact ⟨k, hk, h1, by rw [h1]; omega⟩
    · rintro ⟨j, h1, h2, h3⟩
      rcases Nat.lt_trichotomy j k with q | q | q
      · exact .inl ⟨j, h1, h2, by omega⟩
      · subst q; exact .inr h2
      · exact .inl ⟨j, h1, h2, by omega⟩
theorem HonPre.level {key : Int → Int} {f : Int} {n : Nat} {d : Int} {out : List Int} (h : HonPre key f n d n out) : HonPre key f n (d + 1) 0 out := by
  refine ⟨h.1, fun x => ?_⟩
  rw [h.2]
  constructor
  · rintro ⟨j, h1, h2, h3⟩; exact ⟨j, h1, h2, by omega⟩
  · rintro ⟨j, h1, h2, h3⟩; exact ⟨j, h1, h2, by omega⟩
theorem HonPre.done {key : Int → Int} {f : Int} {n : Nat} {d : Int} {out : List Int} (h : HonPre key f n d 0 out) (hb : ∀ j : Nat, j < n → key (f + j) < d) : HonL key f n out := by
  refine ⟨h.1, fun x => ?_⟩
  rw [h.2]
  constructor
  · rintro ⟨j, h1, h2, h3⟩; omega
  · intro ⟨h1, h2⟩
    refine ⟨(x - f).toNat, by omega, by omega, .inl ?_⟩
    have := hb (x - f).toNat (by omega)
    rwa [show f + ((x - f).toNat : Int) = x by omega] at this

end Go.Proofs.Xx

/-
  Levels, near seats, the order of honour.
-/
namespace Go.Proofs.Xx
set_option linter.unusedVariables false

section
variable {N : Int → Int → Prop} {n s : Nat} {ld : List Int}
/-- The level of a place. -/
def lev (n : Nat) (ld : List Int) (k : Nat) : Int := if ld.getD k default < 0 then (n : Int) else ld.getD k default
end

/-! ### the order of honour, by index -/
section
variable {key : Int → Int} {f : Int} {n : Nat} {out : List Int}
theorem HonL.at_ (h : HonL key f n out) {i j : Nat} (hij : i < j) (hj : j < out.length) : lexi key (out.getD i default) (out.getD j default) := by
  have := List.pairwise_iff_getElem.1 h.1 i j (by omega) hj hij
  rw [List.getD_eq_getElem?_getD, List.getD_eq_getElem?_getD, List.getElem?_eq_getElem hj, List.getElem?_eq_getElem (show i < out.length by omega)]
  exact this
theorem HonL.mem_ (h : HonL key f n out) {i : Nat} (hi : i < out.length) : f ≤ out.getD i default ∧ out.getD i default < f + n := by
  refine (h.2 _).1 ?_
  rw [List.getD_eq_getElem?_getD, List.getElem?_eq_getElem hi]
  exact List.getElem_mem hi
theorem HonL.inj (h : HonL key f n out) {i j : Nat} (hi : i < out.length) (hj : j < out.length) (e : out.getD i default = out.getD j default) : i = j := by
  have irr := (lexi_ord key).irr
  rcases Nat.lt_trichotomy i j with q | q | q
  · have := h.at_ q hj; rw [e] at this; exact absurd this (irr _)
  · exact q
  · have := h.at_ q hi; rw [e] at this; exact absurd this (irr _)
theorem HonL.pos_ (h : HonL key f n out) {k : Nat} (hk : k < n) : ∃ i, i < out.length ∧ out.getD i default = f + k := by
  have := (h.2 (f + k)).2 ⟨by omega, by omega⟩
  obtain ⟨i, hi, e⟩ := List.getElem_of_mem this
  refine ⟨i, hi, ?_⟩
  rw [List.getD_eq_getElem?_getD, List.getElem?_eq_getElem hi]; exact e
theorem HonL.len (h : HonL key f n out) : out.length = n := by
  refine Nat.le_antisymm ?_ ?_
  · refine pigeon n out.length (fun i => (out.getD i default - f).toNat) (fun k hk => ?_) fun i j hi hj e => ?_
    · have := h.mem_ hk; show (out.getD k default - f).toNat < n; omega
    · have a := h.mem_ hi
      have b := h.mem_ hj
      have e : (out.getD i default - f).toNat = (out.getD j default - f).toNat := e
      exact h.inj hi hj (by omega)
  · have ch : ∀ k, ∃ i, k < n → i < out.length ∧ out.getD i default = f + k := fun k => by
      by_cases hk : k < n
      · obtain ⟨i, hi⟩ := h.pos_ hk; exact ⟨i, fun _ => hi⟩
      · exact ⟨0, fun q => absurd q hk⟩
    obtain ⟨g, hg⟩ := Classical.axiomOfChoice ch
    refine pigeon out.length n g (fun k hk => (hg k hk).1) fun i j hi hj e => ?_
    have a := (hg i hi).2
    have b := (hg j hj).2
    rw [e] at a
    omega
/-- The first in the order of honour is the only one with the key 0. -/
theorem HonL.zero (h : HonL key f n out) {s : Nat} (hs : s < n) (hz : ∀ k : Nat, k < n → (key (f + k) = 0 ↔ k = s)) (hb : ∀ k : Nat, k < n → 0 ≤ key (f + k)) {i : Nat} (hi : i < out.length) : key (out.getD i default) = 0 ↔ i = 0 := by
  have at' : ∀ {i : Nat}, i < out.length → ∃ k : Nat, k < n ∧ out.getD i default = f + k := fun {i} hi => by
    have := h.mem_ hi
    exact ⟨(out.getD i default - f).toNat, by omega, by omega⟩
  obtain ⟨j, hj, ej⟩ := h.pos_ hs
  have k0 : key (out.getD j default) = 0 := by rw [ej]; exact (hz s hs).2 rfl
  have uniq : ∀ {i : Nat}, i < out.length → key (out.getD i default) = 0 → i = j := fun {i} hi e => by
    obtain ⟨k, hk, ek⟩ := at' hi
    rw [ek] at e
    have := (hz k hk).1 e
    subst this
    exact h.inj hi hj (by rw [ek, ej])
  have j0 : j = 0 := by
    rcases Nat.eq_zero_or_pos j with q | q
    · exact q
    · exfalso
      have hl := h.at_ q hj
      obtain ⟨k, hk, ek⟩ := at' (show 0 < out.length by omega)
      have := hb k hk
      rw [← ek] at this
      unfold lexi at hl
      have e0 : key (out.getD 0 default) = 0 := by omega
      have := uniq (show 0 < out.length by omega) e0
      omega
  constructor
  · intro q; rw [uniq hi q, j0]
  · intro q; rw [q, ← j0]; exact k0
end
end Go.Proofs.Xx

/-
  HallLevels: the order of honour goes by levels.
-/
namespace Go.Proofs.Xx
open Go Go.Proofs
set_option linter.unusedSimpArgs false
set_option linter.unusedVariables false
set_option maxRecDepth 100000

theorem lvl_lev {n : Nat} {ld : List Int} {k : Nat} (h : k < ld.length) : (lvl n ld).getD k default = lev n ld k := by rw [lvl_get n ld k h]; rfl
theorem LevR.is {l : List Tab} {a d : Int} {i k n : Nat} {ld : List Int} (h : LevR l a d) (w : WhereI l a i k) (hn : tsize (tb l i) = n) (D : DistL (nearP (tb l i)) n (tHon (tb l i)).toNat ld) : d = lev n ld k := by
  have hnn : (tsize (tb l i)).toNat = n := by omega
  rcases h with ⟨i', k', ld', w', D', e⟩ | ⟨-, h⟩
  · obtain ⟨rfl, rfl⟩ := w.unique w'
    rw [hnn] at D' e
    obtain rfl := D.unique D'
    rw [e, lvl_lev]
    have := w.2.2.1
    rw [D.1]; omega
  · exact absurd w (h _ _)
theorem NbR.is {l : List Tab} {a : Int} {i k n : Nat} {out : List Int} (h : NbR l a out) (w : WhereI l a i k) (hn : tsize (tb l i) = n) : out = nbUp (nearP (tb l i)) k a n := by
  have hnn : (tsize (tb l i)).toNat = n := by omega
  rcases h with ⟨i', k', w', e⟩ | ⟨-, h⟩
  · obtain ⟨rfl, rfl⟩ := w.unique w'
    rw [e, hnn]
  · exact absurd w (h _ _)
theorem DistR.is {l : List Tab} {a b d : Int} {f : Bool} {i k m n : Nat} (h : DistR l a b d f) (w1 : WhereI l a i k) (w2 : WhereI l b i m) (hn : tsize (tb l i) = n) : f = true ↔ ∃ e, Wk (nearP (tb l i)) n k e m := by
  have hnn : (tsize (tb l i)).toNat = n := by omega
  rcases h with ⟨rfl, i', k', m', e, q1, q2, -, q3⟩ | ⟨rfl, -, q⟩
  · obtain ⟨rfl, rfl⟩ := w1.unique q1
    obtain ⟨-, rfl⟩ := w2.unique q2
    rw [hnn] at q3
    exact ⟨fun _ => ⟨e, q3.1⟩, fun _ => rfl⟩
  · refine ⟨fun q => (by cases q), fun ⟨e, he⟩ => ?_⟩
    obtain ⟨e', -, h2⟩ := he.least
    exact absurd (by rw [hnn]; exact h2) (q i k m e' w1 w2)
theorem HonR.is {l : List Tab} {i n : Nat} {out : List Int} (h : HonR l i out) (hi : i < l.length) (hv : ValidL l) (hn : tsize (tb l i) = n) : ∃ ld, DistL (nearP (tb l i)) n (tHon (tb l i)).toNat ld ∧ HonL (fun x => (lvl n ld).getD (x - sumT l i).toNat default) (sumT l i) n out := by
  rcases h with ⟨i', n', ld, e, h1, h2, h3, h4, h5⟩ | ⟨h1, -⟩
  · obtain rfl : i = i' := by omega
    obtain rfl : n = n' := by omega
    exact ⟨ld, h4, h5⟩
  · exact absurd ⟨by omega, by omega, hv⟩ h1
end Go.Proofs.Xx

/-
  Blocks of places that reach each other.
-/
namespace Go.Proofs.Xx
set_option linter.unusedVariables false

section
variable {N : Int → Int → Prop} {n : Nat}
def Rch (N : Int → Int → Prop) (n k m : Nat) : Prop := ∃ d, Wk N n k d m
theorem Rch.refl (k : Nat) : Rch N n k k := ⟨0, rfl⟩
theorem Wk.trans {s y : Nat} {d : Nat} (h : Wk N n s d y) : ∀ {e z : Nat}, Wk N n y e z → Wk N n s (d + e) z
  | 0, z, g => by
    have : z = y := g
    subst this; exact h
  | e + 1, z, ⟨x, hx, g, hn⟩ => ⟨x, hx, Wk.trans h g, hn⟩
theorem Wk.symm (hN : ∀ x y, N x y → N y x) {s : Nat} (hs : s < n) : ∀ {d y : Nat}, y < n → Wk N n s d y → Wk N n y d s
  | 0, y, hy, h => Eq.symm (show y = s from h)
  | d + 1, y, hy, ⟨x, hx, h, hn⟩ => by
    have h1 : Wk N n y 1 x := ⟨y, hy, rfl, hN _ _ hn⟩
    have := Wk.trans h1 (Wk.symm hN hs hx h)
    rwa [Nat.add_comm] at this
theorem Rch.trans {a b c : Nat} (h : Rch N n a b) (g : Rch N n b c) : Rch N n a c := by
  obtain ⟨d, h⟩ := h
  obtain ⟨e, g⟩ := g
  exact ⟨d + e, h.trans g⟩
theorem Rch.symm (hN : ∀ x y, N x y → N y x) {a b : Nat} (ha : a < n) (hb : b < n) (h : Rch N n a b) : Rch N n b a := by
  obtain ⟨d, h⟩ := h
  exact ⟨d, h.symm hN ha hb⟩
open Classical in
/-- What k reaches among the first m. -/
noncomputable def blkPre (N : Int → Int → Prop) (n : Nat) (f : Int) (k : Nat) : Nat → List Int
  | 0 => []
  | m + 1 => if Rch N n k m then blkPre N n f k m ++ [f + (m : Int)] else blkPre N n f k m
def leastP (N : Int → Int → Prop) (n k : Nat) : Prop := ∀ m, m < n → Rch N n k m → k ≤ m
open Classical in
/-- The blocks whose least place is among the first m. -/
noncomputable def blksPre (N : Int → Int → Prop) (n : Nat) (f : Int) : Nat → List (List Int)
  | 0 => []
  | m + 1 => if leastP N n m then blksPre N n f m ++ [blkPre N n f m n] else blksPre N n f m
end
end Go.Proofs.Xx

/-
  Lists of lists; the blocks of a table.
-/
namespace Go.Proofs.Xx
open Go Go.Proofs
set_option linter.unusedSimpArgs false
set_option linter.unusedVariables false
set_option maxRecDepth 100000

/-- The values vs read as the lists ls. -/
def LLs (vs : List Value) (ls : List (List Int)) (h : AH) (fp : Fp) : Prop := vs.length = ls.length ∧ ∀ j, j < ls.length → RdL h (vs.getD j default) 1 eI (ls.getD j default)
def RLL (h : AH) (v : Value) (ls : List (List Int)) : Prop := ∃ vs, RdL h v 1 eV vs ∧ vs.length = ls.length ∧ ∀ j, j < ls.length → RdL h (vs.getD j default) 1 eI (ls.getD j default)
theorem RLL.ext {h h' : AH} {v : Value} {ls : List (List Int)} (r : RLL h v ls) (w : WfH h) (x : Ext h h') : RLL h' v ls := by
  obtain ⟨vs, h1, h2, h3⟩ := r
  exact ⟨vs, h1.ext w x, h2, fun j hj => (h3 j hj).ext w x⟩
theorem RLL.nil {h : AH} : RLL h (.slice none 0 0) [] := ⟨[], Rd.none_ h 1, rfl, fun j hj => absurd hj (Nat.not_lt_zero _)⟩
theorem LLs.nil (h : AH) (fp : Fp) : LLs [] [] h fp := ⟨rfl, fun j hj => absurd hj (Nat.not_lt_zero _)⟩
theorem RLL.of {h0 h : AH} {rs : List Rs} {v : Value} {e : TypeId} {vs : List Value} {ls : List (List Int)} (S : Hs h0 h rs) (a : At rs (.sl v e 1 eV vs)) (b : At rs (.any (LLs vs ls))) : RLL h v ls := by
  obtain ⟨fp, k⟩ := S.anyP b
  exact ⟨vs, Rd.of_sl S a, k.1, k.2⟩

theorem equalLL_ok {h0 : AH} (w : WfH h0) (v u : Value) (ls ms : List (List Int)) (hv : RLL h0 v ls) (hu : RLL h0 u ms) (hl : ls.length ≤ 1000000) (hm : ms.length ≤ 1000000) (hb1 : ∀ j, j < ls.length → (ls.getD j default).length ≤ 1000000) (hb2 : ∀ j, j < ms.length → (ms.getD j default).length ≤ 1000000) :
    Fn Tryz.prog Xh 101 [v, u, .func (.func 59) #[] #[]] h0 (fun r h' => BoolIs r (ls = ms) ∧ Hs h0 h' []) := by
  have S := Hs.start w
  obtain ⟨vs, v1, v2, v3⟩ := hv
  obtain ⟨us, u1, u2, u3⟩ := hu
  refine Fn_K rfl Tryz.func101 rfl rfl ?_
  all_goals (repeat' (first | refine K_seq ?_ | refine k_cond rfl ?_ | refine K_skip ?_ | refine K_exit ?_ | refine k_block ?_ | refine K_scope ?_ | (refine K_region (id := 0) ?_; refine mv ?_; refine KO_nil ?_) | (refine K_region (id := 1) ?_; refine mv ?_; (first | refine lnB S ?_ | refine lnS S rfl rfl ?_); refine mv ?_; (first | refine lnB S ?_ | refine lnS S rfl rfl ?_); (first | refine cT ?_ | refine cF ?_ | (refine cS ?_ ?_ <;> intro hc)) <;> (refine KO_nil ?_)) | (refine K_region (id := 2) ?_; refine mv ?_; refine KO_nil ?_) | (refine K_region (id := 3) ?_; refine mv ?_; (first | refine lnB S ?_ | refine lnS S rfl rfl ?_); refine mv ?_; refine KO_nil ?_)))
  · refine K_ret ⟨_, rfl, ?_⟩
    exact ⟨.inr ⟨rfl, fun q => hc (by rw [v2, u2, q])⟩, S⟩
  · refine k_loop (σ := Nat) (fun i h' => Hs h0 h' [] ∧ i ≤ vs.length ∧ ∀ j, j < i → ls.getD j default = ms.getD j default) (fun i => vs.length - i) (fun i => [(1, u), (2, .func (.func 59) #[] #[]), (15, v), (16, .int .i64 vs.length), (17, .int .i64 i)]) 0 (by repeat (first | exact Ks.le_nil _ | refine Ks.le_cons rfl ?_ | refine Ks.le_int ?_)) ?_ ?_
    · exact ⟨S, Nat.zero_le _, fun j hj => absurd hj (Nat.not_lt_zero _)⟩
    clear S
    rintro i h ⟨S, h1, h2⟩
    have hlm : vs.length = us.length := by omega
    all_goals (repeat' (first | refine K_seq ?_ | refine k_cond rfl ?_ | refine K_skip ?_ | refine K_exit ?_ | refine k_block ?_ | refine K_scope ?_ | (refine K_region (id := 4) ?_; (first | refine cT ?_ | refine cF ?_ | (refine cS ?_ ?_ <;> intro hc)) <;> (refine KO_nil ?_)) | (refine K_region (id := 5) ?_; refine mv ?_; (first | refine ixB S ?_ | refine ixS2 S rfl rfl ?_); (first | refine lB S rfl rfl ?_ | refine lES2 S rfl rfl ?_ | refine lEB S ?_ | refine lH S ?_); refine mv ?_; refine mv ?_; refine KO_nil ?_) | (refine K_region (id := 6) ?_; refine mv ?_; refine mv ?_; (first | refine ixB S ?_ | refine ixS2 S rfl rfl ?_); (first | refine lB S rfl rfl ?_ | refine lES2 S rfl rfl ?_ | refine lEB S ?_ | refine lH S ?_); refine mv ?_; refine KO_nil ?_) | (refine K_region (id := 7) ?_; refine mv ?_; refine mv ?_; refine mv ?_; skip) | (refine K_region (id := 10) ?_; refine mv ?_; refine KO_nil ?_)))
    · (try simp only [Int.toNat_natCast] at *)
      have hi : i < vs.length := by omega
      (refine KO_call rfl rfl rfl rfl ((equal_ok S.wf (vs.getD i default) (us.getD i default) (ls.getD i default) (ms.getD i default) ((v3 i (by omega)).ext w S.ext) ((u3 i (by omega)).ext w S.ext) (hb1 i (by omega)) (hb2 i (by omega))).mono ?_); rintro _ h ⟨⟨rfl, hq⟩ | ⟨rfl, hq⟩, x⟩) <;> (replace S := S.join0 x; clear x; refine vl ?_; refine KO_nil ?_)
      all_goals (repeat' (first | refine K_seq ?_ | refine k_cond rfl ?_ | refine K_skip ?_ | refine K_exit ?_ | refine k_block ?_ | refine K_scope ?_ | (refine K_region (id := 8) ?_; refine mv ?_; refine KO_nil ?_) | (refine K_region (id := 9) ?_; (first | refine ad ?_ | refine vl ?_); refine mv ?_; refine KO_nil ?_)))
      · refine ⟨i + 1, ?_, ?_, (by repeat (first | exact Ks.le_nil _ | refine Ks.le_cons rfl ?_ | refine Ks.le_int ?_))⟩
        · show vs.length - (i + 1) < vs.length - i; omega
        · refine ⟨S.drop, by omega, fun j hj => ?_⟩
          rcases Nat.lt_or_ge j i with q | q
          · exact h2 j q
          · obtain rfl : j = i := by omega
            exact hq
      · refine K_ret ⟨_, rfl, ?_⟩
        exact ⟨.inr ⟨rfl, fun q => hq (by rw [q])⟩, S.drop⟩
    · refine K_ret ⟨_, rfl, ?_⟩
      exact ⟨.inl ⟨rfl, ext_getD (by omega) fun j hj => h2 j (by omega)⟩, S⟩
theorem sameLists_ok {h0 : AH} (w : WfH h0) (v u : Value) (ls ms : List (List Int)) (hv : RLL h0 v ls) (hu : RLL h0 u ms) (hl : ls.length ≤ 1000000) (hm : ms.length ≤ 1000000) (hb1 : ∀ j, j < ls.length → (ls.getD j default).length ≤ 1000000) (hb2 : ∀ j, j < ms.length → (ms.getD j default).length ≤ 1000000) :
    Fn Tryz.prog Xh 42 [v, u] h0 (fun r h' => BoolIs r (ls = ms) ∧ Hs h0 h' []) := by
  have S := Hs.start w
  refine Fn_K rfl Tryz.func42 rfl rfl ?_
  all_goals (repeat' (first | refine K_seq ?_ | refine k_cond rfl ?_ | refine K_skip ?_ | refine K_exit ?_ | refine k_block ?_ | refine K_scope ?_ | (refine K_region (id := 0) ?_; refine mv ?_; refine KO_nil ?_) | (refine K_region (id := 1) ?_; refine mv ?_; refine mv ?_)))
  (refine KO_fn rfl rfl rfl rfl rfl ((equalLL_ok S.wf v u ls ms hv hu hl hm hb1 hb2).mono ?_); rintro _ h ⟨hq, x⟩) <;> (replace S := S.join0 x; clear x; refine mv ?_; refine KO_nil ?_)
  all_goals (repeat' (first | refine K_seq ?_ | refine k_cond rfl ?_ | refine K_skip ?_ | refine K_exit ?_ | refine k_block ?_ | refine K_scope ?_))
  refine K_ret ⟨_, rfl, ?_⟩
  exact ⟨hq, S⟩

def BlkR (l : List Tab) (t : Int) (ls : List (List Int)) : Prop :=
  (∃ i n : Nat, t = i ∧ i < l.length ∧ ValidL l ∧ tsize (tb l i) = n ∧ ls = blksPre (nearP (tb l i)) n (sumT l i) n) ∨ (¬ (0 ≤ t ∧ t < l.length ∧ ValidL l) ∧ ls = [])
theorem BlkR.unique {l : List Tab} {t : Int} {a b : List (List Int)} (ha : BlkR l t a) (hb : BlkR l t b) : a = b := by
  rcases ha with ⟨i, n, rfl, h1, h2, h3, rfl⟩ | ⟨h1, rfl⟩ <;> rcases hb with ⟨i', n', e, g1, g2, g3, rfl⟩ | ⟨g1, rfl⟩
  · obtain rfl : i = i' := by omega
    obtain rfl : n = n' := by omega
    rfl
  · exact absurd ⟨by omega, by omega, h2⟩ g1
  · exact absurd ⟨by omega, by omega, g2⟩ h1
  · rfl
end Go.Proofs.Xx
