/-
  Sorting in place, by a function that compares.
-/
import Derived.Test.YtnopenpheaihmaaGreatDoorM9

namespace Go.Proofs.Xx
open Go Go.Proofs
set_option linter.unusedSimpArgs false
set_option linter.unusedVariables false
set_option maxRecDepth 100000

/-- A list and the slice that it is read from. -/
abbrev PL := SlV × List Int
instance : Inhabited SlV := ⟨⟨none, 0, 0⟩⟩
def eP (x : PL) : List Value := [x.1.val]
def CmpFn (h0 : AH) (v : Value) (rs : List Rs) (g : Nat) (cap : List Value) (lt : PL → PL → Prop) (p : PL → Prop) : Prop :=
  ∀ h l x y, Hs h0 h (.sl v 23 1 eP l :: rs) → p x → p y → Fn Tryz.prog Xh g (x.1.val :: y.1.val :: cap) h (fun v h' => ∃ d, v = .int .i64 d ∧ ((d < 0 ∧ lt x y) ∨ (0 ≤ d ∧ ¬ lt x y)) ∧ Hs h h' [])

theorem ins_c {h0 h : AH} {rs : List Rs} {v : Value} {l : List PL} {g : Nat} {cap : List Value} {lt : PL → PL → Prop} {p : PL → Prop} (a b : Nat) (S : Hs h0 h (.sl v 23 1 eP l :: rs)) (C : CmpFn h0 v rs g cap lt p) (hp : ∀ k, k < l.length → p (l.getD k default)) (W : WOrd lt) (hab : a ≤ b) (hb : b ≤ l.length) (hl : l.length ≤ 1000000) :
    Fn Tryz.prog Xh 180 [v, .int .i64 a, .int .i64 b, cvV g cap] h (fun _ h' => ∃ l', Sw a b l l' ∧ Srt lt a b l' ∧ Hs h0 h' (.sl v 23 1 eP l' :: rs)) := by
  refine Fn_K rfl Tryz.func180 rfl rfl ?_
  all_goals (repeat' (first | refine K_seq ?_ | refine k_cond rfl ?_ | refine K_skip ?_ | refine K_exit ?_ | refine k_block ?_ | refine K_scope ?_ | (refine K_region (id := 0) ?_; refine mv ?_; (first | refine ad ?_ | refine vl ?_); refine mv ?_; refine KO_nil ?_)))
  refine k_loop (σ := Nat × List PL) (fun (i, m) h' => Hs h0 h' (.sl v 23 1 eP m :: rs) ∧ a < i ∧ Sw a b l m ∧ Srt lt a (min i b) m) (fun (i, m) => b - i) (fun (i, m) => [(0, v), (1, .int .i64 a), (2, .int .i64 b), (3, cvV g cap), (8, .int .i64 i)]) (a + 1, l) (by repeat (first | exact Ks.le_nil _ | refine Ks.le_cons rfl ?_ | refine Ks.le_int ?_)) ?_ ?_
  · exact ⟨S, by omega, .refl _, fun i j q1 q2 q3 => by omega⟩
  clear S
  rintro ⟨i, m⟩ h ⟨S, h1, h2, h3⟩
  have hml := h2.len
  all_goals (repeat' (first | refine K_seq ?_ | refine k_cond rfl ?_ | refine K_skip ?_ | refine K_exit ?_ | refine k_block ?_ | refine K_scope ?_ | (refine K_region (id := 1) ?_; refine mv ?_; refine mv ?_; (first | refine cT ?_ | refine cF ?_ | (refine cS ?_ ?_ <;> intro hc)) <;> (refine KO_nil ?_)) | (refine K_region (id := 3) ?_; refine mv ?_; refine mv ?_; refine KO_nil ?_)))
  · have hib : i < b := by omega
    rw [Nat.min_eq_left (by omega)] at h3
    refine k_loop (σ := Nat × List PL) (fun (j, n) h' => Hs h0 h' (.sl v 23 1 eP n :: rs) ∧ a ≤ j ∧ j ≤ i ∧ Sw a b l n ∧ InsI lt a i j n) (fun (j, n) => j) (fun (j, n) => [(0, v), (1, .int .i64 a), (2, .int .i64 b), (3, cvV g cap), (8, .int .i64 i), (9, .int .i64 j)]) (i, m) (by repeat (first | exact Ks.le_nil _ | refine Ks.le_cons rfl ?_ | refine Ks.le_int ?_)) ?_ ?_
    · exact ⟨S, by omega, Nat.le_refl _, h2, InsI.start h3⟩
    clear S h2 h3 hml
    rintro ⟨j, n⟩ h ⟨S, k1, k2, k3, k4⟩
    have hnl := k3.len
    have hpn := k3.lift hp hb
    all_goals (repeat' (first | refine K_seq ?_ | refine k_cond rfl ?_ | refine K_skip ?_ | refine K_exit ?_ | refine k_block ?_ | refine K_scope ?_ | (refine K_region (id := 2) ?_; refine mv ?_; (first | refine ad ?_ | refine vl ?_); refine mv ?_; refine KO_nil ?_) | (refine K_draw (id := 4) ?_; refine mv ?_; refine mv ?_; (first | refine cT ?_ | refine cF ?_ | (refine cS ?_ ?_ <;> intro hc)) <;> (refine mv ?_; (first | refine off ?_ | refine mv ?_); (first | refine off ?_ | refine mv ?_); (first | refine off ?_ | refine mv ?_); (first | refine off ?_ | (first | refine ixB S ?_ | refine ixS2 S rfl rfl ?_)); (first | refine off ?_ | (first | refine lB S rfl rfl ?_ | refine lES2 S rfl rfl ?_ | refine lEB S ?_ | refine lH S ?_)); (first | refine off ?_ | refine mv ?_); (first | refine off ?_ | refine mv ?_); (first | refine off ?_ | (first | refine sb ?_ | refine vl ?_)); (first | refine off ?_ | (first | refine ixB S ?_ | refine ixS2 S rfl rfl ?_)); (first | refine off ?_ | (first | refine lB S rfl rfl ?_ | refine lES2 S rfl rfl ?_ | refine lEB S ?_ | refine lH S ?_)); (first | (refine off ?_; (first | refine off ?_ | (first | refine cT ?_ | refine cF ?_ | (refine cS ?_ ?_ <;> intro hc))) <;> (refine vl ?_; refine KO_nil ?_)) | skip))) | (refine K_region (id := 5) ?_; refine mv ?_; (first | refine sb ?_ | refine vl ?_); refine mv ?_; refine KO_nil ?_) | (refine K_draw (id := 6) ?_; refine mv ?_; refine mv ?_; refine mv ?_; refine mv ?_; (first | refine sb ?_ | refine vl ?_); refine mv ?_; refine mv ?_; (first | refine sb ?_ | refine vl ?_); (first | refine ixB S ?_ | refine ixS2 S rfl rfl ?_); (first | refine lB S rfl rfl ?_ | refine lES2 S rfl rfl ?_ | refine lEB S ?_ | refine lH S ?_); refine mv ?_; refine mv ?_; (first | refine ixB S ?_ | refine ixS2 S rfl rfl ?_); (first | refine lB S rfl rfl ?_ | refine lES2 S rfl rfl ?_ | refine lEB S ?_ | refine lH S ?_); (first | refine ixB S ?_ | refine ixS2 S rfl rfl ?_); (first | (refine sB S rfl rfl ?_; clear S; intro h S) | (refine sE2 S rfl rfl ?_; clear S; intro h S)); (first | refine ixB S ?_ | refine ixS2 S rfl rfl ?_); (first | (refine sB S rfl rfl ?_; clear S; intro h S) | (refine sE2 S rfl rfl ?_; clear S; intro h S)); refine KO_nil ?_)))
    · (try (try simp only [toNat_pred, toNat_succ, toNat_sum, Int.toNat_natCast]))
      (refine KO_call rfl rfl rfl rfl ((C _ _ _ _ S (hpn j (by omega)) (hpn (j - 1) (by omega))).mono ?_); rintro _ h ⟨d, rfl, ⟨hd, hq⟩ | ⟨hd, hq⟩, x⟩) <;> (replace S := S.join0 x; clear x; (first | refine off ?_ | (first | refine cT ?_ | refine cF ?_ | (refine cS ?_ ?_ <;> intro hc))) <;> (refine vl ?_; refine KO_nil ?_))
      · all_goals (repeat' (first | refine K_seq ?_ | refine k_cond rfl ?_ | refine K_skip ?_ | refine K_exit ?_ | refine k_block ?_ | refine K_scope ?_ | (refine K_region (id := 2) ?_; refine mv ?_; (first | refine ad ?_ | refine vl ?_); refine mv ?_; refine KO_nil ?_) | (refine K_region (id := 5) ?_; refine mv ?_; (first | refine sb ?_ | refine vl ?_); refine mv ?_; refine KO_nil ?_) | (refine K_draw (id := 6) ?_; refine mv ?_; refine mv ?_; refine mv ?_; refine mv ?_; (first | refine sb ?_ | refine vl ?_); refine mv ?_; refine mv ?_; (first | refine sb ?_ | refine vl ?_); (first | refine ixB S ?_ | refine ixS2 S rfl rfl ?_); (first | refine lB S rfl rfl ?_ | refine lES2 S rfl rfl ?_ | refine lEB S ?_ | refine lH S ?_); refine mv ?_; refine mv ?_; (first | refine ixB S ?_ | refine ixS2 S rfl rfl ?_); (first | refine lB S rfl rfl ?_ | refine lES2 S rfl rfl ?_ | refine lEB S ?_ | refine lH S ?_); (first | refine ixB S ?_ | refine ixS2 S rfl rfl ?_); (first | (refine sB S rfl rfl ?_; clear S; intro h S) | (refine sE2 S rfl rfl ?_; clear S; intro h S)); (first | refine ixB S ?_ | refine ixS2 S rfl rfl ?_); (first | (refine sB S rfl rfl ?_; clear S; intro h S) | (refine sE2 S rfl rfl ?_; clear S; intro h S)); refine KO_nil ?_)))
        (try simp only [toNat_pred, toNat_succ, toNat_sum, Int.toNat_natCast] at S)
        refine ⟨(j - 1, swp n j (j - 1)), ?_, ?_, (by repeat (first | exact Ks.le_nil _ | refine Ks.le_cons rfl ?_ | refine Ks.le_int ?_))⟩
        · show j - 1 < j; omega
        · exact ⟨S, by omega, by omega, k3.step j (j - 1) ⟨by omega, by omega⟩ ⟨by omega, by omega⟩ (by omega), k4.next W (by omega) k2 (by omega) hq⟩
      · all_goals (repeat' (first | refine K_seq ?_ | refine k_cond rfl ?_ | refine K_skip ?_ | refine K_exit ?_ | refine k_block ?_ | refine K_scope ?_ | (refine K_region (id := 2) ?_; refine mv ?_; (first | refine ad ?_ | refine vl ?_); refine mv ?_; refine KO_nil ?_) | (refine K_region (id := 5) ?_; refine mv ?_; (first | refine sb ?_ | refine vl ?_); refine mv ?_; refine KO_nil ?_) | (refine K_draw (id := 6) ?_; refine mv ?_; refine mv ?_; refine mv ?_; refine mv ?_; (first | refine sb ?_ | refine vl ?_); refine mv ?_; refine mv ?_; (first | refine sb ?_ | refine vl ?_); (first | refine ixB S ?_ | refine ixS2 S rfl rfl ?_); (first | refine lB S rfl rfl ?_ | refine lES2 S rfl rfl ?_ | refine lEB S ?_ | refine lH S ?_); refine mv ?_; refine mv ?_; (first | refine ixB S ?_ | refine ixS2 S rfl rfl ?_); (first | refine lB S rfl rfl ?_ | refine lES2 S rfl rfl ?_ | refine lEB S ?_ | refine lH S ?_); (first | refine ixB S ?_ | refine ixS2 S rfl rfl ?_); (first | (refine sB S rfl rfl ?_; clear S; intro h S) | (refine sE2 S rfl rfl ?_; clear S; intro h S)); (first | refine ixB S ?_ | refine ixS2 S rfl rfl ?_); (first | (refine sB S rfl rfl ?_; clear S; intro h S) | (refine sE2 S rfl rfl ?_; clear S; intro h S)); refine KO_nil ?_)))
        refine ⟨(i + 1, n), ?_, ?_, (by repeat (first | exact Ks.le_nil _ | refine Ks.le_cons rfl ?_ | refine Ks.le_int ?_))⟩
        · show b - (i + 1) < b - i; omega
        · simp only [Nat.min_eq_left (show i + 1 ≤ b by omega)]
          exact ⟨S, by omega, k3, k4.done W (.inr hq)⟩
    · refine ⟨(i + 1, n), ?_, ?_, (by repeat (first | exact Ks.le_nil _ | refine Ks.le_cons rfl ?_ | refine Ks.le_int ?_))⟩
      · show b - (i + 1) < b - i; omega
      · simp only [Nat.min_eq_left (show i + 1 ≤ b by omega)]
        exact ⟨S, by omega, k3, k4.done W (.inl (by omega))⟩
  · rw [Nat.min_eq_right (by omega)] at h3
    refine ⟨_, rfl, ?_⟩
    exact ⟨m, h2, h3, S⟩

theorem sift_c {h0 h : AH} {rs : List Rs} {v : Value} {l : List PL} {g : Nat} {cap : List Value} {lt : PL → PL → Prop} {p : PL → Prop} (lo hi f : Nat) (S : Hs h0 h (.sl v 23 1 eP l :: rs)) (C : CmpFn h0 v rs g cap lt p) (hp : ∀ k, k < l.length → p (l.getD k default)) (W : WOrd lt) (hlo : lo ≤ hi) (hb : f + hi ≤ l.length) (hl : l.length ≤ 1000000) (hh : Heap lt f (lo + 1) hi l) :
    Fn Tryz.prog Xh 218 [v, .int .i64 lo, .int .i64 hi, .int .i64 f, cvV g cap] h (fun _ h' => ∃ l', Sw f (f + hi) l l' ∧ Heap lt f lo hi l' ∧ Hs h0 h' (.sl v 23 1 eP l' :: rs)) := by
  refine Fn_K rfl Tryz.func218 rfl rfl ?_
  all_goals (repeat' (first | refine K_seq ?_ | refine k_cond rfl ?_ | refine K_skip ?_ | refine K_exit ?_ | refine k_block ?_ | refine K_scope ?_ | (refine K_region (id := 0) ?_; refine mv ?_; refine mv ?_; refine KO_nil ?_)))
  refine k_loop (σ := Nat × List PL) (fun (root, m) h' => Hs h0 h' (.sl v 23 1 eP m :: rs) ∧ (lo ≤ root ∧ root ≤ hi) ∧ Sw f (f + hi) l m ∧ SiftI lt f lo hi root m) (fun (root, m) => hi - root) (fun (root, m) => [(0, v), (1, .int .i64 lo), (2, .int .i64 hi), (3, .int .i64 f), (4, cvV g cap), (10, .int .i64 root)]) (lo, l) (by repeat (first | exact Ks.le_nil _ | refine Ks.le_cons rfl ?_ | refine Ks.le_int ?_)) ?_ ?_
  · exact ⟨S, ⟨Nat.le_refl _, hlo⟩, .refl _, .start hh⟩
  clear S
  rintro ⟨root, m⟩ h ⟨S, h1, h2, h3⟩
  have hml := h2.len
  have hpn := h2.lift hp hb
  by_cases hc0 : 2 * root + 1 < hi
  rotate_left
  · all_goals (repeat' (first | refine K_seq ?_ | refine k_cond rfl ?_ | refine K_skip ?_ | refine K_exit ?_ | refine k_block ?_ | refine K_scope ?_ | (refine K_region (id := 1) ?_; refine mv ?_; (first | refine ml ?_ | refine vl ?_); (first | refine ad ?_ | refine vl ?_); refine mv ?_; refine KO_nil ?_) | (refine K_region (id := 2) ?_; refine mv ?_; refine mv ?_; (first | refine cT ?_ | refine cF ?_ | (refine cS ?_ ?_ <;> intro hc)) <;> (refine KO_nil ?_))))
    refine ⟨_, rfl, ?_⟩
    exact ⟨m, h2, h3.done ⟨fun q => by omega, fun q => by omega⟩, S⟩
  have e1 : (2 : Int) * (root : Int) + 1 = ((2 * root + 1 : Nat) : Int) := by omega
  have e2 : ((f : Int) + ((2 * root + 1 : Nat) : Int)).toNat = f + (2 * root + 1) := by omega
  have e3 : ((f : Int) + ((2 * root + 1 : Nat) : Int) + 1).toNat = f + (2 * root + 2) := by omega
  have e4 : ((2 * root + 1 : Nat) : Int) + 1 = ((2 * root + 2 : Nat) : Int) := by omega
  have e5 : ((f : Int) + ((2 * root + 2 : Nat) : Int)).toNat = f + (2 * root + 2) := by omega
  have fin : ∀ c : Nat, (c = 2 * root + 1 ∨ c = 2 * root + 2) → c < hi → lt (m.getD (f + root) default) (m.getD (f + c) default) → (∀ d, (d = 2 * root + 1 ∨ d = 2 * root + 2) → d < hi → ¬ lt (m.getD (f + c) default) (m.getD (f + d) default)) → SiftI lt f lo hi c (swp m (f + root) (f + c)) := fun c g1 g2 g3 g4 => h3.next W h1.1 g1 g2 (by omega) g4 g3
  have stop : ∀ c : Nat, (c = 2 * root + 1 ∨ c = 2 * root + 2) → c < hi → ¬ lt (m.getD (f + root) default) (m.getD (f + c) default) → (∀ d, (d = 2 * root + 1 ∨ d = 2 * root + 2) → d < hi → ¬ lt (m.getD (f + c) default) (m.getD (f + d) default)) → Heap lt f lo hi m := fun c g1 g2 g3 g4 =>
    h3.done ⟨fun q => W.ntr (g4 _ (.inl rfl) q) g3, fun q => W.ntr (g4 _ (.inr rfl) q) g3⟩
  refine k_block ?_
  (repeat (refine K_seq ?_)); refine K_region (id := 1) ?_; refine mv ?_; (first | refine ml ?_ | refine vl ?_); (first | refine ad ?_ | refine vl ?_); refine mv ?_; refine KO_nil ?_
  simp only [e1]
  (repeat (refine K_seq ?_)); refine K_region (id := 2) ?_; refine mv ?_; refine mv ?_; (first | refine cT ?_ | refine cF ?_ | (refine cS ?_ ?_ <;> intro hc)) <;> (refine KO_nil ?_)
  refine k_cond rfl ?_; refine K_skip ?_
  refine K_cut (σ := Nat) (fun c h' => Hs h0 h' (.sl v 23 1 eP m :: rs) ∧ (c = 2 * root + 1 ∨ c = 2 * root + 2) ∧ c < hi ∧ ∀ d, (d = 2 * root + 1 ∨ d = 2 * root + 2) → d < hi → ¬ lt (m.getD (f + c) default) (m.getD (f + d) default)) (fun c => [(0, v), (1, .int .i64 lo), (2, .int .i64 hi), (3, .int .i64 f), (4, cvV g cap), (10, .int .i64 root), (11, .int .i64 c)]) ?_ ?_
  · all_goals (repeat' (first | refine K_seq ?_ | refine k_cond rfl ?_ | refine K_skip ?_ | refine K_exit ?_ | refine k_block ?_ | refine K_scope ?_ | (refine K_draw (id := 3) ?_; refine mv ?_; (first | refine ad ?_ | refine vl ?_); refine mv ?_; (first | refine cT ?_ | refine cF ?_ | (refine cS ?_ ?_ <;> intro hc)) <;> (refine mv ?_; (first | refine off ?_ | refine mv ?_); (first | refine off ?_ | refine mv ?_); (first | refine off ?_ | refine mv ?_); (first | refine off ?_ | refine mv ?_); (first | refine off ?_ | (first | refine ad ?_ | refine vl ?_)); (first | refine off ?_ | (first | refine ixB S ?_ | refine ixS2 S rfl rfl ?_)); (first | refine off ?_ | (first | refine lB S rfl rfl ?_ | refine lES2 S rfl rfl ?_ | refine lEB S ?_ | refine lH S ?_)); (first | refine off ?_ | refine mv ?_); (first | refine off ?_ | refine mv ?_); (first | refine off ?_ | refine mv ?_); (first | refine off ?_ | (first | refine ad ?_ | refine vl ?_)); (first | refine off ?_ | (first | refine ad ?_ | refine vl ?_)); (first | refine off ?_ | (first | refine ixB S ?_ | refine ixS2 S rfl rfl ?_)); (first | refine off ?_ | (first | refine lB S rfl rfl ?_ | refine lES2 S rfl rfl ?_ | refine lEB S ?_ | refine lH S ?_)); (first | (refine off ?_; (first | refine off ?_ | (first | refine cT ?_ | refine cF ?_ | (refine cS ?_ ?_ <;> intro hc))) <;> (refine vl ?_; refine KO_nil ?_)) | skip)))))
    · (try simp only [e2, e3])
      (refine KO_call rfl rfl rfl rfl ((C _ _ _ _ S (hpn (f + (2 * root + 1)) (by omega)) (hpn (f + (2 * root + 2)) (by omega))).mono ?_); rintro _ h ⟨d, rfl, ⟨hd, hq⟩ | ⟨hd, hq⟩, x⟩) <;> (replace S := S.join0 x; clear x; (first | refine off ?_ | (first | refine cT ?_ | refine cF ?_ | (refine cS ?_ ?_ <;> intro hc))) <;> (refine vl ?_; refine KO_nil ?_))
      · all_goals (repeat' (first | refine K_seq ?_ | refine k_cond rfl ?_ | refine K_skip ?_ | refine K_exit ?_ | refine k_block ?_ | refine K_scope ?_ | (refine K_region (id := 4) ?_; refine mv ?_; (first | refine ad ?_ | refine vl ?_); refine mv ?_; refine KO_nil ?_)))
        exact ⟨2 * root + 2, ⟨S, .inr rfl, by omega, fun d q1 q2 => by rcases q1 with rfl | rfl; exact W.asym hq; exact W.irr _⟩, ((by repeat (first | exact Ks.le_nil _ | refine Ks.le_cons rfl ?_ | refine Ks.le_int ?_)))⟩
      · all_goals (repeat' (first | refine K_seq ?_ | refine k_cond rfl ?_ | refine K_skip ?_ | refine K_exit ?_ | refine k_block ?_ | refine K_scope ?_ | (refine K_region (id := 4) ?_; refine mv ?_; (first | refine ad ?_ | refine vl ?_); refine mv ?_; refine KO_nil ?_)))
        exact ⟨2 * root + 1, ⟨S, .inl rfl, by omega, fun d q1 q2 => by rcases q1 with rfl | rfl; exact W.irr _; exact hq⟩, ((by repeat (first | exact Ks.le_nil _ | refine Ks.le_cons rfl ?_ | refine Ks.le_int ?_)))⟩
    · exact ⟨2 * root + 1, ⟨S, .inl rfl, by omega, fun d q1 q2 => by rcases q1 with rfl | rfl; exact W.irr _; omega⟩, ((by repeat (first | exact Ks.le_nil _ | refine Ks.le_cons rfl ?_ | refine Ks.le_int ?_)))⟩
  clear S
  rintro c h ⟨S, g1, g2, g3⟩
  skip
  all_goals (repeat' (first | refine K_seq ?_ | refine k_cond rfl ?_ | refine K_skip ?_ | refine K_exit ?_ | refine k_block ?_ | refine K_scope ?_ | (refine K_draw (id := 5) ?_; refine mv ?_; refine mv ?_; refine mv ?_; refine mv ?_; (first | refine ad ?_ | refine vl ?_); (first | refine ixB S ?_ | refine ixS2 S rfl rfl ?_); (first | refine lB S rfl rfl ?_ | refine lES2 S rfl rfl ?_ | refine lEB S ?_ | refine lH S ?_); refine mv ?_; refine mv ?_; refine mv ?_; (first | refine ad ?_ | refine vl ?_); (first | refine ixB S ?_ | refine ixS2 S rfl rfl ?_); (first | refine lB S rfl rfl ?_ | refine lES2 S rfl rfl ?_ | refine lEB S ?_ | refine lH S ?_))))
  (try simp only [toNat_pred, toNat_succ, toNat_sum, Int.toNat_natCast])
  (refine KO_call rfl rfl rfl rfl ((C _ _ _ _ S (hpn (f + root) (by omega)) (hpn (f + c) (by omega))).mono ?_); rintro _ h ⟨d, rfl, ⟨hd, hq⟩ | ⟨hd, hq⟩, x⟩) <;> (replace S := S.join0 x; clear x; (first | refine cT ?_ | refine cF ?_ | (refine cS ?_ ?_ <;> intro hc)) <;> (refine vl ?_; refine KO_nil ?_))
  · all_goals (repeat' (first | refine K_seq ?_ | refine k_cond rfl ?_ | refine K_skip ?_ | refine K_exit ?_ | refine k_block ?_ | refine K_scope ?_ | (refine K_draw (id := 6) ?_; refine mv ?_; refine mv ?_; refine mv ?_; (first | refine ad ?_ | refine vl ?_); refine mv ?_; refine mv ?_; refine mv ?_; (first | refine ad ?_ | refine vl ?_); refine mv ?_; refine mv ?_; refine mv ?_; (first | refine ad ?_ | refine vl ?_); (first | refine ixB S ?_ | refine ixS2 S rfl rfl ?_); (first | refine lB S rfl rfl ?_ | refine lES2 S rfl rfl ?_ | refine lEB S ?_ | refine lH S ?_); refine mv ?_; refine mv ?_; refine mv ?_; (first | refine ad ?_ | refine vl ?_); (first | refine ixB S ?_ | refine ixS2 S rfl rfl ?_); (first | refine lB S rfl rfl ?_ | refine lES2 S rfl rfl ?_ | refine lEB S ?_ | refine lH S ?_); (first | refine ixB S ?_ | refine ixS2 S rfl rfl ?_); (first | (refine sB S rfl rfl ?_; clear S; intro h S) | (refine sE2 S rfl rfl ?_; clear S; intro h S)); (first | refine ixB S ?_ | refine ixS2 S rfl rfl ?_); (first | (refine sB S rfl rfl ?_; clear S; intro h S) | (refine sE2 S rfl rfl ?_; clear S; intro h S)); refine KO_nil ?_) | (refine K_region (id := 7) ?_; refine mv ?_; refine mv ?_; refine KO_nil ?_)))
    (try simp only [toNat_pred, toNat_succ, toNat_sum, Int.toNat_natCast] at S)
    refine ⟨(c, swp m (f + root) (f + c)), ?_, ?_, (by repeat (first | exact Ks.le_nil _ | refine Ks.le_cons rfl ?_ | refine Ks.le_int ?_))⟩
    · show hi - c < hi - root; omega
    · exact ⟨S, ⟨by omega, by omega⟩, h2.step _ _ ⟨by omega, by omega⟩ ⟨by omega, by omega⟩ (by omega), fin c g1 g2 hq g3⟩
  · all_goals (repeat' (first | refine K_seq ?_ | refine k_cond rfl ?_ | refine K_skip ?_ | refine K_exit ?_ | refine k_block ?_ | refine K_scope ?_ | (refine K_draw (id := 6) ?_; refine mv ?_; refine mv ?_; refine mv ?_; (first | refine ad ?_ | refine vl ?_); refine mv ?_; refine mv ?_; refine mv ?_; (first | refine ad ?_ | refine vl ?_); refine mv ?_; refine mv ?_; refine mv ?_; (first | refine ad ?_ | refine vl ?_); (first | refine ixB S ?_ | refine ixS2 S rfl rfl ?_); (first | refine lB S rfl rfl ?_ | refine lES2 S rfl rfl ?_ | refine lEB S ?_ | refine lH S ?_); refine mv ?_; refine mv ?_; refine mv ?_; (first | refine ad ?_ | refine vl ?_); (first | refine ixB S ?_ | refine ixS2 S rfl rfl ?_); (first | refine lB S rfl rfl ?_ | refine lES2 S rfl rfl ?_ | refine lEB S ?_ | refine lH S ?_); (first | refine ixB S ?_ | refine ixS2 S rfl rfl ?_); (first | (refine sB S rfl rfl ?_; clear S; intro h S) | (refine sE2 S rfl rfl ?_; clear S; intro h S)); (first | refine ixB S ?_ | refine ixS2 S rfl rfl ?_); (first | (refine sB S rfl rfl ?_; clear S; intro h S) | (refine sE2 S rfl rfl ?_; clear S; intro h S)); refine KO_nil ?_) | (refine K_region (id := 7) ?_; refine mv ?_; refine mv ?_; refine KO_nil ?_)))
    refine K_ret ⟨_, rfl, ?_⟩
    exact ⟨m, h2, stop c g1 g2 hq g3, S⟩

theorem heap_c {h0 h : AH} {rs : List Rs} {v : Value} {l : List PL} {g : Nat} {cap : List Value} {lt : PL → PL → Prop} {p : PL → Prop} (a b : Nat) (S : Hs h0 h (.sl v 23 1 eP l :: rs)) (C : CmpFn h0 v rs g cap lt p) (hp : ∀ k, k < l.length → p (l.getD k default)) (W : WOrd lt) (hab : a < b) (hb : b ≤ l.length) (hl : l.length ≤ 1000000) :
    Fn Tryz.prog Xh 181 [v, .int .i64 a, .int .i64 b, cvV g cap] h (fun _ h' => ∃ l', Sw a b l l' ∧ Srt lt a b l' ∧ Hs h0 h' (.sl v 23 1 eP l' :: rs)) := by
  refine Fn_K rfl Tryz.func181 rfl rfl ?_
  all_goals (repeat' (first | refine K_seq ?_ | refine k_cond rfl ?_ | refine K_skip ?_ | refine K_exit ?_ | refine k_block ?_ | refine K_scope ?_ | (refine K_region (id := 0) ?_; refine mv ?_; refine mv ?_; refine KO_nil ?_) | (refine K_region (id := 1) ?_; refine mv ?_; refine KO_nil ?_) | (refine K_region (id := 2) ?_; refine mv ?_; refine mv ?_; (first | refine sb ?_ | refine vl ?_); refine mv ?_; refine KO_nil ?_) | (refine K_region (id := 3) ?_; refine mv ?_; (first | refine sb ?_ | refine vl ?_); (first | refine qu ?_ | refine vl ?_); refine mv ?_; refine KO_nil ?_)))
  have e1 : ((b : Int) - (a : Int) - 1) / 2 = (((b - a - 1) / 2 : Nat) : Int) := by omega
  refine k_loop (σ := Nat × List PL) (fun (i, m) h' => Hs h0 h' (.sl v 23 1 eP m :: rs) ∧ i ≤ b - a ∧ Sw a b l m ∧ Heap lt a i (b - a) m) (fun (i, m) => i) (fun (i, m) => [(0, v), (1, .int .i64 a), (2, .int .i64 b), (3, cvV g cap), (8, .int .i64 a), (9, .int .i64 0), (10, .int .i64 (b - a : Nat)), (11, .int .i64 ((i : Int) - 1))]) ((b - a - 1) / 2 + 1, l) (by repeat (first | exact Ks.le_nil _ | refine Ks.le_cons rfl ?_ | refine Ks.le_int ?_)) ?_ ?_
  · exact ⟨S, by omega, .refl _, fun k hk => ⟨fun q => by omega, fun q => by omega⟩⟩
  clear S
  rintro ⟨i, m⟩ h ⟨S, h1, h2, h3⟩
  have hml := h2.len
  have hpn := h2.lift hp hb
  all_goals (repeat' (first | refine K_seq ?_ | refine k_cond rfl ?_ | refine K_skip ?_ | refine K_exit ?_ | refine k_block ?_ | refine K_scope ?_ | (refine K_region (id := 4) ?_; refine mv ?_; (first | refine cT ?_ | refine cF ?_ | (refine cS ?_ ?_ <;> intro hc)) <;> (refine KO_nil ?_))))
  · have e2 : (i : Int) - 1 = ((i - 1 : Nat) : Int) := by omega
    have h4 : Heap lt a (i - 1 + 1) (b - a) m := by rw [Nat.sub_add_cancel (by omega)]; exact h3
    refine K_region (id := 6) ?_
    (refine mv ?_; refine mv ?_; refine mv ?_; refine mv ?_; refine mv ?_; skip)
    simp only [e2]
    (refine KO_fn rfl rfl rfl rfl rfl ((sift_c (i - 1) (b - a) a S C hpn W (by omega) (by omega) (by omega) h4).mono ?_); rintro _ h ⟨l2, g1, g2, S2⟩) <;> (replace S := S2; clear S2; refine KO_nil ?_)
    rw [show a + (b - a) = b by omega] at g1
    all_goals (repeat' (first | refine K_seq ?_ | refine k_cond rfl ?_ | refine K_skip ?_ | refine K_exit ?_ | refine k_block ?_ | refine K_scope ?_ | (refine K_region (id := 4) ?_; refine mv ?_; (first | refine cT ?_ | refine cF ?_ | (refine cS ?_ ?_ <;> intro hc)) <;> (refine KO_nil ?_)) | (refine K_region (id := 5) ?_; refine mv ?_; (first | refine sb ?_ | refine vl ?_); refine mv ?_; refine KO_nil ?_) | (refine K_region (id := 6) ?_; refine mv ?_; refine mv ?_; refine mv ?_; refine mv ?_; refine mv ?_; skip) | (refine K_region (id := 7) ?_; refine mv ?_; (first | refine sb ?_ | refine vl ?_); refine mv ?_; refine KO_nil ?_)))
    refine ⟨(i - 1, l2), ?_, ?_, (by repeat (first | exact Ks.le_nil _ | refine Ks.le_cons rfl ?_ | refine Ks.le_int ?_))⟩
    · show i - 1 < i; omega
    · exact ⟨S, by omega, h2.trans g1, g2⟩
  obtain rfl : i = 0 := by omega
  all_goals (repeat' (first | refine K_seq ?_ | refine k_cond rfl ?_ | refine K_skip ?_ | refine K_exit ?_ | refine k_block ?_ | refine K_scope ?_ | (refine K_region (id := 7) ?_; refine mv ?_; (first | refine sb ?_ | refine vl ?_); refine mv ?_; refine KO_nil ?_)))
  refine k_loop (σ := Nat × List PL) (fun (i, m) h' => Hs h0 h' (.sl v 23 1 eP m :: rs) ∧ i ≤ b - a ∧ Sw a b l m ∧ HeapI lt a i (b - a) m) (fun (i, m) => i) (fun (i, m) => [(0, v), (1, .int .i64 a), (2, .int .i64 b), (3, cvV g cap), (8, .int .i64 a), (9, .int .i64 0), (10, .int .i64 (b - a : Nat)), (12, .int .i64 ((i : Int) - 1))]) (b - a, m) (by repeat (first | exact Ks.le_nil _ | refine Ks.le_cons rfl ?_ | refine Ks.le_int ?_)) ?_ ?_
  · exact ⟨S, Nat.le_refl _, h2, h3, fun p q q1 q2 q3 => by omega⟩
  clear S h1 h2 h3 hml
  rintro ⟨i, m⟩ h ⟨S, h1, h2, h3⟩
  have hml := h2.len
  have hpn := h2.lift hp hb
  all_goals (repeat' (first | refine K_seq ?_ | refine k_cond rfl ?_ | refine K_skip ?_ | refine K_exit ?_ | refine k_block ?_ | refine K_scope ?_ | (refine K_region (id := 8) ?_; refine mv ?_; (first | refine cT ?_ | refine cF ?_ | (refine cS ?_ ?_ <;> intro hc)) <;> (refine KO_nil ?_))))
  · have e2 : (i : Int) - 1 = ((i - 1 : Nat) : Int) := by omega
    obtain ⟨k, rfl⟩ : ∃ k, i = k + 1 := ⟨i - 1, by omega⟩
    all_goals (repeat' (first | refine K_seq ?_ | refine k_cond rfl ?_ | refine K_skip ?_ | refine K_exit ?_ | refine k_block ?_ | refine K_scope ?_ | (refine K_draw (id := 10) ?_; refine mv ?_; refine mv ?_; refine mv ?_; refine mv ?_; refine mv ?_; (first | refine ad ?_ | refine vl ?_); refine mv ?_; refine mv ?_; refine mv ?_; (first | refine ad ?_ | refine vl ?_); (first | refine ixB S ?_ | refine ixS2 S rfl rfl ?_); (first | refine lB S rfl rfl ?_ | refine lES2 S rfl rfl ?_ | refine lEB S ?_ | refine lH S ?_); refine mv ?_; refine mv ?_; (first | refine ixB S ?_ | refine ixS2 S rfl rfl ?_); (first | refine lB S rfl rfl ?_ | refine lES2 S rfl rfl ?_ | refine lEB S ?_ | refine lH S ?_); (first | refine ixB S ?_ | refine ixS2 S rfl rfl ?_); (first | (refine sB S rfl rfl ?_; clear S; intro h S) | (refine sE2 S rfl rfl ?_; clear S; intro h S)); (first | refine ixB S ?_ | refine ixS2 S rfl rfl ?_); (first | (refine sB S rfl rfl ?_; clear S; intro h S) | (refine sE2 S rfl rfl ?_; clear S; intro h S)); refine KO_nil ?_)))
    refine K_region (id := 11) ?_
    (refine mv ?_; refine mv ?_; refine mv ?_; refine mv ?_; refine mv ?_; skip)
    simp only [Nat.add_sub_cancel] at e2
    simp only [e2, toNat_sum, Int.toNat_natCast] at S ⊢
    replace S : Hs h0 h (.sl v 23 1 eP (swp m a (a + k)) :: rs) := S
    have s1 : Sw a b l (swp m a (a + k)) := h2.step _ _ ⟨by omega, by omega⟩ ⟨by omega, by omega⟩ (by omega)
    have hsl := s1.len
    have hp2 := s1.lift hp hb
    (refine KO_fn rfl rfl rfl rfl rfl ((sift_c 0 k a S C hp2 W (by omega) (by omega) (by omega) (h3.1.pop (by omega))).mono ?_); rintro _ h ⟨l2, g1, g2, S2⟩) <;> (replace S := S2; clear S2; refine KO_nil ?_)
    all_goals (repeat' (first | refine K_seq ?_ | refine k_cond rfl ?_ | refine K_skip ?_ | refine K_exit ?_ | refine k_block ?_ | refine K_scope ?_ | (refine K_region (id := 8) ?_; refine mv ?_; (first | refine cT ?_ | refine cF ?_ | (refine cS ?_ ?_ <;> intro hc)) <;> (refine KO_nil ?_)) | (refine K_region (id := 9) ?_; refine mv ?_; (first | refine sb ?_ | refine vl ?_); refine mv ?_; refine KO_nil ?_) | (refine K_draw (id := 10) ?_; refine mv ?_; refine mv ?_; refine mv ?_; refine mv ?_; refine mv ?_; (first | refine ad ?_ | refine vl ?_); refine mv ?_; refine mv ?_; refine mv ?_; (first | refine ad ?_ | refine vl ?_); (first | refine ixB S ?_ | refine ixS2 S rfl rfl ?_); (first | refine lB S rfl rfl ?_ | refine lES2 S rfl rfl ?_ | refine lEB S ?_ | refine lH S ?_); refine mv ?_; refine mv ?_; (first | refine ixB S ?_ | refine ixS2 S rfl rfl ?_); (first | refine lB S rfl rfl ?_ | refine lES2 S rfl rfl ?_ | refine lEB S ?_ | refine lH S ?_); (first | refine ixB S ?_ | refine ixS2 S rfl rfl ?_); (first | (refine sB S rfl rfl ?_; clear S; intro h S) | (refine sE2 S rfl rfl ?_; clear S; intro h S)); (first | refine ixB S ?_ | refine ixS2 S rfl rfl ?_); (first | (refine sB S rfl rfl ?_; clear S; intro h S) | (refine sE2 S rfl rfl ?_; clear S; intro h S)); refine KO_nil ?_) | (refine K_region (id := 11) ?_; refine mv ?_; refine mv ?_; refine mv ?_; refine mv ?_; refine mv ?_; skip)))
    refine ⟨(k, l2), ?_, ?_, (by repeat (first | exact Ks.le_nil _ | refine Ks.le_cons rfl ?_ | refine Ks.le_int ?_))⟩
    · show k < k + 1; omega
    · exact ⟨S, by omega, s1.trans (g1.mono (Nat.le_refl _) (by omega) (by omega)), h3.pop W (by omega) (by omega) g1 g2⟩
  obtain rfl : i = 0 := by omega
  refine ⟨_, rfl, ?_⟩
  exact ⟨m, h2, h3.done (by omega), S⟩

theorem rev_c {h0 h : AH} {rs : List Rs} {v : Value} {l : List PL} {g : Nat} {cap : List Value} {lt : PL → PL → Prop} {p : PL → Prop} (a b : Nat) (S : Hs h0 h (.sl v 23 1 eP l :: rs)) (C : CmpFn h0 v rs g cap lt p) (hp : ∀ k, k < l.length → p (l.getD k default)) (W : WOrd lt) (hab : a < b) (hb : b ≤ l.length) (hl : l.length ≤ 1000000) :
    Fn Tryz.prog Xh 184 [v, .int .i64 a, .int .i64 b, cvV g cap] h (fun _ h' => ∃ l', Sw a b l l' ∧ Hs h0 h' (.sl v 23 1 eP l' :: rs)) := by
  refine Fn_K rfl Tryz.func184 rfl rfl ?_
  all_goals (repeat' (first | refine K_seq ?_ | refine k_cond rfl ?_ | refine K_skip ?_ | refine K_exit ?_ | refine k_block ?_ | refine K_scope ?_ | (refine K_region (id := 0) ?_; refine mv ?_; refine mv ?_; refine KO_nil ?_) | (refine K_region (id := 1) ?_; refine mv ?_; (first | refine sb ?_ | refine vl ?_); refine mv ?_; refine KO_nil ?_)))
  refine k_loop (σ := Nat × Nat × List PL) (fun (i, j, m) h' => Hs h0 h' (.sl v 23 1 eP m :: rs) ∧ a ≤ i ∧ j < b ∧ Sw a b l m) (fun (i, j, m) => j - i) (fun (i, j, m) => [(0, v), (1, .int .i64 a), (2, .int .i64 b), (3, cvV g cap), (8, .int .i64 i), (9, .int .i64 j)]) (a, b - 1, l) (by repeat (first | exact Ks.le_nil _ | refine Ks.le_cons rfl ?_ | refine Ks.le_int ?_)) ?_ ?_
  · exact ⟨S, Nat.le_refl _, by omega, .refl _⟩
  clear S
  rintro ⟨i, j, m⟩ h ⟨S, h1, h2, h3⟩
  have hml := h3.len
  all_goals (repeat' (first | refine K_seq ?_ | refine k_cond rfl ?_ | refine K_skip ?_ | refine K_exit ?_ | refine k_block ?_ | refine K_scope ?_ | (refine K_region (id := 2) ?_; refine mv ?_; refine mv ?_; (first | refine cT ?_ | refine cF ?_ | (refine cS ?_ ?_ <;> intro hc)) <;> (refine KO_nil ?_)) | (refine K_draw (id := 3) ?_; refine mv ?_; refine mv ?_; refine mv ?_; refine mv ?_; refine mv ?_; refine mv ?_; (first | refine ixB S ?_ | refine ixS2 S rfl rfl ?_); (first | refine lB S rfl rfl ?_ | refine lES2 S rfl rfl ?_ | refine lEB S ?_ | refine lH S ?_); refine mv ?_; refine mv ?_; (first | refine ixB S ?_ | refine ixS2 S rfl rfl ?_); (first | refine lB S rfl rfl ?_ | refine lES2 S rfl rfl ?_ | refine lEB S ?_ | refine lH S ?_); (first | refine ixB S ?_ | refine ixS2 S rfl rfl ?_); (first | (refine sB S rfl rfl ?_; clear S; intro h S) | (refine sE2 S rfl rfl ?_; clear S; intro h S)); (first | refine ixB S ?_ | refine ixS2 S rfl rfl ?_); (first | (refine sB S rfl rfl ?_; clear S; intro h S) | (refine sE2 S rfl rfl ?_; clear S; intro h S)); refine KO_nil ?_) | (refine K_region (id := 4) ?_; refine mv ?_; (first | refine ad ?_ | refine vl ?_); refine mv ?_; refine KO_nil ?_) | (refine K_region (id := 5) ?_; refine mv ?_; (first | refine sb ?_ | refine vl ?_); refine mv ?_; refine KO_nil ?_)))
  · (try simp only [toNat_pred, toNat_succ, toNat_sum, Int.toNat_natCast] at S)
    refine ⟨(i + 1, j - 1, swp m i j), ?_, ?_, (by repeat (first | exact Ks.le_nil _ | refine Ks.le_cons rfl ?_ | refine Ks.le_int ?_))⟩
    · show j - 1 - (i + 1) < j - i; omega
    · exact ⟨S, by omega, by omega, h3.step _ _ ⟨by omega, by omega⟩ ⟨by omega, by omega⟩ (by omega)⟩
  · refine ⟨_, rfl, ?_⟩
    exact ⟨m, h3, S⟩

theorem ord2_c {h0 h : AH} {rs : List Rs} {v : Value} {l : List PL} {g : Nat} {cap : List Value} {lt : PL → PL → Prop} {p : PL → Prop} {bs : Nat} {s : Int} (x y : Nat) (S : Hs h0 h (.blk bs [.int .i64 s] 3 :: .sl v 23 1 eP l :: rs)) (C : CmpFn h0 v rs g cap lt p) (hp : ∀ k, k < l.length → p (l.getD k default)) (W : WOrd lt) (hx : x < l.length) (hy : y < l.length) (hl : l.length ≤ 1000000) (hs : 0 ≤ s ∧ s ≤ 100) :
    Fn Tryz.prog Xh 234 [v, .int .i64 x, .int .i64 y, .pointer (some ⟨bs, 0, none⟩), cvV g cap] h (fun r h' => ∃ (p q : Nat) (s' : Int), r = .tuple #[.int .i64 p, .int .i64 q] ∧ ((p = x ∧ q = y) ∨ (p = y ∧ q = x)) ∧ (0 ≤ s' ∧ s' ≤ s + 1) ∧ Hs h0 h' (.blk bs [.int .i64 s'] 3 :: .sl v 23 1 eP l :: rs)) := by
  refine Fn_K rfl Tryz.func234 rfl rfl ?_
  all_goals (repeat' (first | refine K_seq ?_ | refine k_cond rfl ?_ | refine K_skip ?_ | refine K_exit ?_ | refine k_block ?_ | refine K_scope ?_ | (refine K_region (id := 0) ?_; refine mv ?_; refine mv ?_; refine KO_nil ?_) | (refine K_draw (id := 1) ?_; refine mv ?_; refine mv ?_; refine mv ?_; (first | refine ixB S ?_ | refine ixS2 S rfl rfl ?_); (first | refine lB S rfl rfl ?_ | refine lES2 S rfl rfl ?_ | refine lEB S ?_ | refine lH S ?_); refine mv ?_; refine mv ?_; (first | refine ixB S ?_ | refine ixS2 S rfl rfl ?_); (first | refine lB S rfl rfl ?_ | refine lES2 S rfl rfl ?_ | refine lEB S ?_ | refine lH S ?_))))
  (try (try simp only [toNat_pred, toNat_succ, toNat_sum, Int.toNat_natCast]))
  (refine KO_call rfl rfl rfl rfl ((C _ _ _ _ S.tail (hp y (by omega)) (hp x (by omega))).mono ?_); rintro _ h ⟨d, rfl, ⟨hd, hq⟩ | ⟨hd, hq⟩, x⟩) <;> (replace S := S.join0 x; clear x; (first | refine cT ?_ | refine cF ?_ | (refine cS ?_ ?_ <;> intro hc)) <;> (refine KO_nil ?_))
  · all_goals (repeat' (first | refine K_seq ?_ | refine k_cond rfl ?_ | refine K_skip ?_ | refine K_exit ?_ | refine k_block ?_ | refine K_scope ?_ | (refine K_region (id := 2) ?_; refine mv ?_; refine vl ?_; (first | refine lB S rfl rfl ?_ | refine lES2 S rfl rfl ?_ | refine lEB S ?_ | refine lH S ?_); (first | refine ad ?_ | refine vl ?_); refine vl ?_; (first | (refine sB S rfl rfl ?_; clear S; intro h S) | (refine sE2 S rfl rfl ?_; clear S; intro h S)); refine KO_nil ?_) | (refine K_region (id := 3) ?_; refine mv ?_; refine mv ?_; refine mv ?_; refine mv ?_; refine KO_nil ?_) | (refine K_region (id := 4) ?_; refine mv ?_; refine mv ?_; refine mv ?_; refine mv ?_; refine KO_nil ?_)))
    refine K_ret ⟨_, rfl, ?_⟩
    exact ⟨y, x, s + 1, rfl, .inr ⟨rfl, rfl⟩, by omega, S⟩
  · all_goals (repeat' (first | refine K_seq ?_ | refine k_cond rfl ?_ | refine K_skip ?_ | refine K_exit ?_ | refine k_block ?_ | refine K_scope ?_ | (refine K_region (id := 2) ?_; refine mv ?_; refine vl ?_; (first | refine lB S rfl rfl ?_ | refine lES2 S rfl rfl ?_ | refine lEB S ?_ | refine lH S ?_); (first | refine ad ?_ | refine vl ?_); refine vl ?_; (first | (refine sB S rfl rfl ?_; clear S; intro h S) | (refine sE2 S rfl rfl ?_; clear S; intro h S)); refine KO_nil ?_) | (refine K_region (id := 3) ?_; refine mv ?_; refine mv ?_; refine mv ?_; refine mv ?_; refine KO_nil ?_) | (refine K_region (id := 4) ?_; refine mv ?_; refine mv ?_; refine mv ?_; refine mv ?_; refine KO_nil ?_)))
    refine K_ret ⟨_, rfl, ?_⟩
    exact ⟨x, y, s, rfl, .inl ⟨rfl, rfl⟩, by omega, S⟩

theorem med_c {h0 h : AH} {rs : List Rs} {v : Value} {l : List PL} {g : Nat} {cap : List Value} {lt : PL → PL → Prop} {p : PL → Prop} {bs : Nat} {s : Int} (x y z : Nat) (S : Hs h0 h (.blk bs [.int .i64 s] 3 :: .sl v 23 1 eP l :: rs)) (C : CmpFn h0 v rs g cap lt p) (hp : ∀ k, k < l.length → p (l.getD k default)) (W : WOrd lt) (hx : x < l.length) (hy : y < l.length) (hz : z < l.length) (hl : l.length ≤ 1000000) (hs : 0 ≤ s ∧ s ≤ 90) :
    Fn Tryz.prog Xh 222 [v, .int .i64 x, .int .i64 y, .int .i64 z, .pointer (some ⟨bs, 0, none⟩), cvV g cap] h (fun r h' => ∃ (p : Nat) (s' : Int), r = .int .i64 p ∧ (p = x ∨ p = y ∨ p = z) ∧ (0 ≤ s' ∧ s' ≤ s + 3) ∧ Hs h0 h' (.blk bs [.int .i64 s'] 3 :: .sl v 23 1 eP l :: rs)) := by
  refine Fn_K rfl Tryz.func222 rfl rfl ?_
  all_goals (repeat' (first | refine K_seq ?_ | refine k_cond rfl ?_ | refine K_skip ?_ | refine K_exit ?_ | refine k_block ?_ | refine K_scope ?_ | (refine K_region (id := 0) ?_; refine mv ?_; refine KO_nil ?_) | (refine K_region (id := 1) ?_; refine mv ?_; refine mv ?_; refine mv ?_; refine mv ?_; refine mv ?_; skip)))
  (refine KO_fn rfl rfl rfl rfl rfl ((ord2_c x y S C hp W hx hy hl (by omega)).mono ?_); rintro _ h ⟨p1, q1, s1, rfl, e1, e2, S2⟩) <;> (replace S := S2; clear S2; refine mv ?_; refine vl ?_; refine vl ?_; refine mv ?_; refine mv ?_; refine KO_nil ?_)
  all_goals (repeat' (first | refine K_seq ?_ | refine k_cond rfl ?_ | refine K_skip ?_ | refine K_exit ?_ | refine k_block ?_ | refine K_scope ?_ | (refine K_region (id := 2) ?_; refine mv ?_; refine mv ?_; refine mv ?_; refine mv ?_; refine mv ?_; skip)))
  have b1 : p1 < l.length ∧ q1 < l.length := by omega
  (refine KO_fn rfl rfl rfl rfl rfl ((ord2_c q1 z S C hp W b1.2 hz hl (by omega)).mono ?_); rintro _ h ⟨p2, q2, s2, rfl, e3, e4, S2⟩) <;> (replace S := S2; clear S2; refine mv ?_; refine vl ?_; refine vl ?_; refine mv ?_; refine mv ?_; refine KO_nil ?_)
  all_goals (repeat' (first | refine K_seq ?_ | refine k_cond rfl ?_ | refine K_skip ?_ | refine K_exit ?_ | refine k_block ?_ | refine K_scope ?_ | (refine K_region (id := 3) ?_; refine mv ?_; refine mv ?_; refine mv ?_; refine mv ?_; refine mv ?_; skip)))
  have b2 : p2 < l.length := by omega
  (refine KO_fn rfl rfl rfl rfl rfl ((ord2_c p1 p2 S C hp W b1.1 b2 hl (by omega)).mono ?_); rintro _ h ⟨p3, q3, s3, rfl, e5, e6, S2⟩) <;> (replace S := S2; clear S2; refine mv ?_; refine vl ?_; refine vl ?_; refine mv ?_; refine mv ?_; refine KO_nil ?_)
  all_goals (repeat' (first | refine K_seq ?_ | refine k_cond rfl ?_ | refine K_skip ?_ | refine K_exit ?_ | refine k_block ?_ | refine K_scope ?_ | (refine K_region (id := 4) ?_; refine mv ?_; refine mv ?_; refine KO_nil ?_)))
  refine K_ret ⟨_, rfl, ?_⟩
  exact ⟨q3, s3, rfl, by omega, by omega, S⟩

theorem piv_c {h0 h : AH} {rs : List Rs} {v : Value} {l : List PL} {g : Nat} {cap : List Value} {lt : PL → PL → Prop} {p : PL → Prop} (a b : Nat) (S : Hs h0 h (.sl v 23 1 eP l :: rs)) (C : CmpFn h0 v rs g cap lt p) (hp : ∀ k, k < l.length → p (l.getD k default)) (W : WOrd lt) (hab : 12 < b - a ∧ b - a < 50) (hb : b ≤ l.length) (hl : l.length ≤ 1000000) :
    Fn Tryz.prog Xh 183 [v, .int .i64 a, .int .i64 b, cvV g cap] h (fun r h' => ∃ (q : Nat) (t : Int), r = .tuple #[.int .i64 q, .int .i64 t] ∧ (a ≤ q ∧ q < b) ∧ Hs h0 h' (.sl v 23 1 eP l :: rs)) := by
  refine Fn_K rfl Tryz.func183 rfl rfl ?_
  all_goals (repeat' (first | refine K_seq ?_ | refine k_cond rfl ?_ | refine K_skip ?_ | refine K_exit ?_ | refine k_block ?_ | refine K_scope ?_ | (refine K_region (id := 0) ?_; refine mv ?_; refine mv ?_; refine KO_nil ?_) | (refine K_region (id := 1) ?_; refine mv ?_; refine mv ?_; (first | refine sb ?_ | refine vl ?_); refine mv ?_; refine KO_nil ?_) | (refine K_region (id := 2) ?_; (refine al S ?_; clear S; intro b h S); refine KO_nil ?_) | (refine K_region (id := 3) ?_; refine mv ?_; refine mv ?_; (first | refine qu ?_ | refine vl ?_); (first | refine ml ?_ | refine vl ?_); (first | refine ad ?_ | refine vl ?_); refine mv ?_; refine KO_nil ?_) | (refine K_region (id := 4) ?_; refine mv ?_; refine mv ?_; (first | refine qu ?_ | refine vl ?_); (first | refine ml ?_ | refine vl ?_); (first | refine ad ?_ | refine vl ?_); refine mv ?_; refine KO_nil ?_) | (refine K_region (id := 5) ?_; refine mv ?_; refine mv ?_; (first | refine qu ?_ | refine vl ?_); (first | refine ml ?_ | refine vl ?_); (first | refine ad ?_ | refine vl ?_); refine mv ?_; refine KO_nil ?_) | (refine K_region (id := 6) ?_; refine mv ?_; (first | refine cT ?_ | refine cF ?_ | (refine cS ?_ ?_ <;> intro hc)) <;> (refine KO_nil ?_)) | (refine K_region (id := 7) ?_; refine mv ?_; (first | refine cT ?_ | refine cF ?_ | (refine cS ?_ ?_ <;> intro hc)) <;> (refine KO_nil ?_)) | (refine K_region (id := 8) ?_; refine mv ?_; refine mv ?_; refine mv ?_; skip) | (refine K_region (id := 11) ?_; refine mv ?_; refine mv ?_; refine mv ?_; refine mv ?_; refine mv ?_; skip) | (refine K_region (id := 12) ?_; (first | refine lB S rfl rfl ?_ | refine lES2 S rfl rfl ?_ | refine lEB S ?_ | refine lH S ?_); refine KO_nil ?_) | (refine K_region (id := 13) ?_; refine mv ?_; refine mv ?_; refine mv ?_; refine KO_nil ?_) | (refine K_region (id := 14) ?_; (first | refine cT ?_ | refine cF ?_ | (refine cS ?_ ?_ <;> intro hc)) <;> (refine mv ?_; refine KO_nil ?_)) | (refine K_region (id := 15) ?_; refine mv ?_; refine mv ?_; refine mv ?_; refine KO_nil ?_) | (refine K_region (id := 16) ?_; (first | refine cT ?_ | refine cF ?_ | (refine cS ?_ ?_ <;> intro hc)) <;> (refine mv ?_; refine KO_nil ?_)) | (refine K_region (id := 17) ?_; refine mv ?_; refine mv ?_; refine mv ?_; refine KO_nil ?_)))
  obtain ⟨bs, hnm⟩ : ∃ x, x = b := ⟨_, rfl⟩; subst hnm
  have e1 : (a : Int) + ((b : Int) - (a : Int)) / 4 * 1 = ((a + (b - a) / 4 * 1 : Nat) : Int) := by omega
  have e2 : (a : Int) + ((b : Int) - (a : Int)) / 4 * 2 = ((a + (b - a) / 4 * 2 : Nat) : Int) := by omega
  have e3 : (a : Int) + ((b : Int) - (a : Int)) / 4 * 3 = ((a + (b - a) / 4 * 3 : Nat) : Int) := by omega
  simp only [e1, e2, e3]
  (refine KO_fn rfl rfl rfl rfl rfl ((med_c _ _ _ S C hp W (by omega) (by omega) (by omega) hl (by omega)).mono ?_); rintro _ h ⟨q, s, rfl, g1, g2, S2⟩) <;> (replace S := S2; clear S2; refine mv ?_; refine KO_nil ?_)
  all_goals (repeat' (first | refine K_seq ?_ | refine k_cond rfl ?_ | refine K_skip ?_ | refine K_exit ?_ | refine k_block ?_ | refine K_scope ?_ | (refine K_region (id := 12) ?_; (first | refine lB S rfl rfl ?_ | refine lES2 S rfl rfl ?_ | refine lEB S ?_ | refine lH S ?_); refine KO_nil ?_) | (refine K_region (id := 13) ?_; refine mv ?_; refine mv ?_; refine mv ?_; refine KO_nil ?_) | (refine K_region (id := 14) ?_; (first | refine cT ?_ | refine cF ?_ | (refine cS ?_ ?_ <;> intro hc)) <;> (refine mv ?_; refine KO_nil ?_)) | (refine K_region (id := 15) ?_; refine mv ?_; refine mv ?_; refine mv ?_; refine KO_nil ?_) | (refine K_region (id := 16) ?_; (first | refine cT ?_ | refine cF ?_ | (refine cS ?_ ?_ <;> intro hc)) <;> (refine mv ?_; refine KO_nil ?_)) | (refine K_region (id := 17) ?_; refine mv ?_; refine mv ?_; refine mv ?_; refine KO_nil ?_)))
  all_goals (refine K_ret ⟨_, rfl, ?_⟩)
  all_goals exact ⟨q, _, rfl, by omega, S.tail⟩

theorem brk_c {h0 h : AH} {rs : List Rs} {v : Value} {l : List PL} {g : Nat} {cap : List Value} {lt : PL → PL → Prop} {p : PL → Prop} (a b : Nat) (S : Hs h0 h (.sl v 23 1 eP l :: rs)) (C : CmpFn h0 v rs g cap lt p) (hp : ∀ k, k < l.length → p (l.getD k default)) (W : WOrd lt) (hab : 12 < b - a ∧ b - a < 50) (hb : b ≤ l.length) (hl : l.length ≤ 1000000) :
    Fn Tryz.prog Xh 182 [v, .int .i64 a, .int .i64 b, cvV g cap] h (fun _ h' => ∃ l', Sw a b l l' ∧ Hs h0 h' (.sl v 23 1 eP l' :: rs)) := by
  have e1 : (b : Int) - (a : Int) = ((b - a : Nat) : Int) := by omega
  refine Fn_K rfl Tryz.func182 rfl rfl ?_
  all_goals (repeat' (first | refine K_seq ?_ | refine k_cond rfl ?_ | refine K_skip ?_ | refine K_exit ?_ | refine k_block ?_ | refine K_scope ?_ | (refine K_region (id := 0) ?_; refine mv ?_; refine mv ?_; (first | refine sb ?_ | refine vl ?_); refine mv ?_; refine KO_nil ?_) | (refine K_region (id := 1) ?_; refine mv ?_; (first | refine cT ?_ | refine cF ?_ | (refine cS ?_ ?_ <;> intro hc)) <;> (refine KO_nil ?_)) | (refine K_region (id := 2) ?_; refine mv ?_; (first | refine cW ?_ | refine vl ?_); (refine al S ?_; clear S; intro b h S); (first | (refine sB S rfl rfl ?_; clear S; intro h S) | (refine sE2 S rfl rfl ?_; clear S; intro h S)); refine KO_nil ?_) | (refine K_region (id := 3) ?_; refine mv ?_)))
  obtain ⟨bs, hnm⟩ : ∃ x, x = b := ⟨_, rfl⟩; subst hnm
  simp only [e1]
  (refine KO_fn rfl rfl rfl rfl rfl ((npot_ok S.wf (b - a) (by omega)).mono ?_); rintro _ h ⟨P, rfl, hP1, hP2, x⟩) <;> (replace S := S.join0 x; clear x; refine mv ?_; refine KO_nil ?_)
  all_goals (repeat' (first | refine K_seq ?_ | refine k_cond rfl ?_ | refine K_skip ?_ | refine K_exit ?_ | refine k_block ?_ | refine K_scope ?_ | (refine K_region (id := 4) ?_; refine mv ?_; refine mv ?_; (first | refine qu ?_ | refine vl ?_); (first | refine ml ?_ | refine vl ?_); (first | refine ad ?_ | refine vl ?_); (first | refine sb ?_ | refine vl ?_); refine mv ?_; refine KO_nil ?_)))
  obtain ⟨w0, hw0⟩ : ∃ w0 : Int, w0 = (b : Int) - (a : Int) := ⟨_, rfl⟩
  refine k_loop (σ := Nat × Int × List PL) (fun (i, z, m) h' => Hs h0 h' (.blk bs [.int .u64 z] 188 :: .sl v 23 1 eP m :: rs) ∧ (0 ≤ z ∧ z ≤ 18446744073709551615) ∧ a + (b - a) / 4 * 2 - 1 ≤ i ∧ i ≤ a + (b - a) / 4 * 2 + 2 ∧ Sw a b l m) (fun (i, z, m) => a + (b - a) / 4 * 2 + 2 - i) (fun (i, z, m) => [(0, v), (1, .int .i64 a), (2, .int .i64 b), (3, cvV g cap), (8, .int .i64 (b - a : Nat)), (9, .pointer (some ⟨bs, 0, none⟩)), (10, .int .u64 P), (11, .int .i64 i)]) (a + (b - a) / 4 * 2 - 1, w0, l) (by repeat (first | exact Ks.le_nil _ | refine Ks.le_cons rfl ?_ | refine Ks.le_int ?_)) ?_ ?_
  · exact ⟨by rw [hw0]; exact S, by omega, by omega, by omega, .refl _⟩
  clear S
  rintro ⟨i, z, m⟩ h ⟨S, h1, h2, h3, h4⟩
  have hml := h4.len
  all_goals (repeat' (first | refine K_seq ?_ | refine k_cond rfl ?_ | refine K_skip ?_ | refine K_exit ?_ | refine k_block ?_ | refine K_scope ?_ | (refine K_region (id := 5) ?_; refine mv ?_; refine mv ?_; refine mv ?_; (first | refine qu ?_ | refine vl ?_); (first | refine ml ?_ | refine vl ?_); (first | refine ad ?_ | refine vl ?_); (first | refine ad ?_ | refine vl ?_); (first | refine cT ?_ | refine cF ?_ | (refine cS ?_ ?_ <;> intro hc)) <;> (refine KO_nil ?_)) | (refine K_region (id := 7) ?_; skip)))
  · (refine KO_fn rfl rfl rfl rfl rfl ((xnext_ok S h1).mono ?_); rintro _ h ⟨y, rfl, hy, S2⟩) <;> (replace S := S2; clear S2; refine mv ?_; refine sW ?_; (refine aM ?_; intro r1 hr1 hr2); (first | refine cI ?_ | refine vl ?_); refine mv ?_; refine KO_nil ?_)
    obtain ⟨k, rfl⟩ := Int.eq_ofNat_of_zero_le hr1
    all_goals (repeat' (first | refine K_seq ?_ | refine k_cond rfl ?_ | refine K_skip ?_ | refine K_exit ?_ | refine k_block ?_ | refine K_scope ?_ | (refine K_region (id := 8) ?_; refine mv ?_; refine mv ?_; (first | refine cT ?_ | refine cF ?_ | (refine cS ?_ ?_ <;> intro hc)) <;> (refine KO_nil ?_)) | (refine K_region (id := 9) ?_; refine mv ?_; refine mv ?_; (first | refine sb ?_ | refine vl ?_); refine mv ?_; refine KO_nil ?_)))
    · have e5 : (k : Int) - ((b - a : Nat) : Int) = ((k - (b - a) : Nat) : Int) := by omega
      simp only [e5]
      skip
      all_goals (repeat' (first | refine K_seq ?_ | refine k_cond rfl ?_ | refine K_skip ?_ | refine K_exit ?_ | refine k_block ?_ | refine K_scope ?_ | (refine K_region (id := 6) ?_; refine mv ?_; (first | refine ad ?_ | refine vl ?_); refine mv ?_; refine KO_nil ?_) | (refine K_draw (id := 10) ?_; refine mv ?_; refine mv ?_; refine mv ?_; refine mv ?_; refine mv ?_; (first | refine ad ?_ | refine vl ?_); refine mv ?_; refine mv ?_; refine mv ?_; (first | refine ad ?_ | refine vl ?_); (first | refine ixB S ?_ | refine ixS2 S rfl rfl ?_); (first | refine lB S rfl rfl ?_ | refine lES2 S rfl rfl ?_ | refine lEB S ?_ | refine lH S ?_); refine mv ?_; refine mv ?_; (first | refine ixB S ?_ | refine ixS2 S rfl rfl ?_); (first | refine lB S rfl rfl ?_ | refine lES2 S rfl rfl ?_ | refine lEB S ?_ | refine lH S ?_); (first | refine ixB S ?_ | refine ixS2 S rfl rfl ?_); (first | (refine sB S rfl rfl ?_; clear S; intro h S) | (refine sE2 S rfl rfl ?_; clear S; intro h S)); (first | refine ixB S ?_ | refine ixS2 S rfl rfl ?_); (first | (refine sB S rfl rfl ?_; clear S; intro h S) | (refine sE2 S rfl rfl ?_; clear S; intro h S)); refine KO_nil ?_)))
      (try simp only [toNat_pred, toNat_succ, toNat_sum, Int.toNat_natCast] at S)
      refine ⟨(i + 1, y, swp m i (a + (k - (b - a)))), ?_, ?_, (by repeat (first | exact Ks.le_nil _ | refine Ks.le_cons rfl ?_ | refine Ks.le_int ?_))⟩
      · show a + (b - a) / 4 * 2 + 2 - (i + 1) < a + (b - a) / 4 * 2 + 2 - i; omega
      · exact ⟨S, hy, by omega, by omega, h4.step _ _ ⟨by omega, by omega⟩ ⟨by omega, by omega⟩ (by omega)⟩
    · skip
      all_goals (repeat' (first | refine K_seq ?_ | refine k_cond rfl ?_ | refine K_skip ?_ | refine K_exit ?_ | refine k_block ?_ | refine K_scope ?_ | (refine K_region (id := 6) ?_; refine mv ?_; (first | refine ad ?_ | refine vl ?_); refine mv ?_; refine KO_nil ?_) | (refine K_draw (id := 10) ?_; refine mv ?_; refine mv ?_; refine mv ?_; refine mv ?_; refine mv ?_; (first | refine ad ?_ | refine vl ?_); refine mv ?_; refine mv ?_; refine mv ?_; (first | refine ad ?_ | refine vl ?_); (first | refine ixB S ?_ | refine ixS2 S rfl rfl ?_); (first | refine lB S rfl rfl ?_ | refine lES2 S rfl rfl ?_ | refine lEB S ?_ | refine lH S ?_); refine mv ?_; refine mv ?_; (first | refine ixB S ?_ | refine ixS2 S rfl rfl ?_); (first | refine lB S rfl rfl ?_ | refine lES2 S rfl rfl ?_ | refine lEB S ?_ | refine lH S ?_); (first | refine ixB S ?_ | refine ixS2 S rfl rfl ?_); (first | (refine sB S rfl rfl ?_; clear S; intro h S) | (refine sE2 S rfl rfl ?_; clear S; intro h S)); (first | refine ixB S ?_ | refine ixS2 S rfl rfl ?_); (first | (refine sB S rfl rfl ?_; clear S; intro h S) | (refine sE2 S rfl rfl ?_; clear S; intro h S)); refine KO_nil ?_)))
      (try simp only [toNat_pred, toNat_succ, toNat_sum, Int.toNat_natCast] at S)
      refine ⟨(i + 1, y, swp m i (a + k)), ?_, ?_, (by repeat (first | exact Ks.le_nil _ | refine Ks.le_cons rfl ?_ | refine Ks.le_int ?_))⟩
      · show a + (b - a) / 4 * 2 + 2 - (i + 1) < a + (b - a) / 4 * 2 + 2 - i; omega
      · exact ⟨S, hy, by omega, by omega, h4.step _ _ ⟨by omega, by omega⟩ ⟨by omega, by omega⟩ (by omega)⟩
  · refine ⟨_, rfl, ?_⟩
    exact ⟨m, h4, S.tail⟩

theorem pins_c {h0 h : AH} {rs : List Rs} {v : Value} {l : List PL} {g : Nat} {cap : List Value} {lt : PL → PL → Prop} {p : PL → Prop} (a b : Nat) (S : Hs h0 h (.sl v 23 1 eP l :: rs)) (C : CmpFn h0 v rs g cap lt p) (hp : ∀ k, k < l.length → p (l.getD k default)) (W : WOrd lt) (hab : 12 < b - a ∧ b - a < 50) (hb : b ≤ l.length) (hl : l.length ≤ 1000000) :
    Fn Tryz.prog Xh 185 [v, .int .i64 a, .int .i64 b, cvV g cap] h (fun r h' => BoolIs r (Srt lt a b l) ∧ Hs h0 h' (.sl v 23 1 eP l :: rs)) := by
  refine Fn_K rfl Tryz.func185 rfl rfl ?_
  all_goals (repeat' (first | refine K_seq ?_ | refine k_cond rfl ?_ | refine K_skip ?_ | refine K_exit ?_ | refine k_block ?_ | refine K_scope ?_ | (refine K_region (id := 0) ?_; refine mv ?_; refine KO_nil ?_) | (refine K_region (id := 1) ?_; refine mv ?_; (first | refine ad ?_ | refine vl ?_); refine mv ?_; refine KO_nil ?_) | (refine K_region (id := 2) ?_; refine mv ?_; refine KO_nil ?_)))
  refine k_loop (σ := Unit) (fun _ h' => Hs h0 h' (.sl v 23 1 eP l :: rs)) (fun _ => 0) (fun _ => [(0, v), (1, .int .i64 a), (2, .int .i64 b), (3, cvV g cap), (9, .int .i64 (a + 1 : Nat)), (10, .int .i64 0)]) () (by repeat (first | exact Ks.le_nil _ | refine Ks.le_cons rfl ?_ | refine Ks.le_int ?_)) ?_ ?_
  · exact S
  clear S
  rintro - h S
  all_goals (repeat' (first | refine K_seq ?_ | refine k_cond rfl ?_ | refine K_skip ?_ | refine K_exit ?_ | refine k_block ?_ | refine K_scope ?_ | (refine K_region (id := 3) ?_; refine mv ?_; (first | refine cT ?_ | refine cF ?_ | (refine cS ?_ ?_ <;> intro hc)) <;> (refine KO_nil ?_))))
  refine k_loop (σ := Nat) (fun i h' => Hs h0 h' (.sl v 23 1 eP l :: rs) ∧ a < i ∧ i ≤ b ∧ Srt lt a i l) (fun i => b - i) (fun i => [(0, v), (1, .int .i64 a), (2, .int .i64 b), (3, cvV g cap), (9, .int .i64 i), (10, .int .i64 0)]) (a + 1) (by repeat (first | exact Ks.le_nil _ | refine Ks.le_cons rfl ?_ | refine Ks.le_int ?_)) ?_ ?_
  · exact ⟨S, by omega, by omega, fun i j q1 q2 q3 => by omega⟩
  clear S
  rintro i h ⟨S, h1, h2, h3⟩
  all_goals (repeat' (first | refine K_seq ?_ | refine k_cond rfl ?_ | refine K_skip ?_ | refine K_exit ?_ | refine k_block ?_ | refine K_scope ?_ | (refine K_draw (id := 5) ?_; refine mv ?_; refine mv ?_; (first | refine cT ?_ | refine cF ?_ | (refine cS ?_ ?_ <;> intro hc)) <;> (refine mv ?_; (first | refine off ?_ | refine mv ?_); (first | refine off ?_ | refine mv ?_); (first | refine off ?_ | refine mv ?_); (first | refine off ?_ | (first | refine ixB S ?_ | refine ixS2 S rfl rfl ?_)); (first | refine off ?_ | (first | refine lB S rfl rfl ?_ | refine lES2 S rfl rfl ?_ | refine lEB S ?_ | refine lH S ?_)); (first | refine off ?_ | refine mv ?_); (first | refine off ?_ | refine mv ?_); (first | refine off ?_ | (first | refine sb ?_ | refine vl ?_)); (first | refine off ?_ | (first | refine ixB S ?_ | refine ixS2 S rfl rfl ?_)); (first | refine off ?_ | (first | refine lB S rfl rfl ?_ | refine lES2 S rfl rfl ?_ | refine lEB S ?_ | refine lH S ?_)); (first | (refine off ?_; (first | refine off ?_ | (first | refine cT ?_ | refine cF ?_ | (refine cS ?_ ?_ <;> intro hc))) <;> ((first | refine off ?_ | refine vl ?_); refine vl ?_; refine KO_nil ?_)) | skip)))))
  · (try simp only [toNat_pred, toNat_succ, toNat_sum, Int.toNat_natCast])
    (refine KO_call rfl rfl rfl rfl ((C _ _ _ _ S (hp i (by omega)) (hp (i - 1) (by omega))).mono ?_); rintro _ h ⟨d, rfl, ⟨hd, hq⟩ | ⟨hd, hq⟩, x⟩) <;> (replace S := S.join0 x; clear x; (first | refine off ?_ | (first | refine cT ?_ | refine cF ?_ | (refine cS ?_ ?_ <;> intro hc))) <;> ((first | refine off ?_ | refine vl ?_); refine vl ?_; refine KO_nil ?_))
    · all_goals (repeat' (first | refine K_seq ?_ | refine k_cond rfl ?_ | refine K_skip ?_ | refine K_exit ?_ | refine k_block ?_ | refine K_scope ?_ | (refine K_region (id := 7) ?_; refine mv ?_; refine mv ?_; (first | refine cT ?_ | refine cF ?_ | (refine cS ?_ ?_ <;> intro hc)) <;> (refine KO_nil ?_)) | (refine K_region (id := 9) ?_; refine mv ?_; refine mv ?_; (first | refine sb ?_ | refine vl ?_); (first | refine cT ?_ | refine cF ?_ | (refine cS ?_ ?_ <;> intro hc)) <;> (refine KO_nil ?_)) | (refine K_region (id := 10) ?_; refine mv ?_; refine KO_nil ?_)))
      refine K_ret ⟨_, rfl, ?_⟩
      refine ⟨.inr ⟨rfl, fun q => q (i - 1) i (by omega) (by omega) (by omega) hq⟩, S⟩
    · all_goals (repeat' (first | refine K_seq ?_ | refine k_cond rfl ?_ | refine K_skip ?_ | refine K_exit ?_ | refine k_block ?_ | refine K_scope ?_ | (refine K_region (id := 6) ?_; refine mv ?_; (first | refine ad ?_ | refine vl ?_); refine mv ?_; refine KO_nil ?_)))
      refine ⟨i + 1, ?_, ?_, (by repeat (first | exact Ks.le_nil _ | refine Ks.le_cons rfl ?_ | refine Ks.le_int ?_))⟩
      · show b - (i + 1) < b - i; omega
      · refine ⟨S, by omega, by omega, Srt.adj W fun k q1 q2 => ?_⟩
        rcases Nat.lt_or_ge (k + 1) i with q | q
        · exact h3 k (k + 1) q1 (by omega) q
        · obtain rfl : i = k + 1 := by omega
          exact hq
  · obtain rfl : i = b := by omega
    all_goals (repeat' (first | refine K_seq ?_ | refine k_cond rfl ?_ | refine K_skip ?_ | refine K_exit ?_ | refine k_block ?_ | refine K_scope ?_ | (refine K_region (id := 7) ?_; refine mv ?_; refine mv ?_; (first | refine cT ?_ | refine cF ?_ | (refine cS ?_ ?_ <;> intro hc)) <;> (refine KO_nil ?_)) | (refine K_region (id := 8) ?_; refine mv ?_; refine KO_nil ?_)))
    refine K_ret ⟨_, rfl, ?_⟩
    exact ⟨.inl ⟨rfl, h3⟩, S⟩

theorem peq_c {h0 h : AH} {rs : List Rs} {v : Value} {l : List PL} {g : Nat} {cap : List Value} {lt : PL → PL → Prop} {p : PL → Prop} (a b q : Nat) (S : Hs h0 h (.sl v 23 1 eP l :: rs)) (C : CmpFn h0 v rs g cap lt p) (hp : ∀ k, k < l.length → p (l.getD k default)) (W : WOrd lt) (hab : a ≤ q ∧ q < b) (hb : b ≤ l.length) (hl : l.length ≤ 1000000) :
    Fn Tryz.prog Xh 186 [v, .int .i64 a, .int .i64 b, .int .i64 q, cvV g cap] h (fun r h' => ∃ (e : Nat) (l' : List PL), r = .int .i64 e ∧ (a < e ∧ e ≤ b) ∧ Sw a b l l' ∧ (∀ k, a ≤ k → k < e → ¬ lt (l.getD q default) (l'.getD k default)) ∧ (∀ k, e ≤ k → k < b → lt (l.getD q default) (l'.getD k default)) ∧ Hs h0 h' (.sl v 23 1 eP l' :: rs)) := by
  obtain ⟨x, hx⟩ : ∃ x, x = l.getD q default := ⟨_, rfl⟩
  rw [← hx]
  refine Fn_K rfl Tryz.func186 rfl rfl ?_
  all_goals (repeat' (first | refine K_seq ?_ | refine k_cond rfl ?_ | refine K_skip ?_ | refine K_exit ?_ | refine k_block ?_ | refine K_scope ?_ | (refine K_region (id := 0) ?_; refine mv ?_; refine KO_nil ?_) | (refine K_draw (id := 1) ?_; refine mv ?_; refine mv ?_; refine mv ?_; refine mv ?_; refine mv ?_; refine mv ?_; (first | refine ixB S ?_ | refine ixS2 S rfl rfl ?_); (first | refine lB S rfl rfl ?_ | refine lES2 S rfl rfl ?_ | refine lEB S ?_ | refine lH S ?_); refine mv ?_; refine mv ?_; (first | refine ixB S ?_ | refine ixS2 S rfl rfl ?_); (first | refine lB S rfl rfl ?_ | refine lES2 S rfl rfl ?_ | refine lEB S ?_ | refine lH S ?_); (first | refine ixB S ?_ | refine ixS2 S rfl rfl ?_); (first | (refine sB S rfl rfl ?_; clear S; intro h S) | (refine sE2 S rfl rfl ?_; clear S; intro h S)); (first | refine ixB S ?_ | refine ixS2 S rfl rfl ?_); (first | (refine sB S rfl rfl ?_; clear S; intro h S) | (refine sE2 S rfl rfl ?_; clear S; intro h S)); refine KO_nil ?_) | (refine K_region (id := 2) ?_; refine mv ?_; (first | refine ad ?_ | refine vl ?_); refine mv ?_; (first | refine sb ?_ | refine vl ?_); refine mv ?_; refine mv ?_; refine KO_nil ?_)))
  (try simp only [toNat_pred, toNat_succ, toNat_sum, Int.toNat_natCast] at S)
  have s1 : Sw a b l (swp l a q) := .one _ _ ⟨by omega, by omega⟩ ⟨by omega, by omega⟩ hb
  have x1 : (swp l a q).getD a default = x := by
    rw [swp_get (by omega) (by omega), hx]
    split
    · rename_i e; rw [e]
    · rw [if_pos rfl]
  refine k_loop (σ := Nat × Nat × List PL) (fun (i, j, m) h' => Hs h0 h' (.sl v 23 1 eP m :: rs) ∧ Sw a b l m ∧ EqI lt a b x i j m) (fun (i, j, m) => j + 1 - i) (fun (i, j, m) => [(0, v), (1, .int .i64 a), (2, .int .i64 b), (3, .int .i64 q), (4, cvV g cap), (11, .int .i64 i), (12, .int .i64 j)]) (a + 1, b - 1, swp l a q) (by repeat (first | exact Ks.le_nil _ | refine Ks.le_cons rfl ?_ | refine Ks.le_int ?_)) ?_ ?_
  · exact ⟨S, s1, ⟨by omega, fun k q1 q2 => by omega, fun k q1 q2 => by omega, x1⟩⟩
  clear S s1 x1
  rintro ⟨i0, j0, m⟩ h ⟨S, s1, E⟩
  have hml := s1.len
  have hpn := s1.lift hp hb
  have hbi := E.bi
  have ex := E.x
  refine k_block ?_
  refine K_cut (σ := Nat) (fun i h' => Hs h0 h' (.sl v 23 1 eP m :: rs) ∧ EqI lt a b x i j0 m ∧ i0 ≤ i ∧ (i ≤ j0 → lt x (m.getD i default))) (fun i => [(0, v), (1, .int .i64 a), (2, .int .i64 b), (3, .int .i64 q), (4, cvV g cap), (11, .int .i64 i), (12, .int .i64 j0)]) ?_ ?_
  · all_goals (repeat' (first | refine K_seq ?_ | refine k_cond rfl ?_ | refine K_skip ?_ | refine K_exit ?_ | refine k_block ?_ | refine K_scope ?_ | (refine K_draw (id := 3) ?_; refine mv ?_; refine mv ?_; (first | refine cT ?_ | refine cF ?_ | (refine cS ?_ ?_ <;> intro hc)) <;> (refine mv ?_; (first | refine off ?_ | refine mv ?_); (first | refine off ?_ | refine mv ?_); (first | refine off ?_ | refine mv ?_); (first | refine off ?_ | (first | refine ixB S ?_ | refine ixS2 S rfl rfl ?_)); (first | refine off ?_ | (first | refine lB S rfl rfl ?_ | refine lES2 S rfl rfl ?_ | refine lEB S ?_ | refine lH S ?_)); (first | refine off ?_ | refine mv ?_); (first | refine off ?_ | refine mv ?_); (first | refine off ?_ | (first | refine ixB S ?_ | refine ixS2 S rfl rfl ?_)); (first | refine off ?_ | (first | refine lB S rfl rfl ?_ | refine lES2 S rfl rfl ?_ | refine lEB S ?_ | refine lH S ?_)); (first | (refine off ?_; (first | refine off ?_ | (first | refine cT ?_ | refine cF ?_ | (refine cS ?_ ?_ <;> intro hc))) <;> ((first | refine off ?_ | refine vl ?_); refine vl ?_; refine KO_nil ?_)) | skip)))))
    refine k_loop (σ := Nat) (fun i h' => Hs h0 h' (.sl v 23 1 eP m :: rs) ∧ EqI lt a b x i j0 m ∧ i0 ≤ i) (fun i => j0 + 1 - i) (fun i => [(0, v), (1, .int .i64 a), (2, .int .i64 b), (3, .int .i64 q), (4, cvV g cap), (11, .int .i64 i), (12, .int .i64 j0)]) i0 (by repeat (first | exact Ks.le_nil _ | refine Ks.le_cons rfl ?_ | refine Ks.le_int ?_)) ?_ ?_
    · exact ⟨S, E, Nat.le_refl _⟩
    clear S E hbi
    rintro i h ⟨S, E, hi0⟩
    have hbi := E.bi
    all_goals (repeat' (first | refine K_seq ?_ | refine k_cond rfl ?_ | refine K_skip ?_ | refine K_exit ?_ | refine k_block ?_ | refine K_scope ?_ | (refine K_draw (id := 3) ?_; refine mv ?_; refine mv ?_; (first | refine cT ?_ | refine cF ?_ | (refine cS ?_ ?_ <;> intro hc)) <;> (refine mv ?_; (first | refine off ?_ | refine mv ?_); (first | refine off ?_ | refine mv ?_); (first | refine off ?_ | refine mv ?_); (first | refine off ?_ | (first | refine ixB S ?_ | refine ixS2 S rfl rfl ?_)); (first | refine off ?_ | (first | refine lB S rfl rfl ?_ | refine lES2 S rfl rfl ?_ | refine lEB S ?_ | refine lH S ?_)); (first | refine off ?_ | refine mv ?_); (first | refine off ?_ | refine mv ?_); (first | refine off ?_ | (first | refine ixB S ?_ | refine ixS2 S rfl rfl ?_)); (first | refine off ?_ | (first | refine lB S rfl rfl ?_ | refine lES2 S rfl rfl ?_ | refine lEB S ?_ | refine lH S ?_)); (first | (refine off ?_; (first | refine off ?_ | (first | refine cT ?_ | refine cF ?_ | (refine cS ?_ ?_ <;> intro hc))) <;> ((first | refine off ?_ | refine vl ?_); refine vl ?_; refine KO_nil ?_)) | skip)))))
    · (try simp only [toNat_pred, toNat_succ, toNat_sum, Int.toNat_natCast])
      (refine KO_call rfl rfl rfl rfl ((C _ _ _ _ S (hpn a (by omega)) (hpn i (by omega))).mono ?_); rintro _ h ⟨d, rfl, ⟨hd, hq⟩ | ⟨hd, hq⟩, x⟩) <;> (replace S := S.join0 x; clear x; rw [ex] at hq; (first | refine off ?_ | (first | refine cT ?_ | refine cF ?_ | (refine cS ?_ ?_ <;> intro hc))) <;> ((first | refine off ?_ | refine vl ?_); refine vl ?_; refine KO_nil ?_))
      · all_goals (repeat' (first | refine K_seq ?_ | refine k_cond rfl ?_ | refine K_skip ?_ | refine K_exit ?_ | refine k_block ?_ | refine K_scope ?_ | (refine K_region (id := 4) ?_; refine mv ?_; (first | refine ad ?_ | refine vl ?_); refine mv ?_; refine KO_nil ?_)))
        exact ⟨i, ⟨S, E, hi0, fun _ => hq⟩, ((by repeat (first | exact Ks.le_nil _ | refine Ks.le_cons rfl ?_ | refine Ks.le_int ?_)))⟩
      · all_goals (repeat' (first | refine K_seq ?_ | refine k_cond rfl ?_ | refine K_skip ?_ | refine K_exit ?_ | refine k_block ?_ | refine K_scope ?_ | (refine K_region (id := 4) ?_; refine mv ?_; (first | refine ad ?_ | refine vl ?_); refine mv ?_; refine KO_nil ?_)))
        refine ⟨i + 1, ?_, ?_, (by repeat (first | exact Ks.le_nil _ | refine Ks.le_cons rfl ?_ | refine Ks.le_int ?_))⟩
        · show j0 + 1 - (i + 1) < j0 + 1 - i; omega
        · refine ⟨S, ⟨by omega, fun k q1 q2 => ?_, E.hi, ex⟩, by omega⟩
          rcases Nat.lt_or_ge k i with q | q
          · exact E.lo k q1 q
          · obtain rfl : k = i := by omega
            exact hq
    · exact ⟨i, ⟨S, E, hi0, fun q => by omega⟩, ((by repeat (first | exact Ks.le_nil _ | refine Ks.le_cons rfl ?_ | refine Ks.le_int ?_)))⟩
  clear S E hbi
  rintro i h ⟨S, E, hi0, hi1⟩
  have hbi := E.bi
  refine K_cut (σ := Nat) (fun j h' => Hs h0 h' (.sl v 23 1 eP m :: rs) ∧ EqI lt a b x i j m ∧ j ≤ j0 ∧ (i ≤ j → ¬ lt x (m.getD j default))) (fun j => [(0, v), (1, .int .i64 a), (2, .int .i64 b), (3, .int .i64 q), (4, cvV g cap), (11, .int .i64 i), (12, .int .i64 j)]) ?_ ?_
  · all_goals (repeat' (first | refine K_seq ?_ | refine k_cond rfl ?_ | refine K_skip ?_ | refine K_exit ?_ | refine k_block ?_ | refine K_scope ?_ | (refine K_draw (id := 5) ?_; refine mv ?_; refine mv ?_; (first | refine cT ?_ | refine cF ?_ | (refine cS ?_ ?_ <;> intro hc)) <;> (refine mv ?_; (first | refine off ?_ | refine mv ?_); (first | refine off ?_ | refine mv ?_); (first | refine off ?_ | refine mv ?_); (first | refine off ?_ | (first | refine ixB S ?_ | refine ixS2 S rfl rfl ?_)); (first | refine off ?_ | (first | refine lB S rfl rfl ?_ | refine lES2 S rfl rfl ?_ | refine lEB S ?_ | refine lH S ?_)); (first | refine off ?_ | refine mv ?_); (first | refine off ?_ | refine mv ?_); (first | refine off ?_ | (first | refine ixB S ?_ | refine ixS2 S rfl rfl ?_)); (first | refine off ?_ | (first | refine lB S rfl rfl ?_ | refine lES2 S rfl rfl ?_ | refine lEB S ?_ | refine lH S ?_)); (first | (refine off ?_; (first | refine off ?_ | (first | refine cT ?_ | refine cF ?_ | (refine cS ?_ ?_ <;> intro hc))) <;> (refine vl ?_; refine KO_nil ?_)) | skip)))))
    refine k_loop (σ := Nat) (fun j h' => Hs h0 h' (.sl v 23 1 eP m :: rs) ∧ EqI lt a b x i j m ∧ j ≤ j0) (fun j => j) (fun j => [(0, v), (1, .int .i64 a), (2, .int .i64 b), (3, .int .i64 q), (4, cvV g cap), (11, .int .i64 i), (12, .int .i64 j)]) j0 (by repeat (first | exact Ks.le_nil _ | refine Ks.le_cons rfl ?_ | refine Ks.le_int ?_)) ?_ ?_
    · exact ⟨S, E, Nat.le_refl _⟩
    clear S E hbi
    rintro j h ⟨S, E, hj0⟩
    have hbi := E.bi
    all_goals (repeat' (first | refine K_seq ?_ | refine k_cond rfl ?_ | refine K_skip ?_ | refine K_exit ?_ | refine k_block ?_ | refine K_scope ?_ | (refine K_draw (id := 5) ?_; refine mv ?_; refine mv ?_; (first | refine cT ?_ | refine cF ?_ | (refine cS ?_ ?_ <;> intro hc)) <;> (refine mv ?_; (first | refine off ?_ | refine mv ?_); (first | refine off ?_ | refine mv ?_); (first | refine off ?_ | refine mv ?_); (first | refine off ?_ | (first | refine ixB S ?_ | refine ixS2 S rfl rfl ?_)); (first | refine off ?_ | (first | refine lB S rfl rfl ?_ | refine lES2 S rfl rfl ?_ | refine lEB S ?_ | refine lH S ?_)); (first | refine off ?_ | refine mv ?_); (first | refine off ?_ | refine mv ?_); (first | refine off ?_ | (first | refine ixB S ?_ | refine ixS2 S rfl rfl ?_)); (first | refine off ?_ | (first | refine lB S rfl rfl ?_ | refine lES2 S rfl rfl ?_ | refine lEB S ?_ | refine lH S ?_)); (first | (refine off ?_; (first | refine off ?_ | (first | refine cT ?_ | refine cF ?_ | (refine cS ?_ ?_ <;> intro hc))) <;> (refine vl ?_; refine KO_nil ?_)) | skip)))))
    · (try simp only [toNat_pred, toNat_succ, toNat_sum, Int.toNat_natCast])
      (refine KO_call rfl rfl rfl rfl ((C _ _ _ _ S (hpn a (by omega)) (hpn j (by omega))).mono ?_); rintro _ h ⟨d, rfl, ⟨hd, hq⟩ | ⟨hd, hq⟩, x⟩) <;> (replace S := S.join0 x; clear x; rw [ex] at hq; (first | refine off ?_ | (first | refine cT ?_ | refine cF ?_ | (refine cS ?_ ?_ <;> intro hc))) <;> (refine vl ?_; refine KO_nil ?_))
      · all_goals (repeat' (first | refine K_seq ?_ | refine k_cond rfl ?_ | refine K_skip ?_ | refine K_exit ?_ | refine k_block ?_ | refine K_scope ?_ | (refine K_region (id := 6) ?_; refine mv ?_; (first | refine sb ?_ | refine vl ?_); refine mv ?_; refine KO_nil ?_)))
        refine ⟨j - 1, ?_, ?_, (by repeat (first | exact Ks.le_nil _ | refine Ks.le_cons rfl ?_ | refine Ks.le_int ?_))⟩
        · show j - 1 < j; omega
        · refine ⟨S, ⟨by omega, E.lo, fun k q1 q2 => ?_, ex⟩, by omega⟩
          rcases Nat.lt_or_ge j k with q | q
          · exact E.hi k q q2
          · obtain rfl : k = j := by omega
            exact hq
      · all_goals (repeat' (first | refine K_seq ?_ | refine k_cond rfl ?_ | refine K_skip ?_ | refine K_exit ?_ | refine k_block ?_ | refine K_scope ?_ | (refine K_region (id := 6) ?_; refine mv ?_; (first | refine sb ?_ | refine vl ?_); refine mv ?_; refine KO_nil ?_)))
        exact ⟨j, ⟨S, E, hj0, fun _ => hq⟩, ((by repeat (first | exact Ks.le_nil _ | refine Ks.le_cons rfl ?_ | refine Ks.le_int ?_)))⟩
    · exact ⟨j, ⟨S, E, hj0, fun q => by omega⟩, ((by repeat (first | exact Ks.le_nil _ | refine Ks.le_cons rfl ?_ | refine Ks.le_int ?_)))⟩
  clear S E hbi
  rintro j h ⟨S, E, hj0, hj1⟩
  have hbi := E.bi
  skip
  all_goals (repeat' (first | refine K_seq ?_ | refine k_cond rfl ?_ | refine K_skip ?_ | refine K_exit ?_ | refine k_block ?_ | refine K_scope ?_ | (refine K_region (id := 7) ?_; refine mv ?_; refine mv ?_; (first | refine cT ?_ | refine cF ?_ | (refine cS ?_ ?_ <;> intro hc)) <;> (refine KO_nil ?_)) | (refine K_draw (id := 8) ?_; refine mv ?_; refine mv ?_; refine mv ?_; refine mv ?_; refine mv ?_; refine mv ?_; (first | refine ixB S ?_ | refine ixS2 S rfl rfl ?_); (first | refine lB S rfl rfl ?_ | refine lES2 S rfl rfl ?_ | refine lEB S ?_ | refine lH S ?_); refine mv ?_; refine mv ?_; (first | refine ixB S ?_ | refine ixS2 S rfl rfl ?_); (first | refine lB S rfl rfl ?_ | refine lES2 S rfl rfl ?_ | refine lEB S ?_ | refine lH S ?_); (first | refine ixB S ?_ | refine ixS2 S rfl rfl ?_); (first | (refine sB S rfl rfl ?_; clear S; intro h S) | (refine sE2 S rfl rfl ?_; clear S; intro h S)); (first | refine ixB S ?_ | refine ixS2 S rfl rfl ?_); (first | (refine sB S rfl rfl ?_; clear S; intro h S) | (refine sE2 S rfl rfl ?_; clear S; intro h S)); refine KO_nil ?_) | (refine K_region (id := 9) ?_; refine mv ?_; (first | refine ad ?_ | refine vl ?_); refine mv ?_; refine KO_nil ?_) | (refine K_region (id := 10) ?_; refine mv ?_; (first | refine sb ?_ | refine vl ?_); refine mv ?_; refine KO_nil ?_) | (refine K_region (id := 11) ?_; refine mv ?_; refine mv ?_; refine KO_nil ?_)))
  · refine K_ret ⟨_, rfl, ?_⟩
    refine ⟨i, m, rfl, by omega, s1, fun k q1 q2 => ?_, fun k q1 q2 => E.hi k (by omega) q2, S⟩
    rcases Nat.lt_or_ge a k with q | q
    · exact E.lo k q q2
    · obtain rfl : k = a := by omega
      rw [ex]; exact W.irr _
  · (try simp only [toNat_pred, toNat_succ, toNat_sum, Int.toNat_natCast] at S)
    obtain ⟨z1, z2⟩ := E.swap (by omega) (by omega) (hi1 (by omega)) (hj1 (by omega))
    refine ⟨(i + 1, j - 1, swp m i j), ?_, ?_, (by repeat (first | exact Ks.le_nil _ | refine Ks.le_cons rfl ?_ | refine Ks.le_int ?_))⟩
    · show j - 1 + 1 - (i + 1) < j0 + 1 - i0; omega
    · exact ⟨S, s1.step _ _ ⟨by omega, by omega⟩ ⟨by omega, by omega⟩ (by omega), z2⟩

theorem part_c {h0 h : AH} {rs : List Rs} {v : Value} {l : List PL} {g : Nat} {cap : List Value} {lt : PL → PL → Prop} {p : PL → Prop} (a b q : Nat) (S : Hs h0 h (.sl v 23 1 eP l :: rs)) (C : CmpFn h0 v rs g cap lt p) (hp : ∀ k, k < l.length → p (l.getD k default)) (W : WOrd lt) (hab : a ≤ q ∧ q < b) (hb : b ≤ l.length) (hl : l.length ≤ 1000000) :
    Fn Tryz.prog Xh 187 [v, .int .i64 a, .int .i64 b, .int .i64 q, cvV g cap] h (fun r h' => ∃ (e : Nat) (f : Bool) (l' : List PL), r = .tuple #[.int .i64 e, .bool f] ∧ (a ≤ e ∧ e < b) ∧ Sw a b l l' ∧ Parted lt a b e l' ∧ Hs h0 h' (.sl v 23 1 eP l' :: rs)) := by
  obtain ⟨x, hx⟩ : ∃ x, x = l.getD q default := ⟨_, rfl⟩
  refine Fn_K rfl Tryz.func187 rfl rfl ?_
  all_goals (repeat' (first | refine K_seq ?_ | refine k_cond rfl ?_ | refine K_skip ?_ | refine K_exit ?_ | refine k_block ?_ | refine K_scope ?_ | (refine K_region (id := 0) ?_; refine mv ?_; refine mv ?_; refine KO_nil ?_) | (refine K_draw (id := 1) ?_; refine mv ?_; refine mv ?_; refine mv ?_; refine mv ?_; refine mv ?_; refine mv ?_; (first | refine ixB S ?_ | refine ixS2 S rfl rfl ?_); (first | refine lB S rfl rfl ?_ | refine lES2 S rfl rfl ?_ | refine lEB S ?_ | refine lH S ?_); refine mv ?_; refine mv ?_; (first | refine ixB S ?_ | refine ixS2 S rfl rfl ?_); (first | refine lB S rfl rfl ?_ | refine lES2 S rfl rfl ?_ | refine lEB S ?_ | refine lH S ?_); (first | refine ixB S ?_ | refine ixS2 S rfl rfl ?_); (first | (refine sB S rfl rfl ?_; clear S; intro h S) | (refine sE2 S rfl rfl ?_; clear S; intro h S)); (first | refine ixB S ?_ | refine ixS2 S rfl rfl ?_); (first | (refine sB S rfl rfl ?_; clear S; intro h S) | (refine sE2 S rfl rfl ?_; clear S; intro h S)); refine KO_nil ?_)))
  (repeat (refine K_seq ?_)); refine K_region (id := 2) ?_; refine mv ?_; (first | refine ad ?_ | refine vl ?_); refine mv ?_; (first | refine sb ?_ | refine vl ?_); refine mv ?_; refine mv ?_; refine KO_nil ?_
  (try simp only [toNat_pred, toNat_succ, toNat_sum, Int.toNat_natCast] at S)
  have s1 : Sw a b l (swp l a q) := .one _ _ ⟨by omega, by omega⟩ ⟨by omega, by omega⟩ hb
  have x1 : (swp l a q).getD a default = x := by
    rw [swp_get (by omega) (by omega), hx]
    split
    · rename_i e; rw [e]
    · rw [if_pos rfl]
  obtain ⟨m, hm⟩ : ∃ m, m = swp l a q := ⟨_, rfl⟩
  replace S : Hs h0 h (.sl v 23 1 eP m :: rs) := by rw [hm]; exact S
  rw [← hm] at s1 x1
  have hml := s1.len
  have hpn := s1.lift hp hb
  have ex := x1
  have E : PartI lt a b x (a + 1) (b - 1) m := ⟨by omega, fun k q1 q2 => by omega, fun k q1 q2 => by omega, x1⟩
  have hbi := E.bi
  refine K_cut (σ := Nat) (fun i h' => Hs h0 h' (.sl v 23 1 eP m :: rs) ∧ PartI lt a b x i (b - 1) m ∧ (a + 1) ≤ i ∧ (i ≤ (b - 1) → ¬ lt (m.getD i default) x)) (fun i => [(0, v), (1, .int .i64 a), (2, .int .i64 b), (3, .int .i64 q), (4, cvV g cap), (12, .int .i64 i), (13, .int .i64 (b - 1 : Nat))]) ?_ ?_
  · all_goals (repeat' (first | refine K_seq ?_ | refine k_cond rfl ?_ | refine K_skip ?_ | refine K_exit ?_ | refine k_block ?_ | refine K_scope ?_ | (refine K_draw (id := 3) ?_; refine mv ?_; refine mv ?_; (first | refine cT ?_ | refine cF ?_ | (refine cS ?_ ?_ <;> intro hc)) <;> (refine mv ?_; (first | refine off ?_ | refine mv ?_); (first | refine off ?_ | refine mv ?_); (first | refine off ?_ | refine mv ?_); (first | refine off ?_ | (first | refine ixB S ?_ | refine ixS2 S rfl rfl ?_)); (first | refine off ?_ | (first | refine lB S rfl rfl ?_ | refine lES2 S rfl rfl ?_ | refine lEB S ?_ | refine lH S ?_)); (first | refine off ?_ | refine mv ?_); (first | refine off ?_ | refine mv ?_); (first | refine off ?_ | (first | refine ixB S ?_ | refine ixS2 S rfl rfl ?_)); (first | refine off ?_ | (first | refine lB S rfl rfl ?_ | refine lES2 S rfl rfl ?_ | refine lEB S ?_ | refine lH S ?_)); (first | (refine off ?_; (first | refine off ?_ | (first | refine cT ?_ | refine cF ?_ | (refine cS ?_ ?_ <;> intro hc))) <;> (refine vl ?_; refine KO_nil ?_)) | skip)))))
    refine k_loop (σ := Nat) (fun i h' => Hs h0 h' (.sl v 23 1 eP m :: rs) ∧ PartI lt a b x i (b - 1) m ∧ (a + 1) ≤ i) (fun i => (b - 1) + 1 - i) (fun i => [(0, v), (1, .int .i64 a), (2, .int .i64 b), (3, .int .i64 q), (4, cvV g cap), (12, .int .i64 i), (13, .int .i64 (b - 1 : Nat))]) (a + 1) (by repeat (first | exact Ks.le_nil _ | refine Ks.le_cons rfl ?_ | refine Ks.le_int ?_)) ?_ ?_
    · exact ⟨S, E, Nat.le_refl _⟩
    clear S E hbi
    rintro i h ⟨S, E, hi0⟩
    have hbi := E.bi
    all_goals (repeat' (first | refine K_seq ?_ | refine k_cond rfl ?_ | refine K_skip ?_ | refine K_exit ?_ | refine k_block ?_ | refine K_scope ?_ | (refine K_draw (id := 3) ?_; refine mv ?_; refine mv ?_; (first | refine cT ?_ | refine cF ?_ | (refine cS ?_ ?_ <;> intro hc)) <;> (refine mv ?_; (first | refine off ?_ | refine mv ?_); (first | refine off ?_ | refine mv ?_); (first | refine off ?_ | refine mv ?_); (first | refine off ?_ | (first | refine ixB S ?_ | refine ixS2 S rfl rfl ?_)); (first | refine off ?_ | (first | refine lB S rfl rfl ?_ | refine lES2 S rfl rfl ?_ | refine lEB S ?_ | refine lH S ?_)); (first | refine off ?_ | refine mv ?_); (first | refine off ?_ | refine mv ?_); (first | refine off ?_ | (first | refine ixB S ?_ | refine ixS2 S rfl rfl ?_)); (first | refine off ?_ | (first | refine lB S rfl rfl ?_ | refine lES2 S rfl rfl ?_ | refine lEB S ?_ | refine lH S ?_)); (first | (refine off ?_; (first | refine off ?_ | (first | refine cT ?_ | refine cF ?_ | (refine cS ?_ ?_ <;> intro hc))) <;> (refine vl ?_; refine KO_nil ?_)) | skip)))))
    · (try simp only [toNat_pred, toNat_succ, toNat_sum, Int.toNat_natCast])
      (refine KO_call rfl rfl rfl rfl ((C _ _ _ _ S (hpn i (by omega)) (hpn a (by omega))).mono ?_); rintro _ h ⟨d, rfl, ⟨hd, hq⟩ | ⟨hd, hq⟩, x⟩) <;> (replace S := S.join0 x; clear x; rw [ex] at hq; (first | refine off ?_ | (first | refine cT ?_ | refine cF ?_ | (refine cS ?_ ?_ <;> intro hc))) <;> (refine vl ?_; refine KO_nil ?_))
      · all_goals (repeat' (first | refine K_seq ?_ | refine k_cond rfl ?_ | refine K_skip ?_ | refine K_exit ?_ | refine k_block ?_ | refine K_scope ?_ | (refine K_region (id := 4) ?_; refine mv ?_; (first | refine ad ?_ | refine vl ?_); refine mv ?_; refine KO_nil ?_)))
        refine ⟨i + 1, ?_, ?_, (by repeat (first | exact Ks.le_nil _ | refine Ks.le_cons rfl ?_ | refine Ks.le_int ?_))⟩
        · show (b - 1) + 1 - (i + 1) < (b - 1) + 1 - i; omega
        · refine ⟨S, ⟨by omega, fun k q1 q2 => ?_, E.hi, ex⟩, by omega⟩
          rcases Nat.lt_or_ge k i with q | q
          · exact E.lo k q1 q
          · obtain rfl : k = i := by omega
            exact hq
      · all_goals (repeat' (first | refine K_seq ?_ | refine k_cond rfl ?_ | refine K_skip ?_ | refine K_exit ?_ | refine k_block ?_ | refine K_scope ?_ | (refine K_region (id := 4) ?_; refine mv ?_; (first | refine ad ?_ | refine vl ?_); refine mv ?_; refine KO_nil ?_)))
        exact ⟨i, ⟨S, E, hi0, fun _ => hq⟩, ((by repeat (first | exact Ks.le_nil _ | refine Ks.le_cons rfl ?_ | refine Ks.le_int ?_)))⟩
    · exact ⟨i, ⟨S, E, hi0, fun q => by omega⟩, ((by repeat (first | exact Ks.le_nil _ | refine Ks.le_cons rfl ?_ | refine Ks.le_int ?_)))⟩
  clear S E hbi
  rintro i h ⟨S, E, hi0, hi1⟩
  have hbi := E.bi
  refine K_cut (σ := Nat) (fun j h' => Hs h0 h' (.sl v 23 1 eP m :: rs) ∧ PartI lt a b x i j m ∧ j ≤ (b - 1) ∧ (i ≤ j → lt (m.getD j default) x)) (fun j => [(0, v), (1, .int .i64 a), (2, .int .i64 b), (3, .int .i64 q), (4, cvV g cap), (12, .int .i64 i), (13, .int .i64 j)]) ?_ ?_
  · all_goals (repeat' (first | refine K_seq ?_ | refine k_cond rfl ?_ | refine K_skip ?_ | refine K_exit ?_ | refine k_block ?_ | refine K_scope ?_ | (refine K_draw (id := 5) ?_; refine mv ?_; refine mv ?_; (first | refine cT ?_ | refine cF ?_ | (refine cS ?_ ?_ <;> intro hc)) <;> (refine mv ?_; (first | refine off ?_ | refine mv ?_); (first | refine off ?_ | refine mv ?_); (first | refine off ?_ | refine mv ?_); (first | refine off ?_ | (first | refine ixB S ?_ | refine ixS2 S rfl rfl ?_)); (first | refine off ?_ | (first | refine lB S rfl rfl ?_ | refine lES2 S rfl rfl ?_ | refine lEB S ?_ | refine lH S ?_)); (first | refine off ?_ | refine mv ?_); (first | refine off ?_ | refine mv ?_); (first | refine off ?_ | (first | refine ixB S ?_ | refine ixS2 S rfl rfl ?_)); (first | refine off ?_ | (first | refine lB S rfl rfl ?_ | refine lES2 S rfl rfl ?_ | refine lEB S ?_ | refine lH S ?_)); (first | (refine off ?_; (first | refine off ?_ | (first | refine cT ?_ | refine cF ?_ | (refine cS ?_ ?_ <;> intro hc))) <;> ((first | refine off ?_ | refine vl ?_); refine vl ?_; refine KO_nil ?_)) | skip)))))
    refine k_loop (σ := Nat) (fun j h' => Hs h0 h' (.sl v 23 1 eP m :: rs) ∧ PartI lt a b x i j m ∧ j ≤ (b - 1)) (fun j => j) (fun j => [(0, v), (1, .int .i64 a), (2, .int .i64 b), (3, .int .i64 q), (4, cvV g cap), (12, .int .i64 i), (13, .int .i64 j)]) (b - 1) (by repeat (first | exact Ks.le_nil _ | refine Ks.le_cons rfl ?_ | refine Ks.le_int ?_)) ?_ ?_
    · exact ⟨S, E, Nat.le_refl _⟩
    clear S E hbi
    rintro j h ⟨S, E, hj0⟩
    have hbi := E.bi
    all_goals (repeat' (first | refine K_seq ?_ | refine k_cond rfl ?_ | refine K_skip ?_ | refine K_exit ?_ | refine k_block ?_ | refine K_scope ?_ | (refine K_draw (id := 5) ?_; refine mv ?_; refine mv ?_; (first | refine cT ?_ | refine cF ?_ | (refine cS ?_ ?_ <;> intro hc)) <;> (refine mv ?_; (first | refine off ?_ | refine mv ?_); (first | refine off ?_ | refine mv ?_); (first | refine off ?_ | refine mv ?_); (first | refine off ?_ | (first | refine ixB S ?_ | refine ixS2 S rfl rfl ?_)); (first | refine off ?_ | (first | refine lB S rfl rfl ?_ | refine lES2 S rfl rfl ?_ | refine lEB S ?_ | refine lH S ?_)); (first | refine off ?_ | refine mv ?_); (first | refine off ?_ | refine mv ?_); (first | refine off ?_ | (first | refine ixB S ?_ | refine ixS2 S rfl rfl ?_)); (first | refine off ?_ | (first | refine lB S rfl rfl ?_ | refine lES2 S rfl rfl ?_ | refine lEB S ?_ | refine lH S ?_)); (first | (refine off ?_; (first | refine off ?_ | (first | refine cT ?_ | refine cF ?_ | (refine cS ?_ ?_ <;> intro hc))) <;> ((first | refine off ?_ | refine vl ?_); refine vl ?_; refine KO_nil ?_)) | skip)))))
    · (try simp only [toNat_pred, toNat_succ, toNat_sum, Int.toNat_natCast])
      (refine KO_call rfl rfl rfl rfl ((C _ _ _ _ S (hpn j (by omega)) (hpn a (by omega))).mono ?_); rintro _ h ⟨d, rfl, ⟨hd, hq⟩ | ⟨hd, hq⟩, x⟩) <;> (replace S := S.join0 x; clear x; rw [ex] at hq; (first | refine off ?_ | (first | refine cT ?_ | refine cF ?_ | (refine cS ?_ ?_ <;> intro hc))) <;> ((first | refine off ?_ | refine vl ?_); refine vl ?_; refine KO_nil ?_))
      · all_goals (repeat' (first | refine K_seq ?_ | refine k_cond rfl ?_ | refine K_skip ?_ | refine K_exit ?_ | refine k_block ?_ | refine K_scope ?_ | (refine K_region (id := 6) ?_; refine mv ?_; (first | refine sb ?_ | refine vl ?_); refine mv ?_; refine KO_nil ?_)))
        exact ⟨j, ⟨S, E, hj0, fun _ => hq⟩, ((by repeat (first | exact Ks.le_nil _ | refine Ks.le_cons rfl ?_ | refine Ks.le_int ?_)))⟩
      · all_goals (repeat' (first | refine K_seq ?_ | refine k_cond rfl ?_ | refine K_skip ?_ | refine K_exit ?_ | refine k_block ?_ | refine K_scope ?_ | (refine K_region (id := 6) ?_; refine mv ?_; (first | refine sb ?_ | refine vl ?_); refine mv ?_; refine KO_nil ?_)))
        refine ⟨j - 1, ?_, ?_, (by repeat (first | exact Ks.le_nil _ | refine Ks.le_cons rfl ?_ | refine Ks.le_int ?_))⟩
        · show j - 1 < j; omega
        · refine ⟨S, ⟨by omega, E.lo, fun k q1 q2 => ?_, ex⟩, by omega⟩
          rcases Nat.lt_or_ge j k with q | q
          · exact E.hi k q q2
          · obtain rfl : k = j := by omega
            exact hq
    · exact ⟨j, ⟨S, E, hj0, fun q => by omega⟩, ((by repeat (first | exact Ks.le_nil _ | refine Ks.le_cons rfl ?_ | refine Ks.le_int ?_)))⟩
  clear S E hbi
  rintro j h ⟨S, E, hj0, hj1⟩
  have hbi := E.bi
  skip
  all_goals (repeat' (first | refine K_seq ?_ | refine k_cond rfl ?_ | refine K_skip ?_ | refine K_exit ?_ | refine k_block ?_ | refine K_scope ?_ | (refine K_region (id := 7) ?_; refine mv ?_; refine mv ?_; (first | refine cT ?_ | refine cF ?_ | (refine cS ?_ ?_ <;> intro hc)) <;> (refine KO_nil ?_)) | (refine K_draw (id := 8) ?_; refine mv ?_; refine mv ?_; refine mv ?_; refine mv ?_; refine mv ?_; refine mv ?_; (first | refine ixB S ?_ | refine ixS2 S rfl rfl ?_); (first | refine lB S rfl rfl ?_ | refine lES2 S rfl rfl ?_ | refine lEB S ?_ | refine lH S ?_); refine mv ?_; refine mv ?_; (first | refine ixB S ?_ | refine ixS2 S rfl rfl ?_); (first | refine lB S rfl rfl ?_ | refine lES2 S rfl rfl ?_ | refine lEB S ?_ | refine lH S ?_); (first | refine ixB S ?_ | refine ixS2 S rfl rfl ?_); (first | (refine sB S rfl rfl ?_; clear S; intro h S) | (refine sE2 S rfl rfl ?_; clear S; intro h S)); (first | refine ixB S ?_ | refine ixS2 S rfl rfl ?_); (first | (refine sB S rfl rfl ?_; clear S; intro h S) | (refine sE2 S rfl rfl ?_; clear S; intro h S)); refine KO_nil ?_) | (refine K_region (id := 9) ?_; refine mv ?_; refine mv ?_; refine mv ?_; refine KO_nil ?_) | (refine K_draw (id := 10) ?_; refine mv ?_; refine mv ?_; refine mv ?_; refine mv ?_; refine mv ?_; refine mv ?_; (first | refine ixB S ?_ | refine ixS2 S rfl rfl ?_); (first | refine lB S rfl rfl ?_ | refine lES2 S rfl rfl ?_ | refine lEB S ?_ | refine lH S ?_); refine mv ?_; refine mv ?_; (first | refine ixB S ?_ | refine ixS2 S rfl rfl ?_); (first | refine lB S rfl rfl ?_ | refine lES2 S rfl rfl ?_ | refine lEB S ?_ | refine lH S ?_); (first | refine ixB S ?_ | refine ixS2 S rfl rfl ?_); (first | (refine sB S rfl rfl ?_; clear S; intro h S) | (refine sE2 S rfl rfl ?_; clear S; intro h S)); (first | refine ixB S ?_ | refine ixS2 S rfl rfl ?_); (first | (refine sB S rfl rfl ?_; clear S; intro h S) | (refine sE2 S rfl rfl ?_; clear S; intro h S)); refine KO_nil ?_) | (refine K_region (id := 11) ?_; refine mv ?_; (first | refine ad ?_ | refine vl ?_); refine mv ?_; refine KO_nil ?_) | (refine K_region (id := 12) ?_; refine mv ?_; (first | refine sb ?_ | refine vl ?_); refine mv ?_; refine KO_nil ?_)))
  · (try simp only [toNat_pred, toNat_succ, toNat_sum, Int.toNat_natCast] at S)
    refine K_ret ⟨_, rfl, ?_⟩
    exact ⟨j, true, swp m j a, rfl, by omega, s1.step _ _ ⟨by omega, by omega⟩ ⟨by omega, by omega⟩ (by omega), E.done W (by omega) (by omega), S⟩
  (try simp only [toNat_pred, toNat_succ, toNat_sum, Int.toNat_natCast] at S)
  obtain ⟨z1, z2⟩ := E.swap (by omega) (by omega) (hi1 (by omega)) (hj1 (by omega))
  refine k_loop (σ := Nat × Nat × List PL) (fun (i, j, m) h' => Hs h0 h' (.sl v 23 1 eP m :: rs) ∧ Sw a b l m ∧ PartI lt a b x i j m) (fun (i, j, m) => j + 1 - i) (fun (i, j, m) => [(0, v), (1, .int .i64 a), (2, .int .i64 b), (3, .int .i64 q), (4, cvV g cap), (12, .int .i64 i), (13, .int .i64 j)]) (i + 1, j - 1, swp m i j) (by repeat (first | exact Ks.le_nil _ | refine Ks.le_cons rfl ?_ | refine Ks.le_int ?_)) ?_ ?_
  · exact ⟨S, s1.step _ _ ⟨by omega, by omega⟩ ⟨by omega, by omega⟩ (by omega), z2⟩
  clear S s1 x1 E hbi hi0 hi1 hj0 hj1 z1 z2 hml ex hm
  clear hpn
  rintro ⟨i0, j0, m⟩ h ⟨S, s1, E⟩
  have hml := s1.len
  have hpn := s1.lift hp hb
  have hbi := E.bi
  have ex := E.x
  refine k_block ?_
  refine K_cut (σ := Nat) (fun i h' => Hs h0 h' (.sl v 23 1 eP m :: rs) ∧ PartI lt a b x i j0 m ∧ i0 ≤ i ∧ (i ≤ j0 → ¬ lt (m.getD i default) x)) (fun i => [(0, v), (1, .int .i64 a), (2, .int .i64 b), (3, .int .i64 q), (4, cvV g cap), (12, .int .i64 i), (13, .int .i64 j0)]) ?_ ?_
  · all_goals (repeat' (first | refine K_seq ?_ | refine k_cond rfl ?_ | refine K_skip ?_ | refine K_exit ?_ | refine k_block ?_ | refine K_scope ?_ | (refine K_draw (id := 13) ?_; refine mv ?_; refine mv ?_; (first | refine cT ?_ | refine cF ?_ | (refine cS ?_ ?_ <;> intro hc)) <;> (refine mv ?_; (first | refine off ?_ | refine mv ?_); (first | refine off ?_ | refine mv ?_); (first | refine off ?_ | refine mv ?_); (first | refine off ?_ | (first | refine ixB S ?_ | refine ixS2 S rfl rfl ?_)); (first | refine off ?_ | (first | refine lB S rfl rfl ?_ | refine lES2 S rfl rfl ?_ | refine lEB S ?_ | refine lH S ?_)); (first | refine off ?_ | refine mv ?_); (first | refine off ?_ | refine mv ?_); (first | refine off ?_ | (first | refine ixB S ?_ | refine ixS2 S rfl rfl ?_)); (first | refine off ?_ | (first | refine lB S rfl rfl ?_ | refine lES2 S rfl rfl ?_ | refine lEB S ?_ | refine lH S ?_)); (first | (refine off ?_; (first | refine off ?_ | (first | refine cT ?_ | refine cF ?_ | (refine cS ?_ ?_ <;> intro hc))) <;> (refine vl ?_; refine KO_nil ?_)) | skip)))))
    refine k_loop (σ := Nat) (fun i h' => Hs h0 h' (.sl v 23 1 eP m :: rs) ∧ PartI lt a b x i j0 m ∧ i0 ≤ i) (fun i => j0 + 1 - i) (fun i => [(0, v), (1, .int .i64 a), (2, .int .i64 b), (3, .int .i64 q), (4, cvV g cap), (12, .int .i64 i), (13, .int .i64 j0)]) i0 (by repeat (first | exact Ks.le_nil _ | refine Ks.le_cons rfl ?_ | refine Ks.le_int ?_)) ?_ ?_
    · exact ⟨S, E, Nat.le_refl _⟩
    clear S E hbi
    rintro i h ⟨S, E, hi0⟩
    have hbi := E.bi
    all_goals (repeat' (first | refine K_seq ?_ | refine k_cond rfl ?_ | refine K_skip ?_ | refine K_exit ?_ | refine k_block ?_ | refine K_scope ?_ | (refine K_draw (id := 13) ?_; refine mv ?_; refine mv ?_; (first | refine cT ?_ | refine cF ?_ | (refine cS ?_ ?_ <;> intro hc)) <;> (refine mv ?_; (first | refine off ?_ | refine mv ?_); (first | refine off ?_ | refine mv ?_); (first | refine off ?_ | refine mv ?_); (first | refine off ?_ | (first | refine ixB S ?_ | refine ixS2 S rfl rfl ?_)); (first | refine off ?_ | (first | refine lB S rfl rfl ?_ | refine lES2 S rfl rfl ?_ | refine lEB S ?_ | refine lH S ?_)); (first | refine off ?_ | refine mv ?_); (first | refine off ?_ | refine mv ?_); (first | refine off ?_ | (first | refine ixB S ?_ | refine ixS2 S rfl rfl ?_)); (first | refine off ?_ | (first | refine lB S rfl rfl ?_ | refine lES2 S rfl rfl ?_ | refine lEB S ?_ | refine lH S ?_)); (first | (refine off ?_; (first | refine off ?_ | (first | refine cT ?_ | refine cF ?_ | (refine cS ?_ ?_ <;> intro hc))) <;> (refine vl ?_; refine KO_nil ?_)) | skip)))))
    · (try simp only [toNat_pred, toNat_succ, toNat_sum, Int.toNat_natCast])
      (refine KO_call rfl rfl rfl rfl ((C _ _ _ _ S (hpn i (by omega)) (hpn a (by omega))).mono ?_); rintro _ h ⟨d, rfl, ⟨hd, hq⟩ | ⟨hd, hq⟩, x⟩) <;> (replace S := S.join0 x; clear x; rw [ex] at hq; (first | refine off ?_ | (first | refine cT ?_ | refine cF ?_ | (refine cS ?_ ?_ <;> intro hc))) <;> (refine vl ?_; refine KO_nil ?_))
      · all_goals (repeat' (first | refine K_seq ?_ | refine k_cond rfl ?_ | refine K_skip ?_ | refine K_exit ?_ | refine k_block ?_ | refine K_scope ?_ | (refine K_region (id := 14) ?_; refine mv ?_; (first | refine ad ?_ | refine vl ?_); refine mv ?_; refine KO_nil ?_)))
        refine ⟨i + 1, ?_, ?_, (by repeat (first | exact Ks.le_nil _ | refine Ks.le_cons rfl ?_ | refine Ks.le_int ?_))⟩
        · show j0 + 1 - (i + 1) < j0 + 1 - i; omega
        · refine ⟨S, ⟨by omega, fun k q1 q2 => ?_, E.hi, ex⟩, by omega⟩
          rcases Nat.lt_or_ge k i with q | q
          · exact E.lo k q1 q
          · obtain rfl : k = i := by omega
            exact hq
      · all_goals (repeat' (first | refine K_seq ?_ | refine k_cond rfl ?_ | refine K_skip ?_ | refine K_exit ?_ | refine k_block ?_ | refine K_scope ?_ | (refine K_region (id := 14) ?_; refine mv ?_; (first | refine ad ?_ | refine vl ?_); refine mv ?_; refine KO_nil ?_)))
        exact ⟨i, ⟨S, E, hi0, fun _ => hq⟩, ((by repeat (first | exact Ks.le_nil _ | refine Ks.le_cons rfl ?_ | refine Ks.le_int ?_)))⟩
    · exact ⟨i, ⟨S, E, hi0, fun q => by omega⟩, ((by repeat (first | exact Ks.le_nil _ | refine Ks.le_cons rfl ?_ | refine Ks.le_int ?_)))⟩
  clear S E hbi
  rintro i h ⟨S, E, hi0, hi1⟩
  have hbi := E.bi
  refine K_cut (σ := Nat) (fun j h' => Hs h0 h' (.sl v 23 1 eP m :: rs) ∧ PartI lt a b x i j m ∧ j ≤ j0 ∧ (i ≤ j → lt (m.getD j default) x)) (fun j => [(0, v), (1, .int .i64 a), (2, .int .i64 b), (3, .int .i64 q), (4, cvV g cap), (12, .int .i64 i), (13, .int .i64 j)]) ?_ ?_
  · all_goals (repeat' (first | refine K_seq ?_ | refine k_cond rfl ?_ | refine K_skip ?_ | refine K_exit ?_ | refine k_block ?_ | refine K_scope ?_ | (refine K_draw (id := 15) ?_; refine mv ?_; refine mv ?_; (first | refine cT ?_ | refine cF ?_ | (refine cS ?_ ?_ <;> intro hc)) <;> (refine mv ?_; (first | refine off ?_ | refine mv ?_); (first | refine off ?_ | refine mv ?_); (first | refine off ?_ | refine mv ?_); (first | refine off ?_ | (first | refine ixB S ?_ | refine ixS2 S rfl rfl ?_)); (first | refine off ?_ | (first | refine lB S rfl rfl ?_ | refine lES2 S rfl rfl ?_ | refine lEB S ?_ | refine lH S ?_)); (first | refine off ?_ | refine mv ?_); (first | refine off ?_ | refine mv ?_); (first | refine off ?_ | (first | refine ixB S ?_ | refine ixS2 S rfl rfl ?_)); (first | refine off ?_ | (first | refine lB S rfl rfl ?_ | refine lES2 S rfl rfl ?_ | refine lEB S ?_ | refine lH S ?_)); (first | (refine off ?_; (first | refine off ?_ | (first | refine cT ?_ | refine cF ?_ | (refine cS ?_ ?_ <;> intro hc))) <;> ((first | refine off ?_ | refine vl ?_); refine vl ?_; refine KO_nil ?_)) | skip)))))
    refine k_loop (σ := Nat) (fun j h' => Hs h0 h' (.sl v 23 1 eP m :: rs) ∧ PartI lt a b x i j m ∧ j ≤ j0) (fun j => j) (fun j => [(0, v), (1, .int .i64 a), (2, .int .i64 b), (3, .int .i64 q), (4, cvV g cap), (12, .int .i64 i), (13, .int .i64 j)]) j0 (by repeat (first | exact Ks.le_nil _ | refine Ks.le_cons rfl ?_ | refine Ks.le_int ?_)) ?_ ?_
    · exact ⟨S, E, Nat.le_refl _⟩
    clear S E hbi
    rintro j h ⟨S, E, hj0⟩
    have hbi := E.bi
    all_goals (repeat' (first | refine K_seq ?_ | refine k_cond rfl ?_ | refine K_skip ?_ | refine K_exit ?_ | refine k_block ?_ | refine K_scope ?_ | (refine K_draw (id := 15) ?_; refine mv ?_; refine mv ?_; (first | refine cT ?_ | refine cF ?_ | (refine cS ?_ ?_ <;> intro hc)) <;> (refine mv ?_; (first | refine off ?_ | refine mv ?_); (first | refine off ?_ | refine mv ?_); (first | refine off ?_ | refine mv ?_); (first | refine off ?_ | (first | refine ixB S ?_ | refine ixS2 S rfl rfl ?_)); (first | refine off ?_ | (first | refine lB S rfl rfl ?_ | refine lES2 S rfl rfl ?_ | refine lEB S ?_ | refine lH S ?_)); (first | refine off ?_ | refine mv ?_); (first | refine off ?_ | refine mv ?_); (first | refine off ?_ | (first | refine ixB S ?_ | refine ixS2 S rfl rfl ?_)); (first | refine off ?_ | (first | refine lB S rfl rfl ?_ | refine lES2 S rfl rfl ?_ | refine lEB S ?_ | refine lH S ?_)); (first | (refine off ?_; (first | refine off ?_ | (first | refine cT ?_ | refine cF ?_ | (refine cS ?_ ?_ <;> intro hc))) <;> ((first | refine off ?_ | refine vl ?_); refine vl ?_; refine KO_nil ?_)) | skip)))))
    · (try simp only [toNat_pred, toNat_succ, toNat_sum, Int.toNat_natCast])
      (refine KO_call rfl rfl rfl rfl ((C _ _ _ _ S (hpn j (by omega)) (hpn a (by omega))).mono ?_); rintro _ h ⟨d, rfl, ⟨hd, hq⟩ | ⟨hd, hq⟩, x⟩) <;> (replace S := S.join0 x; clear x; rw [ex] at hq; (first | refine off ?_ | (first | refine cT ?_ | refine cF ?_ | (refine cS ?_ ?_ <;> intro hc))) <;> ((first | refine off ?_ | refine vl ?_); refine vl ?_; refine KO_nil ?_))
      · all_goals (repeat' (first | refine K_seq ?_ | refine k_cond rfl ?_ | refine K_skip ?_ | refine K_exit ?_ | refine k_block ?_ | refine K_scope ?_ | (refine K_region (id := 16) ?_; refine mv ?_; (first | refine sb ?_ | refine vl ?_); refine mv ?_; refine KO_nil ?_)))
        exact ⟨j, ⟨S, E, hj0, fun _ => hq⟩, ((by repeat (first | exact Ks.le_nil _ | refine Ks.le_cons rfl ?_ | refine Ks.le_int ?_)))⟩
      · all_goals (repeat' (first | refine K_seq ?_ | refine k_cond rfl ?_ | refine K_skip ?_ | refine K_exit ?_ | refine k_block ?_ | refine K_scope ?_ | (refine K_region (id := 16) ?_; refine mv ?_; (first | refine sb ?_ | refine vl ?_); refine mv ?_; refine KO_nil ?_)))
        refine ⟨j - 1, ?_, ?_, (by repeat (first | exact Ks.le_nil _ | refine Ks.le_cons rfl ?_ | refine Ks.le_int ?_))⟩
        · show j - 1 < j; omega
        · refine ⟨S, ⟨by omega, E.lo, fun k q1 q2 => ?_, ex⟩, by omega⟩
          rcases Nat.lt_or_ge j k with q | q
          · exact E.hi k q q2
          · obtain rfl : k = j := by omega
            exact hq
    · exact ⟨j, ⟨S, E, hj0, fun q => by omega⟩, ((by repeat (first | exact Ks.le_nil _ | refine Ks.le_cons rfl ?_ | refine Ks.le_int ?_)))⟩
  clear S E hbi
  rintro j h ⟨S, E, hj0, hj1⟩
  have hbi := E.bi
  skip
  all_goals (repeat' (first | refine K_seq ?_ | refine k_cond rfl ?_ | refine K_skip ?_ | refine K_exit ?_ | refine k_block ?_ | refine K_scope ?_ | (refine K_region (id := 17) ?_; refine mv ?_; refine mv ?_; (first | refine cT ?_ | refine cF ?_ | (refine cS ?_ ?_ <;> intro hc)) <;> (refine KO_nil ?_)) | (refine K_draw (id := 18) ?_; refine mv ?_; refine mv ?_; refine mv ?_; refine mv ?_; refine mv ?_; refine mv ?_; (first | refine ixB S ?_ | refine ixS2 S rfl rfl ?_); (first | refine lB S rfl rfl ?_ | refine lES2 S rfl rfl ?_ | refine lEB S ?_ | refine lH S ?_); refine mv ?_; refine mv ?_; (first | refine ixB S ?_ | refine ixS2 S rfl rfl ?_); (first | refine lB S rfl rfl ?_ | refine lES2 S rfl rfl ?_ | refine lEB S ?_ | refine lH S ?_); (first | refine ixB S ?_ | refine ixS2 S rfl rfl ?_); (first | (refine sB S rfl rfl ?_; clear S; intro h S) | (refine sE2 S rfl rfl ?_; clear S; intro h S)); (first | refine ixB S ?_ | refine ixS2 S rfl rfl ?_); (first | (refine sB S rfl rfl ?_; clear S; intro h S) | (refine sE2 S rfl rfl ?_; clear S; intro h S)); refine KO_nil ?_) | (refine K_region (id := 19) ?_; refine mv ?_; (first | refine ad ?_ | refine vl ?_); refine mv ?_; refine KO_nil ?_) | (refine K_region (id := 20) ?_; refine mv ?_; (first | refine sb ?_ | refine vl ?_); refine mv ?_; refine KO_nil ?_) | (refine K_draw (id := 21) ?_; refine mv ?_; refine mv ?_; refine mv ?_; refine mv ?_; refine mv ?_; refine mv ?_; (first | refine ixB S ?_ | refine ixS2 S rfl rfl ?_); (first | refine lB S rfl rfl ?_ | refine lES2 S rfl rfl ?_ | refine lEB S ?_ | refine lH S ?_); refine mv ?_; refine mv ?_; (first | refine ixB S ?_ | refine ixS2 S rfl rfl ?_); (first | refine lB S rfl rfl ?_ | refine lES2 S rfl rfl ?_ | refine lEB S ?_ | refine lH S ?_); (first | refine ixB S ?_ | refine ixS2 S rfl rfl ?_); (first | (refine sB S rfl rfl ?_; clear S; intro h S) | (refine sE2 S rfl rfl ?_; clear S; intro h S)); (first | refine ixB S ?_ | refine ixS2 S rfl rfl ?_); (first | (refine sB S rfl rfl ?_; clear S; intro h S) | (refine sE2 S rfl rfl ?_; clear S; intro h S)); refine KO_nil ?_) | (refine K_region (id := 22) ?_; refine mv ?_; refine mv ?_; refine mv ?_; refine KO_nil ?_)))
  · (try simp only [toNat_pred, toNat_succ, toNat_sum, Int.toNat_natCast] at S)
    refine K_ret ⟨_, rfl, ?_⟩
    exact ⟨j, false, swp m j a, rfl, by omega, s1.step _ _ ⟨by omega, by omega⟩ ⟨by omega, by omega⟩ (by omega), E.done W (by omega) (by omega), S⟩
  · (try simp only [toNat_pred, toNat_succ, toNat_sum, Int.toNat_natCast] at S)
    obtain ⟨z1, z2⟩ := E.swap (by omega) (by omega) (hi1 (by omega)) (hj1 (by omega))
    refine ⟨(i + 1, j - 1, swp m i j), ?_, ?_, (by repeat (first | exact Ks.le_nil _ | refine Ks.le_cons rfl ?_ | refine Ks.le_int ?_))⟩
    · show j - 1 + 1 - (i + 1) < j0 + 1 - i0; omega
    · exact ⟨S, s1.step _ _ ⟨by omega, by omega⟩ ⟨by omega, by omega⟩ (by omega), z2⟩

end Go.Proofs.Xx
