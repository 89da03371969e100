/-
  Parting a range by an element.
-/
import Derived.Test.YtnopenpheaihmaaGreatDoorM8
import Derived.Below
import Derived.ChangeSame
import Derived.ChangeArms
import Derived.OpenShut

namespace Go.Proofs.Xx
set_option linter.unusedVariables false
section
variable {α : Type} [Inhabited α] {lt : α → α → Prop}
/-- Heaps do not see what is outside. -/
theorem Heap.pop {f i : Nat} {l : List α} (h : Heap lt f 0 (i + 1) l) (hl : f + i < l.length) : Heap lt f 1 i (swp l f (f + i)) := by
  intro k hk
  have g := swp_get (l := l) (i := f) (j := f + i) (by omega) (by omega)
  have hh := h k (Nat.zero_le _)
  refine ⟨fun q => ?_, fun q => ?_⟩
  · rw [g, g, if_neg (by omega), if_neg (by omega), if_neg (by omega), if_neg (by omega)]; exact hh.1 (by omega)
  · rw [g, g, if_neg (by omega), if_neg (by omega), if_neg (by omega), if_neg (by omega)]; exact hh.2 (by omega)
theorem HeapI.done {f n b : Nat} {l : List α} (h : HeapI lt f 0 n l) (hb : b = f + n) : Srt lt f b l := fun i j h1 h2 h3 => by
  have := h.2 (i - f) (j - f) (by omega) (Nat.zero_le _) (by omega)
  rwa [show f + (j - f) = j by omega, show f + (i - f) = i by omega] at this

/-- [a, b), x at its front, is being parted: before i less than x, behind j not less. -/
structure PartI (lt : α → α → Prop) (a b : Nat) (x : α) (i j : Nat) (m : List α) : Prop where
  bi : a < i ∧ i ≤ j + 1 ∧ j < b
  lo : ∀ k, a < k → k < i → lt (m.getD k default) x
  hi : ∀ k, j < k → k < b → ¬ lt (m.getD k default) x
  x : m.getD a default = x
theorem PartI.swap {a b : Nat} {x : α} {i j : Nat} {m : List α} (h : PartI lt a b x i j m) (hb : b ≤ m.length) (hij : i ≤ j) (h1 : ¬ lt (m.getD i default) x) (h2 : lt (m.getD j default) x) : i < j ∧ PartI lt a b x (i + 1) (j - 1) (swp m i j) := by
  have hbi := h.bi
  have hne : i ≠ j := fun q => by subst q; exact h1 h2
  have g := swp_get (l := m) (i := i) (j := j) (by omega) (by omega)
  refine ⟨by omega, ⟨by omega, fun k q1 q2 => ?_, fun k q1 q2 => ?_, ?_⟩⟩
  · rw [g, if_neg (by omega)]
    split
    · exact h2
    · exact h.lo k q1 (by omega)
  · rw [g]
    split
    · exact h1
    · rw [if_neg (by omega)]; exact h.hi k (by omega) q2
  · rw [g, if_neg (by omega), if_neg (by omega)]; exact h.x
theorem PartI.done (W : WOrd lt) {a b : Nat} {x : α} {i j : Nat} {m : List α} (h : PartI lt a b x i j m) (hb : b ≤ m.length) (hij : j < i) : Parted lt a b j (swp m j a) := by
  have hbi := h.bi
  have g := swp_get (l := m) (i := j) (j := a) (by omega) (by omega)
  have gj : (swp m j a).getD j default = x := by
    rw [g]
    split
    · rename_i e; rw [e]; exact h.x
    · rw [if_pos rfl]; exact h.x
  refine ⟨fun k q1 q2 => ?_, fun k q1 q2 => ?_⟩
  · rw [gj, g]
    split
    · exact h.lo j (by omega) (by omega)
    · rw [if_neg (by omega)]; exact h.lo k (by omega) (by omega)
  · rw [gj, g, if_neg (by omega), if_neg (by omega)]; exact h.hi k q1 q2
/-- [a, b), x at its front, is being parted: before i not greater than x, behind j greater. -/
structure EqI (lt : α → α → Prop) (a b : Nat) (x : α) (i j : Nat) (m : List α) : Prop where
  bi : a < i ∧ i ≤ j + 1 ∧ j < b
  lo : ∀ k, a < k → k < i → ¬ lt x (m.getD k default)
  hi : ∀ k, j < k → k < b → lt x (m.getD k default)
  x : m.getD a default = x
theorem EqI.swap {a b : Nat} {x : α} {i j : Nat} {m : List α} (h : EqI lt a b x i j m) (hb : b ≤ m.length) (hij : i ≤ j) (h1 : lt x (m.getD i default)) (h2 : ¬ lt x (m.getD j default)) : i < j ∧ EqI lt a b x (i + 1) (j - 1) (swp m i j) := by
  have hbi := h.bi
  have hne : i ≠ j := fun q => by subst q; exact h2 h1
  have g := swp_get (l := m) (i := i) (j := j) (by omega) (by omega)
  refine ⟨by omega, ⟨by omega, fun k q1 q2 => ?_, fun k q1 q2 => ?_, ?_⟩⟩
  · rw [g, if_neg (by omega)]
    split
    · exact h2
    · exact h.lo k q1 (by omega)
  · rw [g]
    split
    · exact h1
    · rw [if_neg (by omega)]; exact h.hi k (by omega) q2
  · rw [g, if_neg (by omega), if_neg (by omega)]; exact h.x
/-- A step of quicksort's loop, all elements before a' and behind b' in order. -/
theorem DoneI.low {a b a' b' : Nat} {l : List α} (h : DoneI lt a b a' b' l) (h1 : a < a') (h2 : b' ≤ b) : ∀ k, a' ≤ k → k < b' → ¬ lt (l.getD k default) (l.getD (a' - 1) default) := fun k q1 q2 => h (a' - 1) k (by omega) (by omega) (by omega) (.inl (by omega))
end
end Go.Proofs.Xx

/-
  Sorting in place, by the order of ints.
-/
namespace Go.Proofs.Xx
open Go Go.Proofs
set_option linter.unusedSimpArgs false
set_option linter.unusedVariables false
set_option maxRecDepth 100000

abbrev ltI (x y : Int) : Prop := x < y
theorem ltI_ord : WOrd ltI := ⟨fun x h => by unfold ltI at h; omega, fun h1 h2 => by unfold ltI at *; omega, fun h1 h2 => by unfold ltI at *; omega⟩
theorem isNaN_ok {h0 : AH} (w : WfH h0) (x : Int) : Fn Tryz.prog Xh 142 [.int .i64 x] h0 (fun v h' => v = .bool false ∧ Hs h0 h' []) := by
  have S := Hs.start w
  refine Fn_K rfl Tryz.func142 rfl rfl ?_
  all_goals (repeat' (first | refine K_seq ?_ | (refine K_region (id := 0) ?_; refine mv ?_; refine KO_nil ?_) | (refine K_region (id := 1) ?_; refine mv ?_; refine mv ?_; (refine cF ?_) <;> (refine mv ?_; refine KO_nil ?_))))
  refine K_ret ⟨_, rfl, ?_⟩
  exact ⟨rfl, S⟩
theorem less_ok {h0 : AH} (w : WfH h0) (x y : Int) : Fn Tryz.prog Xh 104 [.int .i64 x, .int .i64 y] h0 (fun v h' => BoolIs v (ltI x y) ∧ Hs h0 h' []) := by
  have S := Hs.start w
  refine Fn_K rfl Tryz.func104 rfl rfl ?_
  all_goals (repeat' (first | refine K_seq ?_ | (refine K_region (id := 0) ?_; refine mv ?_; refine KO_nil ?_) | (refine K_region (id := 1) ?_; refine mv ?_)))
  (refine KO_fn rfl rfl rfl rfl rfl ((isNaN_ok S.wf x).mono ?_); rintro _ h ⟨rfl, x⟩) <;> (replace S := S.join0 x; clear x; refine mv ?_; refine off ?_; (first | (refine off ?_; refine off ?_; refine vl ?_; refine mv ?_; refine mv ?_; refine mv ?_; (first | (first | (refine cS ?_ ?_ <;> intro hc))) <;> (refine vl ?_; refine mv ?_; refine KO_nil ?_))))
  all_goals (repeat' (fail))
  all_goals (refine K_ret ⟨_, rfl, ?_⟩)
  · exact ⟨.inl ⟨rfl, by assumption⟩, S⟩
  · exact ⟨.inr ⟨rfl, by assumption⟩, S⟩

theorem ins_o {h0 h : AH} {rs : List Rs} {v : Value} {l : List Int} (a b : Nat) (S : Hs h0 h (.sl v 3 1 eI l :: rs)) (hab : a ≤ b) (hb : b ≤ l.length) (hl : l.length ≤ 1000000) :
    Fn Tryz.prog Xh 209 [v, .int .i64 a, .int .i64 b] h (fun _ h' => ∃ l', Sw a b l l' ∧ Srt ltI a b l' ∧ Hs h0 h' (.sl v 3 1 eI l' :: rs)) := by
  have W : WOrd ltI := ltI_ord
  refine Fn_K rfl Tryz.func209 rfl rfl ?_
  all_goals (repeat' (first | refine K_seq ?_ | refine k_block ?_ | (refine K_region (id := 0) ?_; refine mv ?_; refine ad ?_; refine mv ?_; refine KO_nil ?_)))
  refine k_loop (σ := Nat × List Int) (fun (i, m) h' => Hs h0 h' (.sl v 3 1 eI m :: rs) ∧ a < i ∧ Sw a b l m ∧ Srt ltI a (min i b) m) (fun (i, m) => b - i) (fun (i, m) => [(0, v), (1, .int .i64 a), (2, .int .i64 b), (6, .int .i64 i)]) (a + 1, l) (by repeat (first | exact Ks.le_nil _ | refine Ks.le_cons rfl ?_)) ?_ ?_
  · exact ⟨S, by omega, .refl _, fun i j q1 q2 q3 => by omega⟩
  clear S
  rintro ⟨i, m⟩ h ⟨S, h1, h2, h3⟩
  have hml := h2.len
  all_goals (repeat' (first | refine K_seq ?_ | refine k_cond rfl ?_ | refine K_skip ?_ | refine K_exit ?_ | refine k_block ?_ | (refine K_region (id := 1) ?_; refine mv ?_; refine mv ?_; (first | (refine cS ?_ ?_ <;> intro hc)) <;> (refine KO_nil ?_)) | (refine K_region (id := 3) ?_; refine mv ?_; refine mv ?_; refine KO_nil ?_)))
  · have hib : i < b := by omega
    rw [Nat.min_eq_left (by omega)] at h3
    refine k_loop (σ := Nat × List Int) (fun (j, n) h' => Hs h0 h' (.sl v 3 1 eI n :: rs) ∧ a ≤ j ∧ j ≤ i ∧ Sw a b l n ∧ InsI ltI a i j n) (fun (j, n) => j) (fun (j, n) => [(0, v), (1, .int .i64 a), (2, .int .i64 b), (6, .int .i64 i), (7, .int .i64 j)]) (i, m) (by repeat (first | exact Ks.le_nil _ | refine Ks.le_cons rfl ?_)) ?_ ?_
    · exact ⟨S, by omega, Nat.le_refl _, h2, InsI.start h3⟩
    clear S h2 h3 hml
    rintro ⟨j, n⟩ h ⟨S, k1, k2, k3, k4⟩
    have hnl := k3.len
    skip
    all_goals (repeat' (first | refine K_seq ?_ | refine k_cond rfl ?_ | refine K_exit ?_ | (refine K_region (id := 2) ?_; refine mv ?_; refine ad ?_; refine mv ?_; refine KO_nil ?_) | (refine K_draw (id := 4) ?_; refine mv ?_; refine mv ?_; (first | (refine cS ?_ ?_ <;> intro hc)) <;> (refine mv ?_; (first | refine off ?_ | refine mv ?_); (first | refine off ?_ | refine mv ?_); (first | refine off ?_ | (refine ixS2 S rfl rfl ?_)); (first | refine off ?_ | (refine lES2 S rfl rfl ?_)); (first | refine off ?_ | refine mv ?_); (first | refine off ?_ | refine mv ?_); (first | refine off ?_ | (refine sb ?_)); (first | refine off ?_ | (refine ixS2 S rfl rfl ?_)); (first | refine off ?_ | (refine lES2 S rfl rfl ?_)); (first | (refine off ?_; refine vl ?_; refine KO_nil ?_) | skip)))))
    · simp only [toNat_pred, toNat_succ, toNat_sum, Int.toNat_natCast]
      (refine KO_fn rfl rfl rfl rfl rfl ((less_ok S.wf _ _).mono ?_); rintro _ h ⟨⟨rfl, hq⟩ | ⟨rfl, hq⟩, x⟩) <;> (replace S := S.join0 x; clear x; refine vl ?_; refine KO_nil ?_)
      · all_goals (repeat' (first | refine K_seq ?_ | refine k_cond rfl ?_ | refine K_skip ?_ | refine k_block ?_ | (refine K_region (id := 5) ?_; refine mv ?_; refine sb ?_; refine mv ?_; refine KO_nil ?_) | (refine K_draw (id := 6) ?_; refine mv ?_; refine mv ?_; refine mv ?_; refine mv ?_; refine sb ?_; refine mv ?_; refine mv ?_; refine sb ?_; refine ixS2 S rfl rfl ?_; refine lES2 S rfl rfl ?_; refine mv ?_; refine mv ?_; refine ixS2 S rfl rfl ?_; refine lES2 S rfl rfl ?_; refine ixS2 S rfl rfl ?_; (first | (refine sE2 S rfl rfl ?_; clear S; intro h S)); refine ixS2 S rfl rfl ?_; (first | (refine sE2 S rfl rfl ?_; clear S; intro h S)); refine KO_nil ?_)))
        simp only [toNat_pred, toNat_succ, toNat_sum, Int.toNat_natCast] at S
        refine ⟨(j - 1, swp n j (j - 1)), ?_, ?_, (by repeat (first | exact Ks.le_nil _ | refine Ks.le_cons rfl ?_ | refine Ks.le_int ?_))⟩
        · show j - 1 < j; omega
        · exact ⟨S, by omega, by omega, k3.step j (j - 1) ⟨by omega, by omega⟩ ⟨by omega, by omega⟩ (by omega), k4.next W (by omega) k2 (by omega) hq⟩
      · all_goals (repeat' (first | refine k_cond rfl ?_ | refine K_exit ?_ | (refine K_region (id := 2) ?_; refine mv ?_; refine ad ?_; refine mv ?_; refine KO_nil ?_)))
        refine ⟨(i + 1, n), ?_, ?_, (by repeat (first | exact Ks.le_nil _ | refine Ks.le_cons rfl ?_))⟩
        · show b - (i + 1) < b - i; omega
        · simp only [Nat.min_eq_left (show i + 1 ≤ b by omega)]
          exact ⟨S, by omega, k3, k4.done W (.inr hq)⟩
    · refine ⟨(i + 1, n), ?_, ?_, (by repeat (first | exact Ks.le_nil _ | refine Ks.le_cons rfl ?_))⟩
      · show b - (i + 1) < b - i; omega
      · simp only [Nat.min_eq_left (show i + 1 ≤ b by omega)]
        exact ⟨S, by omega, k3, k4.done W (.inl (by omega))⟩
  · rw [Nat.min_eq_right (by omega)] at h3
    refine ⟨_, rfl, ?_⟩
    exact ⟨m, h2, h3, S⟩

theorem sift_o {h0 h : AH} {rs : List Rs} {v : Value} {l : List Int} (lo hi f : Nat) (S : Hs h0 h (.sl v 3 1 eI l :: rs)) (hlo : lo ≤ hi) (hb : f + hi ≤ l.length) (hl : l.length ≤ 1000000) (hh : Heap ltI f (lo + 1) hi l) :
    Fn Tryz.prog Xh 230 [v, .int .i64 lo, .int .i64 hi, .int .i64 f] h (fun _ h' => ∃ l', Sw f (f + hi) l l' ∧ Heap ltI f lo hi l' ∧ Hs h0 h' (.sl v 3 1 eI l' :: rs)) := by
  have W : WOrd ltI := ltI_ord
  refine Fn_K rfl Tryz.func230 rfl rfl ?_
  all_goals (repeat' (first | refine K_seq ?_ | refine k_block ?_ | (refine K_region (id := 0) ?_; refine mv ?_; refine mv ?_; refine KO_nil ?_)))
  refine k_loop (σ := Nat × List Int) (fun (root, m) h' => Hs h0 h' (.sl v 3 1 eI m :: rs) ∧ (lo ≤ root ∧ root ≤ hi) ∧ Sw f (f + hi) l m ∧ SiftI ltI f lo hi root m) (fun (root, m) => hi - root) (fun (root, m) => [(0, v), (1, .int .i64 lo), (2, .int .i64 hi), (3, .int .i64 f), (8, .int .i64 root)]) (lo, l) (by repeat (first | exact Ks.le_nil _ | refine Ks.le_cons rfl ?_)) ?_ ?_
  · exact ⟨S, ⟨Nat.le_refl _, hlo⟩, .refl _, .start hh⟩
  clear S
  rintro ⟨root, m⟩ h ⟨S, h1, h2, h3⟩
  have hml := h2.len
  skip
  by_cases hc0 : 2 * root + 1 < hi
  rotate_left
  · all_goals (repeat' (first | refine K_seq ?_ | refine k_cond rfl ?_ | refine K_exit ?_ | refine k_block ?_ | (refine K_region (id := 1) ?_; refine mv ?_; refine ml ?_; refine ad ?_; refine mv ?_; refine KO_nil ?_) | (refine K_region (id := 2) ?_; refine mv ?_; refine mv ?_; (refine cT ?_) <;> (refine KO_nil ?_))))
    refine ⟨_, rfl, ?_⟩
    exact ⟨m, h2, h3.done ⟨fun q => by omega, fun q => by omega⟩, S⟩
  have e1 : (2 : Int) * (root : Int) + 1 = ((2 * root + 1 : Nat) : Int) := by omega
  have e2 : ((f : Int) + ((2 * root + 1 : Nat) : Int)).toNat = f + (2 * root + 1) := by omega
  have e3 : ((f : Int) + ((2 * root + 1 : Nat) : Int) + 1).toNat = f + (2 * root + 2) := by omega
  have e4 : ((2 * root + 1 : Nat) : Int) + 1 = ((2 * root + 2 : Nat) : Int) := by omega
  have e5 : ((f : Int) + ((2 * root + 2 : Nat) : Int)).toNat = f + (2 * root + 2) := by omega
  have fin : ∀ c : Nat, (c = 2 * root + 1 ∨ c = 2 * root + 2) → c < hi → ltI (m.getD (f + root) default) (m.getD (f + c) default) → (∀ d, (d = 2 * root + 1 ∨ d = 2 * root + 2) → d < hi → ¬ ltI (m.getD (f + c) default) (m.getD (f + d) default)) → SiftI ltI f lo hi c (swp m (f + root) (f + c)) := fun c g1 g2 g3 g4 => h3.next W h1.1 g1 g2 (by omega) g4 g3
  have stop : ∀ c : Nat, (c = 2 * root + 1 ∨ c = 2 * root + 2) → c < hi → ¬ ltI (m.getD (f + root) default) (m.getD (f + c) default) → (∀ d, (d = 2 * root + 1 ∨ d = 2 * root + 2) → d < hi → ¬ ltI (m.getD (f + c) default) (m.getD (f + d) default)) → Heap ltI f lo hi m := fun c g1 g2 g3 g4 =>
    h3.done ⟨fun q => W.ntr (g4 _ (.inl rfl) q) g3, fun q => W.ntr (g4 _ (.inr rfl) q) g3⟩
  refine k_block ?_
  (repeat (refine K_seq ?_)); refine K_region (id := 1) ?_; refine mv ?_; refine ml ?_; refine ad ?_; refine mv ?_; refine KO_nil ?_
  simp only [e1]
  (repeat (refine K_seq ?_)); refine K_region (id := 2) ?_; refine mv ?_; refine mv ?_; (refine cF ?_) <;> (refine KO_nil ?_)
  refine k_cond rfl ?_; refine K_skip ?_
  refine K_cut (σ := Nat) (fun c h' => Hs h0 h' (.sl v 3 1 eI m :: rs) ∧ (c = 2 * root + 1 ∨ c = 2 * root + 2) ∧ c < hi ∧ ∀ d, (d = 2 * root + 1 ∨ d = 2 * root + 2) → d < hi → ¬ ltI (m.getD (f + c) default) (m.getD (f + d) default)) (fun c => [(0, v), (1, .int .i64 lo), (2, .int .i64 hi), (3, .int .i64 f), (8, .int .i64 root), (9, .int .i64 c)]) ?_ ?_
  · all_goals (repeat' (first | refine K_seq ?_ | refine k_cond rfl ?_ | refine K_skip ?_ | (refine K_draw (id := 3) ?_; refine mv ?_; refine ad ?_; refine mv ?_; (first | (refine cS ?_ ?_ <;> intro hc)) <;> (refine mv ?_; (first | refine off ?_ | refine mv ?_); (first | refine off ?_ | refine mv ?_); (first | refine off ?_ | refine mv ?_); (first | refine off ?_ | (refine ad ?_)); (first | refine off ?_ | (refine ixS2 S rfl rfl ?_)); (first | refine off ?_ | (refine lES2 S rfl rfl ?_)); (first | refine off ?_ | refine mv ?_); (first | refine off ?_ | refine mv ?_); (first | refine off ?_ | refine mv ?_); (first | refine off ?_ | (refine ad ?_)); (first | refine off ?_ | (refine ad ?_)); (first | refine off ?_ | (refine ixS2 S rfl rfl ?_)); (first | refine off ?_ | (refine lES2 S rfl rfl ?_)); (first | (refine off ?_; refine vl ?_; refine KO_nil ?_) | skip)))))
    · simp only [e2, e3]
      (refine KO_fn rfl rfl rfl rfl rfl ((less_ok S.wf _ _).mono ?_); rintro _ h ⟨⟨rfl, hq⟩ | ⟨rfl, hq⟩, x⟩) <;> (replace S := S.join0 x; clear x; refine vl ?_; refine KO_nil ?_)
      · all_goals (repeat' (first | refine k_cond rfl ?_ | (refine K_region (id := 4) ?_; refine mv ?_; refine ad ?_; refine mv ?_; refine KO_nil ?_)))
        exact ⟨2 * root + 2, ⟨S, .inr rfl, by omega, fun d q1 q2 => by rcases q1 with rfl | rfl; exact W.asym hq; exact W.irr _⟩, ((by repeat (first | exact Ks.le_nil _ | refine Ks.le_cons rfl ?_)))⟩
      · all_goals (repeat' (first | refine k_cond rfl ?_ | refine K_skip ?_))
        exact ⟨2 * root + 1, ⟨S, .inl rfl, by omega, fun d q1 q2 => by rcases q1 with rfl | rfl; exact W.irr _; exact hq⟩, ((by repeat (first | exact Ks.le_nil _ | refine Ks.le_cons rfl ?_)))⟩
    · exact ⟨2 * root + 1, ⟨S, .inl rfl, by omega, fun d q1 q2 => by rcases q1 with rfl | rfl; exact W.irr _; omega⟩, ((by repeat (first | exact Ks.le_nil _ | refine Ks.le_cons rfl ?_)))⟩
  clear S
  rintro c h ⟨S, g1, g2, g3⟩
  skip
  all_goals (repeat' (first | refine K_seq ?_ | (refine K_draw (id := 5) ?_; refine mv ?_; refine mv ?_; refine mv ?_; refine ad ?_; refine ixS2 S rfl rfl ?_; refine lES2 S rfl rfl ?_; refine mv ?_; refine mv ?_; refine mv ?_; refine ad ?_; refine ixS2 S rfl rfl ?_; refine lES2 S rfl rfl ?_)))
  simp only [toNat_pred, toNat_succ, toNat_sum, Int.toNat_natCast]
  (refine KO_fn rfl rfl rfl rfl rfl ((less_ok S.wf _ _).mono ?_); rintro _ h ⟨⟨rfl, hq⟩ | ⟨rfl, hq⟩, x⟩) <;> (replace S := S.join0 x; clear x; refine vl ?_; refine KO_nil ?_)
  · all_goals (repeat' (first | refine K_seq ?_ | refine k_cond rfl ?_ | refine K_skip ?_ | (refine K_draw (id := 6) ?_; refine mv ?_; refine mv ?_; refine mv ?_; refine ad ?_; refine mv ?_; refine mv ?_; refine mv ?_; refine ad ?_; refine mv ?_; refine mv ?_; refine mv ?_; refine ad ?_; refine ixS2 S rfl rfl ?_; refine lES2 S rfl rfl ?_; refine mv ?_; refine mv ?_; refine mv ?_; refine ad ?_; refine ixS2 S rfl rfl ?_; refine lES2 S rfl rfl ?_; refine ixS2 S rfl rfl ?_; (first | (refine sE2 S rfl rfl ?_; clear S; intro h S)); refine ixS2 S rfl rfl ?_; (first | (refine sE2 S rfl rfl ?_; clear S; intro h S)); refine KO_nil ?_) | (refine K_region (id := 7) ?_; refine mv ?_; refine mv ?_; refine KO_nil ?_)))
    simp only [toNat_pred, toNat_succ, toNat_sum, Int.toNat_natCast] at S
    refine ⟨(c, swp m (f + root) (f + c)), ?_, ?_, (by repeat (first | exact Ks.le_nil _ | refine Ks.le_cons rfl ?_))⟩
    · show hi - c < hi - root; omega
    · exact ⟨S, ⟨by omega, by omega⟩, h2.step _ _ ⟨by omega, by omega⟩ ⟨by omega, by omega⟩ (by omega), fin c g1 g2 hq g3⟩
  · all_goals (repeat' (refine k_cond rfl ?_))
    refine K_ret ⟨_, rfl, ?_⟩
    exact ⟨m, h2, stop c g1 g2 hq g3, S⟩

theorem heap_o {h0 h : AH} {rs : List Rs} {v : Value} {l : List Int} (a b : Nat) (S : Hs h0 h (.sl v 3 1 eI l :: rs)) (hab : a < b) (hb : b ≤ l.length) (hl : l.length ≤ 1000000) :
    Fn Tryz.prog Xh 210 [v, .int .i64 a, .int .i64 b] h (fun _ h' => ∃ l', Sw a b l l' ∧ Srt ltI a b l' ∧ Hs h0 h' (.sl v 3 1 eI l' :: rs)) := by
  have W : WOrd ltI := ltI_ord
  refine Fn_K rfl Tryz.func210 rfl rfl ?_
  all_goals (repeat' (first | refine K_seq ?_ | refine k_block ?_ | (refine K_region (id := 0) ?_; refine mv ?_; refine mv ?_; refine KO_nil ?_) | (refine K_region (id := 1) ?_; refine mv ?_; refine KO_nil ?_) | (refine K_region (id := 2) ?_; refine mv ?_; refine mv ?_; refine sb ?_; refine mv ?_; refine KO_nil ?_) | (refine K_region (id := 3) ?_; refine mv ?_; refine sb ?_; refine qu ?_; refine mv ?_; refine KO_nil ?_)))
  have e1 : ((b : Int) - (a : Int) - 1) / 2 = (((b - a - 1) / 2 : Nat) : Int) := by omega
  refine k_loop (σ := Nat × List Int) (fun (i, m) h' => Hs h0 h' (.sl v 3 1 eI m :: rs) ∧ i ≤ b - a ∧ Sw a b l m ∧ Heap ltI a i (b - a) m) (fun (i, m) => i) (fun (i, m) => [(0, v), (1, .int .i64 a), (2, .int .i64 b), (6, .int .i64 a), (7, .int .i64 0), (8, .int .i64 (b - a : Nat)), (9, .int .i64 ((i : Int) - 1))]) ((b - a - 1) / 2 + 1, l) (by repeat (first | exact Ks.le_nil _ | refine Ks.le_cons rfl ?_ | refine Ks.le_int ?_)) ?_ ?_
  · exact ⟨S, by omega, .refl _, fun k hk => ⟨fun q => by omega, fun q => by omega⟩⟩
  clear S
  rintro ⟨i, m⟩ h ⟨S, h1, h2, h3⟩
  have hml := h2.len
  skip
  all_goals (repeat' (first | refine K_seq ?_ | refine k_cond rfl ?_ | refine K_skip ?_ | refine K_exit ?_ | refine k_block ?_ | (refine K_region (id := 4) ?_; refine mv ?_; (first | (refine cS ?_ ?_ <;> intro hc)) <;> (refine KO_nil ?_))))
  · have e2 : (i : Int) - 1 = ((i - 1 : Nat) : Int) := by omega
    have h4 : Heap ltI a (i - 1 + 1) (b - a) m := by rw [Nat.sub_add_cancel (by omega)]; exact h3
    refine K_region (id := 6) ?_
    (refine mv ?_; refine mv ?_; refine mv ?_; refine mv ?_; skip)
    simp only [e2]
    (refine KO_fn rfl rfl rfl rfl rfl ((sift_o (i - 1) (b - a) a S (by omega) (by omega) (by omega) h4).mono ?_); rintro _ h ⟨l2, g1, g2, S2⟩) <;> (replace S := S2; clear S2; refine KO_nil ?_)
    rw [show a + (b - a) = b by omega] at g1
    all_goals (repeat' (first | (refine K_region (id := 5) ?_; refine mv ?_; refine sb ?_; refine mv ?_; refine KO_nil ?_)))
    refine ⟨(i - 1, l2), ?_, ?_, (by repeat (first | exact Ks.le_nil _ | refine Ks.le_cons rfl ?_))⟩
    · show i - 1 < i; omega
    · exact ⟨S, by omega, h2.trans g1, g2⟩
  obtain rfl : i = 0 := by omega
  all_goals (repeat' (first | refine k_block ?_ | (refine K_region (id := 7) ?_; refine mv ?_; refine sb ?_; refine mv ?_; refine KO_nil ?_)))
  refine k_loop (σ := Nat × List Int) (fun (i, m) h' => Hs h0 h' (.sl v 3 1 eI m :: rs) ∧ i ≤ b - a ∧ Sw a b l m ∧ HeapI ltI a i (b - a) m) (fun (i, m) => i) (fun (i, m) => [(0, v), (1, .int .i64 a), (2, .int .i64 b), (6, .int .i64 a), (7, .int .i64 0), (8, .int .i64 (b - a : Nat)), (10, .int .i64 ((i : Int) - 1))]) (b - a, m) (by repeat (first | exact Ks.le_nil _ | refine Ks.le_cons rfl ?_)) ?_ ?_
  · exact ⟨S, Nat.le_refl _, h2, h3, fun p q q1 q2 q3 => by omega⟩
  clear S h1 h2 h3 hml
  rintro ⟨i, m⟩ h ⟨S, h1, h2, h3⟩
  have hml := h2.len
  skip
  all_goals (repeat' (first | refine K_seq ?_ | refine k_cond rfl ?_ | refine K_skip ?_ | refine K_exit ?_ | refine k_block ?_ | (refine K_region (id := 8) ?_; refine mv ?_; (first | (refine cS ?_ ?_ <;> intro hc)) <;> (refine KO_nil ?_))))
  · have e2 : (i : Int) - 1 = ((i - 1 : Nat) : Int) := by omega
    obtain ⟨k, rfl⟩ : ∃ k, i = k + 1 := ⟨i - 1, by omega⟩
    all_goals (repeat' (first | (refine K_draw (id := 10) ?_; refine mv ?_; refine mv ?_; refine mv ?_; refine mv ?_; refine mv ?_; refine ad ?_; refine mv ?_; refine mv ?_; refine mv ?_; refine ad ?_; refine ixS2 S rfl rfl ?_; refine lES2 S rfl rfl ?_; refine mv ?_; refine mv ?_; refine ixS2 S rfl rfl ?_; refine lES2 S rfl rfl ?_; refine ixS2 S rfl rfl ?_; (first | (refine sE2 S rfl rfl ?_; clear S; intro h S)); refine ixS2 S rfl rfl ?_; (first | (refine sE2 S rfl rfl ?_; clear S; intro h S)); refine KO_nil ?_)))
    refine K_region (id := 11) ?_
    (refine mv ?_; refine mv ?_; refine mv ?_; refine mv ?_; skip)
    simp only [Nat.add_sub_cancel] at e2
    simp only [e2, toNat_sum, Int.toNat_natCast] at S ⊢
    replace S : Hs h0 h (.sl v 3 1 eI (swp m a (a + k)) :: rs) := S
    have s1 : Sw a b l (swp m a (a + k)) := h2.step _ _ ⟨by omega, by omega⟩ ⟨by omega, by omega⟩ (by omega)
    have hsl := s1.len
    skip
    (refine KO_fn rfl rfl rfl rfl rfl ((sift_o 0 k a S (by omega) (by omega) (by omega) (h3.1.pop (by omega))).mono ?_); rintro _ h ⟨l2, g1, g2, S2⟩) <;> (replace S := S2; clear S2; refine KO_nil ?_)
    all_goals (repeat' (first | (refine K_region (id := 9) ?_; refine mv ?_; refine sb ?_; refine mv ?_; refine KO_nil ?_)))
    refine ⟨(k, l2), ?_, ?_, (by repeat (first | exact Ks.le_nil _ | refine Ks.le_cons rfl ?_))⟩
    · show k < k + 1; omega
    · exact ⟨S, by omega, s1.trans (g1.mono (Nat.le_refl _) (by omega) (by omega)), h3.pop W (by omega) (by omega) g1 g2⟩
  obtain rfl : i = 0 := by omega
  refine ⟨_, rfl, ?_⟩
  exact ⟨m, h2, h3.done (by omega), S⟩

theorem rev_o {h0 h : AH} {rs : List Rs} {v : Value} {l : List Int} (a b : Nat) (S : Hs h0 h (.sl v 3 1 eI l :: rs)) (hab : a < b) (hb : b ≤ l.length) (hl : l.length ≤ 1000000) :
    Fn Tryz.prog Xh 213 [v, .int .i64 a, .int .i64 b] h (fun _ h' => ∃ l', Sw a b l l' ∧ Hs h0 h' (.sl v 3 1 eI l' :: rs)) := by
  have W : WOrd ltI := ltI_ord
  refine Fn_K rfl Tryz.func213 rfl rfl ?_
  all_goals (repeat' (first | refine K_seq ?_ | refine k_block ?_ | (refine K_region (id := 0) ?_; refine mv ?_; refine mv ?_; refine KO_nil ?_) | (refine K_region (id := 1) ?_; refine mv ?_; refine sb ?_; refine mv ?_; refine KO_nil ?_)))
  refine k_loop (σ := Nat × Nat × List Int) (fun (i, j, m) h' => Hs h0 h' (.sl v 3 1 eI m :: rs) ∧ a ≤ i ∧ j < b ∧ Sw a b l m) (fun (i, j, m) => j - i) (fun (i, j, m) => [(0, v), (1, .int .i64 a), (2, .int .i64 b), (6, .int .i64 i), (7, .int .i64 j)]) (a, b - 1, l) (by repeat (first | exact Ks.le_nil _ | refine Ks.le_cons rfl ?_ | refine Ks.le_int ?_)) ?_ ?_
  · exact ⟨S, Nat.le_refl _, by omega, .refl _⟩
  clear S
  rintro ⟨i, j, m⟩ h ⟨S, h1, h2, h3⟩
  have hml := h3.len
  all_goals (repeat' (first | refine K_seq ?_ | refine k_cond rfl ?_ | refine K_skip ?_ | refine K_exit ?_ | refine k_block ?_ | (refine K_region (id := 2) ?_; refine mv ?_; refine mv ?_; (first | (refine cS ?_ ?_ <;> intro hc)) <;> (refine KO_nil ?_)) | (refine K_draw (id := 3) ?_; refine mv ?_; refine mv ?_; refine mv ?_; refine mv ?_; refine mv ?_; refine mv ?_; refine ixS2 S rfl rfl ?_; refine lES2 S rfl rfl ?_; refine mv ?_; refine mv ?_; refine ixS2 S rfl rfl ?_; refine lES2 S rfl rfl ?_; refine ixS2 S rfl rfl ?_; (first | (refine sE2 S rfl rfl ?_; clear S; intro h S)); refine ixS2 S rfl rfl ?_; (first | (refine sE2 S rfl rfl ?_; clear S; intro h S)); refine KO_nil ?_) | (refine K_region (id := 4) ?_; refine mv ?_; refine ad ?_; refine mv ?_; refine KO_nil ?_) | (refine K_region (id := 5) ?_; refine mv ?_; refine sb ?_; refine mv ?_; refine KO_nil ?_)))
  · (try simp only [toNat_pred, toNat_succ, toNat_sum, Int.toNat_natCast] at S)
    refine ⟨(i + 1, j - 1, swp m i j), ?_, ?_, (by repeat (first | exact Ks.le_nil _ | refine Ks.le_cons rfl ?_ | refine Ks.le_int ?_))⟩
    · show j - 1 - (i + 1) < j - i; omega
    · exact ⟨S, by omega, by omega, h3.step _ _ ⟨by omega, by omega⟩ ⟨by omega, by omega⟩ (by omega)⟩
  · refine ⟨_, rfl, ?_⟩
    exact ⟨m, h3, S⟩

theorem ord2_o {h0 h : AH} {rs : List Rs} {v : Value} {l : List Int} {bs : Nat} {s : Int} (x y : Nat) (S : Hs h0 h (.blk bs [.int .i64 s] 3 :: .sl v 3 1 eI l :: rs)) (hx : x < l.length) (hy : y < l.length) (hl : l.length ≤ 1000000) (hs : 0 ≤ s ∧ s ≤ 100) :
    Fn Tryz.prog Xh 240 [v, .int .i64 x, .int .i64 y, .pointer (some ⟨bs, 0, none⟩)] h (fun r h' => ∃ (p q : Nat) (s' : Int), r = .tuple #[.int .i64 p, .int .i64 q] ∧ ((p = x ∧ q = y) ∨ (p = y ∧ q = x)) ∧ (0 ≤ s' ∧ s' ≤ s + 1) ∧ Hs h0 h' (.blk bs [.int .i64 s'] 3 :: .sl v 3 1 eI l :: rs)) := by
  have W : WOrd ltI := ltI_ord
  refine Fn_K rfl Tryz.func240 rfl rfl ?_
  all_goals (repeat' (first | refine K_seq ?_ | (refine K_region (id := 0) ?_; refine mv ?_; refine mv ?_; refine KO_nil ?_) | (refine K_draw (id := 1) ?_; refine mv ?_; refine mv ?_; refine ixS2 S rfl rfl ?_; refine lES2 S rfl rfl ?_; refine mv ?_; refine mv ?_; refine ixS2 S rfl rfl ?_; refine lES2 S rfl rfl ?_)))
  (try simp only [toNat_pred, toNat_succ, toNat_sum, Int.toNat_natCast])
  (refine KO_fn rfl rfl rfl rfl rfl ((less_ok S.wf _ _).mono ?_); rintro _ h ⟨⟨rfl, hq⟩ | ⟨rfl, hq⟩, x⟩) <;> (replace S := S.join0 x; clear x; refine KO_nil ?_)
  · all_goals (repeat' (first | refine K_seq ?_ | refine k_cond rfl ?_ | (refine K_region (id := 2) ?_; refine mv ?_; refine vl ?_; refine lB S rfl rfl ?_; refine ad ?_; refine vl ?_; (first | (refine sB S rfl rfl ?_; clear S; intro h S)); refine KO_nil ?_) | (refine K_region (id := 3) ?_; refine mv ?_; refine mv ?_; refine mv ?_; refine mv ?_; refine KO_nil ?_)))
    refine K_ret ⟨_, rfl, ?_⟩
    exact ⟨y, x, s + 1, rfl, .inr ⟨rfl, rfl⟩, by omega, S⟩
  · all_goals (repeat' (first | refine K_seq ?_ | refine k_cond rfl ?_ | refine K_skip ?_ | (refine K_region (id := 4) ?_; refine mv ?_; refine mv ?_; refine mv ?_; refine mv ?_; refine KO_nil ?_)))
    refine K_ret ⟨_, rfl, ?_⟩
    exact ⟨x, y, s, rfl, .inl ⟨rfl, rfl⟩, by omega, S⟩

theorem med_o {h0 h : AH} {rs : List Rs} {v : Value} {l : List Int} {bs : Nat} {s : Int} (x y z : Nat) (S : Hs h0 h (.blk bs [.int .i64 s] 3 :: .sl v 3 1 eI l :: rs)) (hx : x < l.length) (hy : y < l.length) (hz : z < l.length) (hl : l.length ≤ 1000000) (hs : 0 ≤ s ∧ s ≤ 90) :
    Fn Tryz.prog Xh 232 [v, .int .i64 x, .int .i64 y, .int .i64 z, .pointer (some ⟨bs, 0, none⟩)] h (fun r h' => ∃ (p : Nat) (s' : Int), r = .int .i64 p ∧ (p = x ∨ p = y ∨ p = z) ∧ (0 ≤ s' ∧ s' ≤ s + 3) ∧ Hs h0 h' (.blk bs [.int .i64 s'] 3 :: .sl v 3 1 eI l :: rs)) := by
  have W : WOrd ltI := ltI_ord
  refine Fn_K rfl Tryz.func232 rfl rfl ?_
  all_goals (repeat' (first | refine K_seq ?_ | (refine K_region (id := 0) ?_; refine mv ?_; refine KO_nil ?_) | (refine K_region (id := 1) ?_; refine mv ?_; refine mv ?_; refine mv ?_; refine mv ?_; skip)))
  (refine KO_fn rfl rfl rfl rfl rfl ((ord2_o x y S hx hy hl (by omega)).mono ?_); rintro _ h ⟨p1, q1, s1, rfl, e1, e2, S2⟩) <;> (replace S := S2; clear S2; refine mv ?_; refine vl ?_; refine vl ?_; refine mv ?_; refine mv ?_; refine KO_nil ?_)
  all_goals (repeat' (first | refine K_seq ?_ | (refine K_region (id := 2) ?_; refine mv ?_; refine mv ?_; refine mv ?_; refine mv ?_; skip)))
  have b1 : p1 < l.length ∧ q1 < l.length := by omega
  (refine KO_fn rfl rfl rfl rfl rfl ((ord2_o q1 z S b1.2 hz hl (by omega)).mono ?_); rintro _ h ⟨p2, q2, s2, rfl, e3, e4, S2⟩) <;> (replace S := S2; clear S2; refine mv ?_; refine vl ?_; refine vl ?_; refine mv ?_; refine mv ?_; refine KO_nil ?_)
  all_goals (repeat' (first | refine K_seq ?_ | (refine K_region (id := 3) ?_; refine mv ?_; refine mv ?_; refine mv ?_; refine mv ?_; skip)))
  have b2 : p2 < l.length := by omega
  (refine KO_fn rfl rfl rfl rfl rfl ((ord2_o p1 p2 S b1.1 b2 hl (by omega)).mono ?_); rintro _ h ⟨p3, q3, s3, rfl, e5, e6, S2⟩) <;> (replace S := S2; clear S2; refine mv ?_; refine vl ?_; refine vl ?_; refine mv ?_; refine mv ?_; refine KO_nil ?_)
  all_goals (repeat' (first | refine K_seq ?_ | (refine K_region (id := 4) ?_; refine mv ?_; refine mv ?_; refine KO_nil ?_)))
  refine K_ret ⟨_, rfl, ?_⟩
  exact ⟨q3, s3, rfl, by omega, by omega, S⟩

theorem piv_o {h0 h : AH} {rs : List Rs} {v : Value} {l : List Int} (a b : Nat) (S : Hs h0 h (.sl v 3 1 eI l :: rs)) (hab : 12 < b - a ∧ b - a < 50) (hb : b ≤ l.length) (hl : l.length ≤ 1000000) :
    Fn Tryz.prog Xh 212 [v, .int .i64 a, .int .i64 b] h (fun r h' => ∃ (q : Nat) (t : Int), r = .tuple #[.int .i64 q, .int .i64 t] ∧ (a ≤ q ∧ q < b) ∧ Hs h0 h' (.sl v 3 1 eI l :: rs)) := by
  have W : WOrd ltI := ltI_ord
  refine Fn_K rfl Tryz.func212 rfl rfl ?_
  all_goals (repeat' (first | refine K_seq ?_ | refine k_cond rfl ?_ | refine K_skip ?_ | (refine K_region (id := 0) ?_; refine mv ?_; refine mv ?_; refine KO_nil ?_) | (refine K_region (id := 1) ?_; refine mv ?_; refine mv ?_; refine sb ?_; refine mv ?_; refine KO_nil ?_) | (refine K_region (id := 2) ?_; (refine al S ?_; clear S; intro b h S); refine KO_nil ?_) | (refine K_region (id := 3) ?_; refine mv ?_; refine mv ?_; refine qu ?_; refine ml ?_; refine ad ?_; refine mv ?_; refine KO_nil ?_) | (refine K_region (id := 4) ?_; refine mv ?_; refine mv ?_; refine qu ?_; refine ml ?_; refine ad ?_; refine mv ?_; refine KO_nil ?_) | (refine K_region (id := 5) ?_; refine mv ?_; refine mv ?_; refine qu ?_; refine ml ?_; refine ad ?_; refine mv ?_; refine KO_nil ?_) | (refine K_region (id := 6) ?_; refine mv ?_; (refine cT ?_) <;> (refine KO_nil ?_)) | (refine K_region (id := 7) ?_; refine mv ?_; (refine cF ?_) <;> (refine KO_nil ?_)) | (refine K_region (id := 11) ?_; refine mv ?_; refine mv ?_; refine mv ?_; refine mv ?_; skip)))
  obtain ⟨bs, hnm⟩ : ∃ x, x = b := ⟨_, rfl⟩; subst hnm
  have e1 : (a : Int) + ((b : Int) - (a : Int)) / 4 * 1 = ((a + (b - a) / 4 * 1 : Nat) : Int) := by omega
  have e2 : (a : Int) + ((b : Int) - (a : Int)) / 4 * 2 = ((a + (b - a) / 4 * 2 : Nat) : Int) := by omega
  have e3 : (a : Int) + ((b : Int) - (a : Int)) / 4 * 3 = ((a + (b - a) / 4 * 3 : Nat) : Int) := by omega
  simp only [e1, e2, e3]
  (refine KO_fn rfl rfl rfl rfl rfl ((med_o _ _ _ S (by omega) (by omega) (by omega) hl (by omega)).mono ?_); rintro _ h ⟨q, s, rfl, g1, g2, S2⟩) <;> (replace S := S2; clear S2; refine mv ?_; refine KO_nil ?_)
  all_goals (repeat' (first | refine K_seq ?_ | refine k_cond rfl ?_ | refine k_block ?_ | (refine K_region (id := 12) ?_; refine lB S rfl rfl ?_; refine KO_nil ?_) | (refine K_region (id := 13) ?_; refine mv ?_; refine mv ?_; refine mv ?_; refine KO_nil ?_) | (refine K_region (id := 14) ?_; (first | (refine cS ?_ ?_ <;> intro hc)) <;> (refine mv ?_; refine KO_nil ?_)) | (refine K_region (id := 15) ?_; refine mv ?_; refine mv ?_; refine mv ?_; refine KO_nil ?_) | (refine K_region (id := 16) ?_; (refine cF ?_) <;> (refine mv ?_; refine KO_nil ?_))))
  all_goals (refine K_ret ⟨_, rfl, ?_⟩)
  all_goals exact ⟨q, _, rfl, by omega, S.tail⟩

theorem brk_o {h0 h : AH} {rs : List Rs} {v : Value} {l : List Int} (a b : Nat) (S : Hs h0 h (.sl v 3 1 eI l :: rs)) (hab : 12 < b - a ∧ b - a < 50) (hb : b ≤ l.length) (hl : l.length ≤ 1000000) :
    Fn Tryz.prog Xh 211 [v, .int .i64 a, .int .i64 b] h (fun _ h' => ∃ l', Sw a b l l' ∧ Hs h0 h' (.sl v 3 1 eI l' :: rs)) := by
  have W : WOrd ltI := ltI_ord
  have e1 : (b : Int) - (a : Int) = ((b - a : Nat) : Int) := by omega
  refine Fn_K rfl Tryz.func211 rfl rfl ?_
  all_goals (repeat' (first | refine K_seq ?_ | refine k_cond rfl ?_ | (refine K_region (id := 0) ?_; refine mv ?_; refine mv ?_; refine sb ?_; refine mv ?_; refine KO_nil ?_) | (refine K_region (id := 1) ?_; refine mv ?_; (refine cT ?_) <;> (refine KO_nil ?_)) | (refine K_region (id := 2) ?_; refine mv ?_; refine cW ?_; (refine al S ?_; clear S; intro b h S); (first | (refine sB S rfl rfl ?_; clear S; intro h S)); refine KO_nil ?_) | (refine K_region (id := 3) ?_; refine mv ?_)))
  obtain ⟨bs, hnm⟩ : ∃ x, x = b := ⟨_, rfl⟩; subst hnm
  simp only [e1]
  (refine KO_fn rfl rfl rfl rfl rfl ((npot_ok S.wf (b - a) (by omega)).mono ?_); rintro _ h ⟨P, rfl, hP1, hP2, x⟩) <;> (replace S := S.join0 x; clear x; refine mv ?_; refine KO_nil ?_)
  all_goals (repeat' (first | refine K_seq ?_ | refine k_block ?_ | (refine K_region (id := 4) ?_; refine mv ?_; refine mv ?_; refine qu ?_; refine ml ?_; refine ad ?_; refine sb ?_; refine mv ?_; refine KO_nil ?_)))
  obtain ⟨w0, hw0⟩ : ∃ w0 : Int, w0 = (b : Int) - (a : Int) := ⟨_, rfl⟩
  refine k_loop (σ := Nat × Int × List Int) (fun (i, z, m) h' => Hs h0 h' (.blk bs [.int .u64 z] 188 :: .sl v 3 1 eI m :: rs) ∧ (0 ≤ z ∧ z ≤ 18446744073709551615) ∧ a + (b - a) / 4 * 2 - 1 ≤ i ∧ i ≤ a + (b - a) / 4 * 2 + 2 ∧ Sw a b l m) (fun (i, z, m) => a + (b - a) / 4 * 2 + 2 - i) (fun (i, z, m) => [(0, v), (1, .int .i64 a), (2, .int .i64 b), (6, .int .i64 (b - a : Nat)), (7, .pointer (some ⟨bs, 0, none⟩)), (8, .int .u64 P), (9, .int .i64 i)]) (a + (b - a) / 4 * 2 - 1, w0, l) (by repeat (first | exact Ks.le_nil _ | refine Ks.le_cons rfl ?_ | refine Ks.le_int ?_)) ?_ ?_
  · exact ⟨by rw [hw0]; exact S, by omega, by omega, by omega, .refl _⟩
  clear S
  rintro ⟨i, z, m⟩ h ⟨S, h1, h2, h3, h4⟩
  have hml := h4.len
  all_goals (repeat' (first | refine K_seq ?_ | refine k_cond rfl ?_ | refine K_skip ?_ | refine K_exit ?_ | refine k_block ?_ | (refine K_region (id := 5) ?_; refine mv ?_; refine mv ?_; refine mv ?_; refine qu ?_; refine ml ?_; refine ad ?_; refine ad ?_; (first | (refine cS ?_ ?_ <;> intro hc)) <;> (refine KO_nil ?_)) | (refine K_region (id := 7) ?_; skip)))
  · (refine KO_fn rfl rfl rfl rfl rfl ((xnext_ok S h1).mono ?_); rintro _ h ⟨y, rfl, hy, S2⟩) <;> (replace S := S2; clear S2; refine mv ?_; refine sW ?_; (refine aM ?_; intro r1 hr1 hr2); refine cI ?_; refine mv ?_; refine KO_nil ?_)
    obtain ⟨k, rfl⟩ := Int.eq_ofNat_of_zero_le hr1
    all_goals (repeat' (first | refine K_seq ?_ | refine k_cond rfl ?_ | refine K_skip ?_ | (refine K_region (id := 8) ?_; refine mv ?_; refine mv ?_; (first | (refine cS ?_ ?_ <;> intro hc)) <;> (refine KO_nil ?_)) | (refine K_region (id := 9) ?_; refine mv ?_; refine mv ?_; refine sb ?_; refine mv ?_; refine KO_nil ?_)))
    · have e5 : (k : Int) - ((b - a : Nat) : Int) = ((k - (b - a) : Nat) : Int) := by omega
      simp only [e5]
      skip
      all_goals (repeat' (first | (refine K_region (id := 6) ?_; refine mv ?_; refine ad ?_; refine mv ?_; refine KO_nil ?_) | (refine K_draw (id := 10) ?_; refine mv ?_; refine mv ?_; refine mv ?_; refine mv ?_; refine mv ?_; refine ad ?_; refine mv ?_; refine mv ?_; refine mv ?_; refine ad ?_; refine ixS2 S rfl rfl ?_; refine lES2 S rfl rfl ?_; refine mv ?_; refine mv ?_; refine ixS2 S rfl rfl ?_; refine lES2 S rfl rfl ?_; refine ixS2 S rfl rfl ?_; (first | (refine sE2 S rfl rfl ?_; clear S; intro h S)); refine ixS2 S rfl rfl ?_; (first | (refine sE2 S rfl rfl ?_; clear S; intro h S)); refine KO_nil ?_)))
      (try simp only [toNat_pred, toNat_succ, toNat_sum, Int.toNat_natCast] at S)
      refine ⟨(i + 1, y, swp m i (a + (k - (b - a)))), ?_, ?_, (by repeat (first | exact Ks.le_nil _ | refine Ks.le_cons rfl ?_))⟩
      · show a + (b - a) / 4 * 2 + 2 - (i + 1) < a + (b - a) / 4 * 2 + 2 - i; omega
      · exact ⟨S, hy, by omega, by omega, h4.step _ _ ⟨by omega, by omega⟩ ⟨by omega, by omega⟩ (by omega)⟩
    · skip
      all_goals (repeat' (first | (refine K_region (id := 6) ?_; refine mv ?_; refine ad ?_; refine mv ?_; refine KO_nil ?_) | (refine K_draw (id := 10) ?_; refine mv ?_; refine mv ?_; refine mv ?_; refine mv ?_; refine mv ?_; refine ad ?_; refine mv ?_; refine mv ?_; refine mv ?_; refine ad ?_; refine ixS2 S rfl rfl ?_; refine lES2 S rfl rfl ?_; refine mv ?_; refine mv ?_; refine ixS2 S rfl rfl ?_; refine lES2 S rfl rfl ?_; refine ixS2 S rfl rfl ?_; (first | (refine sE2 S rfl rfl ?_; clear S; intro h S)); refine ixS2 S rfl rfl ?_; (first | (refine sE2 S rfl rfl ?_; clear S; intro h S)); refine KO_nil ?_)))
      (try simp only [toNat_pred, toNat_succ, toNat_sum, Int.toNat_natCast] at S)
      refine ⟨(i + 1, y, swp m i (a + k)), ?_, ?_, (by repeat (first | exact Ks.le_nil _ | refine Ks.le_cons rfl ?_))⟩
      · show a + (b - a) / 4 * 2 + 2 - (i + 1) < a + (b - a) / 4 * 2 + 2 - i; omega
      · exact ⟨S, hy, by omega, by omega, h4.step _ _ ⟨by omega, by omega⟩ ⟨by omega, by omega⟩ (by omega)⟩
  · refine ⟨_, rfl, ?_⟩
    exact ⟨m, h4, S.tail⟩

theorem pins_o {h0 h : AH} {rs : List Rs} {v : Value} {l : List Int} (a b : Nat) (S : Hs h0 h (.sl v 3 1 eI l :: rs)) (hab : 12 < b - a ∧ b - a < 50) (hb : b ≤ l.length) (hl : l.length ≤ 1000000) :
    Fn Tryz.prog Xh 214 [v, .int .i64 a, .int .i64 b] h (fun r h' => BoolIs r (Srt ltI a b l) ∧ Hs h0 h' (.sl v 3 1 eI l :: rs)) := by
  have W : WOrd ltI := ltI_ord
  refine Fn_K rfl Tryz.func214 rfl rfl ?_
  all_goals (repeat' (first | refine K_seq ?_ | refine k_block ?_ | (refine K_region (id := 0) ?_; refine mv ?_; refine KO_nil ?_) | (refine K_region (id := 1) ?_; refine mv ?_; refine ad ?_; refine mv ?_; refine KO_nil ?_) | (refine K_region (id := 2) ?_; refine mv ?_; refine KO_nil ?_)))
  refine k_loop (σ := Unit) (fun _ h' => Hs h0 h' (.sl v 3 1 eI l :: rs)) (fun _ => 0) (fun _ => [(0, v), (1, .int .i64 a), (2, .int .i64 b), (7, .int .i64 (a + 1 : Nat)), (8, .int .i64 0)]) () (by repeat (first | exact Ks.le_nil _ | refine Ks.le_cons rfl ?_)) ?_ ?_
  · exact S
  clear S
  rintro - h S
  all_goals (repeat' (first | refine K_seq ?_ | refine k_cond rfl ?_ | refine K_skip ?_ | refine k_block ?_ | (refine K_region (id := 3) ?_; refine mv ?_; (refine cT ?_) <;> (refine KO_nil ?_))))
  refine k_loop (σ := Nat) (fun i h' => Hs h0 h' (.sl v 3 1 eI l :: rs) ∧ a < i ∧ i ≤ b ∧ Srt ltI a i l) (fun i => b - i) (fun i => [(0, v), (1, .int .i64 a), (2, .int .i64 b), (7, .int .i64 i), (8, .int .i64 0)]) (a + 1) (by repeat (first | exact Ks.le_nil _ | refine Ks.le_cons rfl ?_)) ?_ ?_
  · exact ⟨S, by omega, by omega, fun i j q1 q2 q3 => by omega⟩
  clear S
  rintro i h ⟨S, h1, h2, h3⟩
  all_goals (repeat' (first | refine K_seq ?_ | refine k_cond rfl ?_ | refine K_exit ?_ | (refine K_draw (id := 5) ?_; refine mv ?_; refine mv ?_; (first | (refine cS ?_ ?_ <;> intro hc)) <;> (refine mv ?_; (first | refine off ?_ | refine mv ?_); (first | refine off ?_ | refine mv ?_); (first | refine off ?_ | (refine ixS2 S rfl rfl ?_)); (first | refine off ?_ | (refine lES2 S rfl rfl ?_)); (first | refine off ?_ | refine mv ?_); (first | refine off ?_ | refine mv ?_); (first | refine off ?_ | (refine sb ?_)); (first | refine off ?_ | (refine ixS2 S rfl rfl ?_)); (first | refine off ?_ | (refine lES2 S rfl rfl ?_)); (first | (refine off ?_; refine off ?_; refine vl ?_; refine KO_nil ?_) | skip)))))
  · simp only [toNat_pred, toNat_succ, toNat_sum, Int.toNat_natCast]
    (refine KO_fn rfl rfl rfl rfl rfl ((less_ok S.wf _ _).mono ?_); rintro _ h ⟨⟨rfl, hq⟩ | ⟨rfl, hq⟩, x⟩) <;> (replace S := S.join0 x; clear x; refine vl ?_; refine vl ?_; refine KO_nil ?_)
    · all_goals (repeat' (first | refine K_seq ?_ | refine k_cond rfl ?_ | refine K_skip ?_ | refine K_exit ?_ | (refine K_region (id := 7) ?_; refine mv ?_; refine mv ?_; (refine cF ?_) <;> (refine KO_nil ?_)) | (refine K_region (id := 9) ?_; refine mv ?_; refine mv ?_; refine sb ?_; (refine cT ?_) <;> (refine KO_nil ?_)) | (refine K_region (id := 10) ?_; refine mv ?_; refine KO_nil ?_)))
      refine K_ret ⟨_, rfl, ?_⟩
      refine ⟨.inr ⟨rfl, fun q => q (i - 1) i (by omega) (by omega) (by omega) hq⟩, S⟩
    · all_goals (repeat' (first | refine k_cond rfl ?_ | refine K_skip ?_ | refine k_block ?_ | (refine K_region (id := 6) ?_; refine mv ?_; refine ad ?_; refine mv ?_; refine KO_nil ?_)))
      refine ⟨i + 1, ?_, ?_, (by repeat (first | exact Ks.le_nil _ | refine Ks.le_cons rfl ?_))⟩
      · show b - (i + 1) < b - i; omega
      · refine ⟨S, by omega, by omega, Srt.adj W fun k q1 q2 => ?_⟩
        rcases Nat.lt_or_ge (k + 1) i with q | q
        · exact h3 k (k + 1) q1 (by omega) q
        · obtain rfl : i = k + 1 := by omega
          exact hq
  · obtain rfl : i = b := by omega
    all_goals (repeat' (first | refine K_seq ?_ | refine k_cond rfl ?_ | (refine K_region (id := 7) ?_; refine mv ?_; refine mv ?_; (refine cT ?_) <;> (refine KO_nil ?_)) | (refine K_region (id := 8) ?_; refine mv ?_; refine KO_nil ?_)))
    refine K_ret ⟨_, rfl, ?_⟩
    exact ⟨.inl ⟨rfl, h3⟩, S⟩

theorem peq_o {h0 h : AH} {rs : List Rs} {v : Value} {l : List Int} (a b q : Nat) (S : Hs h0 h (.sl v 3 1 eI l :: rs)) (hab : a ≤ q ∧ q < b) (hb : b ≤ l.length) (hl : l.length ≤ 1000000) :
    Fn Tryz.prog Xh 215 [v, .int .i64 a, .int .i64 b, .int .i64 q] h (fun r h' => ∃ (e : Nat) (l' : List Int), r = .int .i64 e ∧ (a < e ∧ e ≤ b) ∧ Sw a b l l' ∧ (∀ k, a ≤ k → k < e → ¬ ltI (l.getD q default) (l'.getD k default)) ∧ (∀ k, e ≤ k → k < b → ltI (l.getD q default) (l'.getD k default)) ∧ Hs h0 h' (.sl v 3 1 eI l' :: rs)) := by
  have W : WOrd ltI := ltI_ord
  obtain ⟨x, hx⟩ : ∃ x, x = l.getD q default := ⟨_, rfl⟩
  rw [← hx]
  refine Fn_K rfl Tryz.func215 rfl rfl ?_
  all_goals (repeat' (first | refine K_seq ?_ | refine k_block ?_ | (refine K_region (id := 0) ?_; refine mv ?_; refine KO_nil ?_) | (refine K_draw (id := 1) ?_; refine mv ?_; refine mv ?_; refine mv ?_; refine mv ?_; refine mv ?_; refine mv ?_; refine ixS2 S rfl rfl ?_; refine lES2 S rfl rfl ?_; refine mv ?_; refine mv ?_; refine ixS2 S rfl rfl ?_; refine lES2 S rfl rfl ?_; refine ixS2 S rfl rfl ?_; (first | (refine sE2 S rfl rfl ?_; clear S; intro h S)); refine ixS2 S rfl rfl ?_; (first | (refine sE2 S rfl rfl ?_; clear S; intro h S)); refine KO_nil ?_) | (refine K_region (id := 2) ?_; refine mv ?_; refine ad ?_; refine mv ?_; refine sb ?_; refine mv ?_; refine mv ?_; refine KO_nil ?_)))
  (try simp only [toNat_pred, toNat_succ, toNat_sum, Int.toNat_natCast] at S)
  have s1 : Sw a b l (swp l a q) := .one _ _ ⟨by omega, by omega⟩ ⟨by omega, by omega⟩ hb
  have x1 : (swp l a q).getD a default = x := by
    rw [swp_get (by omega) (by omega), hx]
    split
    · rename_i e; rw [e]
    · rw [if_pos rfl]
  refine k_loop (σ := Nat × Nat × List Int) (fun (i, j, m) h' => Hs h0 h' (.sl v 3 1 eI m :: rs) ∧ Sw a b l m ∧ EqI ltI a b x i j m) (fun (i, j, m) => j + 1 - i) (fun (i, j, m) => [(0, v), (1, .int .i64 a), (2, .int .i64 b), (3, .int .i64 q), (9, .int .i64 i), (10, .int .i64 j)]) (a + 1, b - 1, swp l a q) (by repeat (first | exact Ks.le_nil _ | refine Ks.le_cons rfl ?_ | refine Ks.le_int ?_)) ?_ ?_
  · exact ⟨S, s1, ⟨by omega, fun k q1 q2 => by omega, fun k q1 q2 => by omega, x1⟩⟩
  clear S s1 x1
  rintro ⟨i0, j0, m⟩ h ⟨S, s1, E⟩
  have hml := s1.len
  skip
  have hbi := E.bi
  have ex := E.x
  refine k_block ?_
  refine K_cut (σ := Nat) (fun i h' => Hs h0 h' (.sl v 3 1 eI m :: rs) ∧ EqI ltI a b x i j0 m ∧ i0 ≤ i ∧ (i ≤ j0 → ltI x (m.getD i default))) (fun i => [(0, v), (1, .int .i64 a), (2, .int .i64 b), (3, .int .i64 q), (9, .int .i64 i), (10, .int .i64 j0)]) ?_ ?_
  · all_goals (repeat' (refine k_block ?_))
    refine k_loop (σ := Nat) (fun i h' => Hs h0 h' (.sl v 3 1 eI m :: rs) ∧ EqI ltI a b x i j0 m ∧ i0 ≤ i) (fun i => j0 + 1 - i) (fun i => [(0, v), (1, .int .i64 a), (2, .int .i64 b), (3, .int .i64 q), (9, .int .i64 i), (10, .int .i64 j0)]) i0 (by repeat (first | exact Ks.le_nil _ | refine Ks.le_cons rfl ?_)) ?_ ?_
    · exact ⟨S, E, Nat.le_refl _⟩
    clear S E hbi
    rintro i h ⟨S, E, hi0⟩
    have hbi := E.bi
    all_goals (repeat' (first | refine K_seq ?_ | refine k_cond rfl ?_ | refine K_exit ?_ | (refine K_draw (id := 3) ?_; refine mv ?_; refine mv ?_; (first | (refine cS ?_ ?_ <;> intro hc)) <;> (refine mv ?_; (first | refine off ?_ | refine mv ?_); (first | refine off ?_ | refine mv ?_); (first | refine off ?_ | (refine ixS2 S rfl rfl ?_)); (first | refine off ?_ | (refine lES2 S rfl rfl ?_)); (first | refine off ?_ | refine mv ?_); (first | refine off ?_ | refine mv ?_); (first | refine off ?_ | (refine ixS2 S rfl rfl ?_)); (first | refine off ?_ | (refine lES2 S rfl rfl ?_)); (first | (refine off ?_; refine off ?_; refine vl ?_; refine KO_nil ?_) | skip)))))
    · simp only [toNat_pred, toNat_succ, toNat_sum, Int.toNat_natCast]
      (refine KO_fn rfl rfl rfl rfl rfl ((less_ok S.wf _ _).mono ?_); rintro _ h ⟨⟨rfl, hq⟩ | ⟨rfl, hq⟩, x⟩) <;> (replace S := S.join0 x; clear x; rw [ex] at hq; refine vl ?_; refine vl ?_; refine KO_nil ?_)
      · all_goals (repeat' (first | refine k_cond rfl ?_ | refine K_exit ?_))
        exact ⟨i, ⟨S, E, hi0, fun _ => hq⟩, ((by repeat (first | exact Ks.le_nil _ | refine Ks.le_cons rfl ?_)))⟩
      · all_goals (repeat' (first | refine k_cond rfl ?_ | refine K_skip ?_ | refine k_block ?_ | (refine K_region (id := 4) ?_; refine mv ?_; refine ad ?_; refine mv ?_; refine KO_nil ?_)))
        refine ⟨i + 1, ?_, ?_, (by repeat (first | exact Ks.le_nil _ | refine Ks.le_cons rfl ?_))⟩
        · show j0 + 1 - (i + 1) < j0 + 1 - i; omega
        · refine ⟨S, ⟨by omega, fun k q1 q2 => ?_, E.hi, ex⟩, by omega⟩
          rcases Nat.lt_or_ge k i with q | q
          · exact E.lo k q1 q
          · obtain rfl : k = i := by omega
            exact hq
    · exact ⟨i, ⟨S, E, hi0, fun q => by omega⟩, ((by repeat (first | exact Ks.le_nil _ | refine Ks.le_cons rfl ?_)))⟩
  clear S E hbi
  rintro i h ⟨S, E, hi0, hi1⟩
  have hbi := E.bi
  refine K_cut (σ := Nat) (fun j h' => Hs h0 h' (.sl v 3 1 eI m :: rs) ∧ EqI ltI a b x i j m ∧ j ≤ j0 ∧ (i ≤ j → ¬ ltI x (m.getD j default))) (fun j => [(0, v), (1, .int .i64 a), (2, .int .i64 b), (3, .int .i64 q), (9, .int .i64 i), (10, .int .i64 j)]) ?_ ?_
  · all_goals (repeat' (refine k_block ?_))
    refine k_loop (σ := Nat) (fun j h' => Hs h0 h' (.sl v 3 1 eI m :: rs) ∧ EqI ltI a b x i j m ∧ j ≤ j0) (fun j => j) (fun j => [(0, v), (1, .int .i64 a), (2, .int .i64 b), (3, .int .i64 q), (9, .int .i64 i), (10, .int .i64 j)]) j0 (by repeat (first | exact Ks.le_nil _ | refine Ks.le_cons rfl ?_)) ?_ ?_
    · exact ⟨S, E, Nat.le_refl _⟩
    clear S E hbi
    rintro j h ⟨S, E, hj0⟩
    have hbi := E.bi
    all_goals (repeat' (first | refine K_seq ?_ | refine k_cond rfl ?_ | refine K_exit ?_ | (refine K_draw (id := 5) ?_; refine mv ?_; refine mv ?_; (first | (refine cS ?_ ?_ <;> intro hc)) <;> (refine mv ?_; (first | refine off ?_ | refine mv ?_); (first | refine off ?_ | refine mv ?_); (first | refine off ?_ | (refine ixS2 S rfl rfl ?_)); (first | refine off ?_ | (refine lES2 S rfl rfl ?_)); (first | refine off ?_ | refine mv ?_); (first | refine off ?_ | refine mv ?_); (first | refine off ?_ | (refine ixS2 S rfl rfl ?_)); (first | refine off ?_ | (refine lES2 S rfl rfl ?_)); (first | (refine off ?_; refine vl ?_; refine KO_nil ?_) | skip)))))
    · simp only [toNat_pred, toNat_succ, toNat_sum, Int.toNat_natCast]
      (refine KO_fn rfl rfl rfl rfl rfl ((less_ok S.wf _ _).mono ?_); rintro _ h ⟨⟨rfl, hq⟩ | ⟨rfl, hq⟩, x⟩) <;> (replace S := S.join0 x; clear x; rw [ex] at hq; refine vl ?_; refine KO_nil ?_)
      · all_goals (repeat' (first | refine k_cond rfl ?_ | refine K_skip ?_ | refine k_block ?_ | (refine K_region (id := 6) ?_; refine mv ?_; refine sb ?_; refine mv ?_; refine KO_nil ?_)))
        refine ⟨j - 1, ?_, ?_, (by repeat (first | exact Ks.le_nil _ | refine Ks.le_cons rfl ?_ | refine Ks.le_int ?_))⟩
        · show j - 1 < j; omega
        · refine ⟨S, ⟨by omega, E.lo, fun k q1 q2 => ?_, ex⟩, by omega⟩
          rcases Nat.lt_or_ge j k with q | q
          · exact E.hi k q q2
          · obtain rfl : k = j := by omega
            exact hq
      · all_goals (repeat' (first | refine k_cond rfl ?_ | refine K_exit ?_))
        exact ⟨j, ⟨S, E, hj0, fun _ => hq⟩, ((by repeat (first | exact Ks.le_nil _ | refine Ks.le_cons rfl ?_)))⟩
    · exact ⟨j, ⟨S, E, hj0, fun q => by omega⟩, ((by repeat (first | exact Ks.le_nil _ | refine Ks.le_cons rfl ?_)))⟩
  clear S E hbi
  rintro j h ⟨S, E, hj0, hj1⟩
  have hbi := E.bi
  skip
  all_goals (repeat' (first | refine K_seq ?_ | refine k_cond rfl ?_ | refine K_skip ?_ | refine K_exit ?_ | (refine K_region (id := 7) ?_; refine mv ?_; refine mv ?_; (first | (refine cS ?_ ?_ <;> intro hc)) <;> (refine KO_nil ?_)) | (refine K_draw (id := 8) ?_; refine mv ?_; refine mv ?_; refine mv ?_; refine mv ?_; refine mv ?_; refine mv ?_; refine ixS2 S rfl rfl ?_; refine lES2 S rfl rfl ?_; refine mv ?_; refine mv ?_; refine ixS2 S rfl rfl ?_; refine lES2 S rfl rfl ?_; refine ixS2 S rfl rfl ?_; (first | (refine sE2 S rfl rfl ?_; clear S; intro h S)); refine ixS2 S rfl rfl ?_; (first | (refine sE2 S rfl rfl ?_; clear S; intro h S)); refine KO_nil ?_) | (refine K_region (id := 9) ?_; refine mv ?_; refine ad ?_; refine mv ?_; refine KO_nil ?_) | (refine K_region (id := 10) ?_; refine mv ?_; refine sb ?_; refine mv ?_; refine KO_nil ?_) | (refine K_region (id := 11) ?_; refine mv ?_; refine mv ?_; refine KO_nil ?_)))
  · refine K_ret ⟨_, rfl, ?_⟩
    refine ⟨i, m, rfl, by omega, s1, fun k q1 q2 => ?_, fun k q1 q2 => E.hi k (by omega) q2, S⟩
    rcases Nat.lt_or_ge a k with q | q
    · exact E.lo k q q2
    · obtain rfl : k = a := by omega
      rw [ex]; exact W.irr _
  · (try simp only [toNat_pred, toNat_succ, toNat_sum, Int.toNat_natCast] at S)
    obtain ⟨z1, z2⟩ := E.swap (by omega) (by omega) (hi1 (by omega)) (hj1 (by omega))
    refine ⟨(i + 1, j - 1, swp m i j), ?_, ?_, (by repeat (first | exact Ks.le_nil _ | refine Ks.le_cons rfl ?_ | refine Ks.le_int ?_))⟩
    · show j - 1 + 1 - (i + 1) < j0 + 1 - i0; omega
    · exact ⟨S, s1.step _ _ ⟨by omega, by omega⟩ ⟨by omega, by omega⟩ (by omega), z2⟩

theorem part_o {h0 h : AH} {rs : List Rs} {v : Value} {l : List Int} (a b q : Nat) (S : Hs h0 h (.sl v 3 1 eI l :: rs)) (hab : a ≤ q ∧ q < b) (hb : b ≤ l.length) (hl : l.length ≤ 1000000) :
    Fn Tryz.prog Xh 216 [v, .int .i64 a, .int .i64 b, .int .i64 q] h (fun r h' => ∃ (e : Nat) (f : Bool) (l' : List Int), r = .tuple #[.int .i64 e, .bool f] ∧ (a ≤ e ∧ e < b) ∧ Sw a b l l' ∧ Parted ltI a b e l' ∧ Hs h0 h' (.sl v 3 1 eI l' :: rs)) := by
  have W : WOrd ltI := ltI_ord
  obtain ⟨x, hx⟩ : ∃ x, x = l.getD q default := ⟨_, rfl⟩
  refine Fn_K rfl Tryz.func216 rfl rfl ?_
  all_goals (repeat' (first | refine K_seq ?_ | (refine K_region (id := 0) ?_; refine mv ?_; refine mv ?_; refine KO_nil ?_) | (refine K_draw (id := 1) ?_; refine mv ?_; refine mv ?_; refine mv ?_; refine mv ?_; refine mv ?_; refine mv ?_; refine ixS2 S rfl rfl ?_; refine lES2 S rfl rfl ?_; refine mv ?_; refine mv ?_; refine ixS2 S rfl rfl ?_; refine lES2 S rfl rfl ?_; refine ixS2 S rfl rfl ?_; (first | (refine sE2 S rfl rfl ?_; clear S; intro h S)); refine ixS2 S rfl rfl ?_; (first | (refine sE2 S rfl rfl ?_; clear S; intro h S)); refine KO_nil ?_)))
  (repeat (refine K_seq ?_)); refine K_region (id := 2) ?_; refine mv ?_; refine ad ?_; refine mv ?_; refine sb ?_; refine mv ?_; refine mv ?_; refine KO_nil ?_
  (try simp only [toNat_pred, toNat_succ, toNat_sum, Int.toNat_natCast] at S)
  have s1 : Sw a b l (swp l a q) := .one _ _ ⟨by omega, by omega⟩ ⟨by omega, by omega⟩ hb
  have x1 : (swp l a q).getD a default = x := by
    rw [swp_get (by omega) (by omega), hx]
    split
    · rename_i e; rw [e]
    · rw [if_pos rfl]
  obtain ⟨m, hm⟩ : ∃ m, m = swp l a q := ⟨_, rfl⟩
  replace S : Hs h0 h (.sl v 3 1 eI m :: rs) := by rw [hm]; exact S
  rw [← hm] at s1 x1
  have hml := s1.len
  skip
  have ex := x1
  have E : PartI ltI a b x (a + 1) (b - 1) m := ⟨by omega, fun k q1 q2 => by omega, fun k q1 q2 => by omega, x1⟩
  have hbi := E.bi
  refine K_cut (σ := Nat) (fun i h' => Hs h0 h' (.sl v 3 1 eI m :: rs) ∧ PartI ltI a b x i (b - 1) m ∧ (a + 1) ≤ i ∧ (i ≤ (b - 1) → ¬ ltI (m.getD i default) x)) (fun i => [(0, v), (1, .int .i64 a), (2, .int .i64 b), (3, .int .i64 q), (10, .int .i64 i), (11, .int .i64 (b - 1 : Nat))]) ?_ ?_
  · all_goals (repeat' (refine k_block ?_))
    refine k_loop (σ := Nat) (fun i h' => Hs h0 h' (.sl v 3 1 eI m :: rs) ∧ PartI ltI a b x i (b - 1) m ∧ (a + 1) ≤ i) (fun i => (b - 1) + 1 - i) (fun i => [(0, v), (1, .int .i64 a), (2, .int .i64 b), (3, .int .i64 q), (10, .int .i64 i), (11, .int .i64 (b - 1 : Nat))]) (a + 1) (by repeat (first | exact Ks.le_nil _ | refine Ks.le_cons rfl ?_ | refine Ks.le_int ?_)) ?_ ?_
    · exact ⟨S, E, Nat.le_refl _⟩
    clear S E hbi
    rintro i h ⟨S, E, hi0⟩
    have hbi := E.bi
    all_goals (repeat' (first | refine K_seq ?_ | refine k_cond rfl ?_ | refine K_exit ?_ | (refine K_draw (id := 3) ?_; refine mv ?_; refine mv ?_; (first | (refine cS ?_ ?_ <;> intro hc)) <;> (refine mv ?_; (first | refine off ?_ | refine mv ?_); (first | refine off ?_ | refine mv ?_); (first | refine off ?_ | (refine ixS2 S rfl rfl ?_)); (first | refine off ?_ | (refine lES2 S rfl rfl ?_)); (first | refine off ?_ | refine mv ?_); (first | refine off ?_ | refine mv ?_); (first | refine off ?_ | (refine ixS2 S rfl rfl ?_)); (first | refine off ?_ | (refine lES2 S rfl rfl ?_)); (first | (refine off ?_; refine vl ?_; refine KO_nil ?_) | skip)))))
    · simp only [toNat_pred, toNat_succ, toNat_sum, Int.toNat_natCast]
      (refine KO_fn rfl rfl rfl rfl rfl ((less_ok S.wf _ _).mono ?_); rintro _ h ⟨⟨rfl, hq⟩ | ⟨rfl, hq⟩, x⟩) <;> (replace S := S.join0 x; clear x; rw [ex] at hq; refine vl ?_; refine KO_nil ?_)
      · all_goals (repeat' (first | refine k_cond rfl ?_ | refine K_skip ?_ | refine k_block ?_ | (refine K_region (id := 4) ?_; refine mv ?_; refine ad ?_; refine mv ?_; refine KO_nil ?_)))
        refine ⟨i + 1, ?_, ?_, (by repeat (first | exact Ks.le_nil _ | refine Ks.le_cons rfl ?_))⟩
        · show (b - 1) + 1 - (i + 1) < (b - 1) + 1 - i; omega
        · refine ⟨S, ⟨by omega, fun k q1 q2 => ?_, E.hi, ex⟩, by omega⟩
          rcases Nat.lt_or_ge k i with q | q
          · exact E.lo k q1 q
          · obtain rfl : k = i := by omega
            exact hq
      · all_goals (repeat' (first | refine k_cond rfl ?_ | refine K_exit ?_))
        exact ⟨i, ⟨S, E, hi0, fun _ => hq⟩, ((by repeat (first | exact Ks.le_nil _ | refine Ks.le_cons rfl ?_)))⟩
    · exact ⟨i, ⟨S, E, hi0, fun q => by omega⟩, ((by repeat (first | exact Ks.le_nil _ | refine Ks.le_cons rfl ?_)))⟩
  clear S E hbi
  rintro i h ⟨S, E, hi0, hi1⟩
  have hbi := E.bi
  refine K_cut (σ := Nat) (fun j h' => Hs h0 h' (.sl v 3 1 eI m :: rs) ∧ PartI ltI a b x i j m ∧ j ≤ (b - 1) ∧ (i ≤ j → ltI (m.getD j default) x)) (fun j => [(0, v), (1, .int .i64 a), (2, .int .i64 b), (3, .int .i64 q), (10, .int .i64 i), (11, .int .i64 j)]) ?_ ?_
  · all_goals (repeat' (refine k_block ?_))
    refine k_loop (σ := Nat) (fun j h' => Hs h0 h' (.sl v 3 1 eI m :: rs) ∧ PartI ltI a b x i j m ∧ j ≤ (b - 1)) (fun j => j) (fun j => [(0, v), (1, .int .i64 a), (2, .int .i64 b), (3, .int .i64 q), (10, .int .i64 i), (11, .int .i64 j)]) (b - 1) (by repeat (first | exact Ks.le_nil _ | refine Ks.le_cons rfl ?_)) ?_ ?_
    · exact ⟨S, E, Nat.le_refl _⟩
    clear S E hbi
    rintro j h ⟨S, E, hj0⟩
    have hbi := E.bi
    all_goals (repeat' (first | refine K_seq ?_ | refine k_cond rfl ?_ | refine K_exit ?_ | (refine K_draw (id := 5) ?_; refine mv ?_; refine mv ?_; (first | (refine cS ?_ ?_ <;> intro hc)) <;> (refine mv ?_; (first | refine off ?_ | refine mv ?_); (first | refine off ?_ | refine mv ?_); (first | refine off ?_ | (refine ixS2 S rfl rfl ?_)); (first | refine off ?_ | (refine lES2 S rfl rfl ?_)); (first | refine off ?_ | refine mv ?_); (first | refine off ?_ | refine mv ?_); (first | refine off ?_ | (refine ixS2 S rfl rfl ?_)); (first | refine off ?_ | (refine lES2 S rfl rfl ?_)); (first | (refine off ?_; refine off ?_; refine vl ?_; refine KO_nil ?_) | skip)))))
    · simp only [toNat_pred, toNat_succ, toNat_sum, Int.toNat_natCast]
      (refine KO_fn rfl rfl rfl rfl rfl ((less_ok S.wf _ _).mono ?_); rintro _ h ⟨⟨rfl, hq⟩ | ⟨rfl, hq⟩, x⟩) <;> (replace S := S.join0 x; clear x; rw [ex] at hq; refine vl ?_; refine vl ?_; refine KO_nil ?_)
      · all_goals (repeat' (first | refine k_cond rfl ?_ | refine K_exit ?_))
        exact ⟨j, ⟨S, E, hj0, fun _ => hq⟩, ((by repeat (first | exact Ks.le_nil _ | refine Ks.le_cons rfl ?_)))⟩
      · all_goals (repeat' (first | refine k_cond rfl ?_ | refine K_skip ?_ | refine k_block ?_ | (refine K_region (id := 6) ?_; refine mv ?_; refine sb ?_; refine mv ?_; refine KO_nil ?_)))
        refine ⟨j - 1, ?_, ?_, (by repeat (first | exact Ks.le_nil _ | refine Ks.le_cons rfl ?_ | refine Ks.le_int ?_))⟩
        · show j - 1 < j; omega
        · refine ⟨S, ⟨by omega, E.lo, fun k q1 q2 => ?_, ex⟩, by omega⟩
          rcases Nat.lt_or_ge j k with q | q
          · exact E.hi k q q2
          · obtain rfl : k = j := by omega
            exact hq
    · exact ⟨j, ⟨S, E, hj0, fun q => by omega⟩, ((by repeat (first | exact Ks.le_nil _ | refine Ks.le_cons rfl ?_)))⟩
  clear S E hbi
  rintro j h ⟨S, E, hj0, hj1⟩
  have hbi := E.bi
  skip
  all_goals (repeat' (first | refine K_seq ?_ | refine k_cond rfl ?_ | refine K_skip ?_ | refine k_block ?_ | (refine K_region (id := 7) ?_; refine mv ?_; refine mv ?_; (first | (refine cS ?_ ?_ <;> intro hc)) <;> (refine KO_nil ?_)) | (refine K_draw (id := 8) ?_; refine mv ?_; refine mv ?_; refine mv ?_; refine mv ?_; refine mv ?_; refine mv ?_; refine ixS2 S rfl rfl ?_; refine lES2 S rfl rfl ?_; refine mv ?_; refine mv ?_; refine ixS2 S rfl rfl ?_; refine lES2 S rfl rfl ?_; refine ixS2 S rfl rfl ?_; (first | (refine sE2 S rfl rfl ?_; clear S; intro h S)); refine ixS2 S rfl rfl ?_; (first | (refine sE2 S rfl rfl ?_; clear S; intro h S)); refine KO_nil ?_) | (refine K_region (id := 9) ?_; refine mv ?_; refine mv ?_; refine mv ?_; refine KO_nil ?_) | (refine K_draw (id := 10) ?_; refine mv ?_; refine mv ?_; refine mv ?_; refine mv ?_; refine mv ?_; refine mv ?_; refine ixS2 S rfl rfl ?_; refine lES2 S rfl rfl ?_; refine mv ?_; refine mv ?_; refine ixS2 S rfl rfl ?_; refine lES2 S rfl rfl ?_; refine ixS2 S rfl rfl ?_; (first | (refine sE2 S rfl rfl ?_; clear S; intro h S)); refine ixS2 S rfl rfl ?_; (first | (refine sE2 S rfl rfl ?_; clear S; intro h S)); refine KO_nil ?_) | (refine K_region (id := 11) ?_; refine mv ?_; refine ad ?_; refine mv ?_; refine KO_nil ?_) | (refine K_region (id := 12) ?_; refine mv ?_; refine sb ?_; refine mv ?_; refine KO_nil ?_)))
  · (try simp only [toNat_pred, toNat_succ, toNat_sum, Int.toNat_natCast] at S)
    refine K_ret ⟨_, rfl, ?_⟩
    exact ⟨j, true, swp m j a, rfl, by omega, s1.step _ _ ⟨by omega, by omega⟩ ⟨by omega, by omega⟩ (by omega), E.done W (by omega) (by omega), S⟩
  (try simp only [toNat_pred, toNat_succ, toNat_sum, Int.toNat_natCast] at S)
  obtain ⟨z1, z2⟩ := E.swap (by omega) (by omega) (hi1 (by omega)) (hj1 (by omega))
  refine k_loop (σ := Nat × Nat × List Int) (fun (i, j, m) h' => Hs h0 h' (.sl v 3 1 eI m :: rs) ∧ Sw a b l m ∧ PartI ltI a b x i j m) (fun (i, j, m) => j + 1 - i) (fun (i, j, m) => [(0, v), (1, .int .i64 a), (2, .int .i64 b), (3, .int .i64 q), (10, .int .i64 i), (11, .int .i64 j)]) (i + 1, j - 1, swp m i j) (by repeat (first | exact Ks.le_nil _ | refine Ks.le_cons rfl ?_ | refine Ks.le_int ?_)) ?_ ?_
  · exact ⟨S, s1.step _ _ ⟨by omega, by omega⟩ ⟨by omega, by omega⟩ (by omega), z2⟩
  clear S s1 x1 E hbi hi0 hi1 hj0 hj1 z1 z2 hml ex hm
  skip
  rintro ⟨i0, j0, m⟩ h ⟨S, s1, E⟩
  have hml := s1.len
  skip
  have hbi := E.bi
  have ex := E.x
  refine k_block ?_
  refine K_cut (σ := Nat) (fun i h' => Hs h0 h' (.sl v 3 1 eI m :: rs) ∧ PartI ltI a b x i j0 m ∧ i0 ≤ i ∧ (i ≤ j0 → ¬ ltI (m.getD i default) x)) (fun i => [(0, v), (1, .int .i64 a), (2, .int .i64 b), (3, .int .i64 q), (10, .int .i64 i), (11, .int .i64 j0)]) ?_ ?_
  · all_goals (repeat' (refine k_block ?_))
    refine k_loop (σ := Nat) (fun i h' => Hs h0 h' (.sl v 3 1 eI m :: rs) ∧ PartI ltI a b x i j0 m ∧ i0 ≤ i) (fun i => j0 + 1 - i) (fun i => [(0, v), (1, .int .i64 a), (2, .int .i64 b), (3, .int .i64 q), (10, .int .i64 i), (11, .int .i64 j0)]) i0 (by repeat (first | exact Ks.le_nil _ | refine Ks.le_cons rfl ?_)) ?_ ?_
    · exact ⟨S, E, Nat.le_refl _⟩
    clear S E hbi
    rintro i h ⟨S, E, hi0⟩
    have hbi := E.bi
    all_goals (repeat' (first | refine K_seq ?_ | refine k_cond rfl ?_ | refine K_exit ?_ | (refine K_draw (id := 13) ?_; refine mv ?_; refine mv ?_; (first | (refine cS ?_ ?_ <;> intro hc)) <;> (refine mv ?_; (first | refine off ?_ | refine mv ?_); (first | refine off ?_ | refine mv ?_); (first | refine off ?_ | (refine ixS2 S rfl rfl ?_)); (first | refine off ?_ | (refine lES2 S rfl rfl ?_)); (first | refine off ?_ | refine mv ?_); (first | refine off ?_ | refine mv ?_); (first | refine off ?_ | (refine ixS2 S rfl rfl ?_)); (first | refine off ?_ | (refine lES2 S rfl rfl ?_)); (first | (refine off ?_; refine vl ?_; refine KO_nil ?_) | skip)))))
    · simp only [toNat_pred, toNat_succ, toNat_sum, Int.toNat_natCast]
      (refine KO_fn rfl rfl rfl rfl rfl ((less_ok S.wf _ _).mono ?_); rintro _ h ⟨⟨rfl, hq⟩ | ⟨rfl, hq⟩, x⟩) <;> (replace S := S.join0 x; clear x; rw [ex] at hq; refine vl ?_; refine KO_nil ?_)
      · all_goals (repeat' (first | refine k_cond rfl ?_ | refine K_skip ?_ | refine k_block ?_ | (refine K_region (id := 14) ?_; refine mv ?_; refine ad ?_; refine mv ?_; refine KO_nil ?_)))
        refine ⟨i + 1, ?_, ?_, (by repeat (first | exact Ks.le_nil _ | refine Ks.le_cons rfl ?_))⟩
        · show j0 + 1 - (i + 1) < j0 + 1 - i; omega
        · refine ⟨S, ⟨by omega, fun k q1 q2 => ?_, E.hi, ex⟩, by omega⟩
          rcases Nat.lt_or_ge k i with q | q
          · exact E.lo k q1 q
          · obtain rfl : k = i := by omega
            exact hq
      · all_goals (repeat' (first | refine k_cond rfl ?_ | refine K_exit ?_))
        exact ⟨i, ⟨S, E, hi0, fun _ => hq⟩, ((by repeat (first | exact Ks.le_nil _ | refine Ks.le_cons rfl ?_)))⟩
    · exact ⟨i, ⟨S, E, hi0, fun q => by omega⟩, ((by repeat (first | exact Ks.le_nil _ | refine Ks.le_cons rfl ?_)))⟩
  clear S E hbi
  rintro i h ⟨S, E, hi0, hi1⟩
  have hbi := E.bi
  refine K_cut (σ := Nat) (fun j h' => Hs h0 h' (.sl v 3 1 eI m :: rs) ∧ PartI ltI a b x i j m ∧ j ≤ j0 ∧ (i ≤ j → ltI (m.getD j default) x)) (fun j => [(0, v), (1, .int .i64 a), (2, .int .i64 b), (3, .int .i64 q), (10, .int .i64 i), (11, .int .i64 j)]) ?_ ?_
  · all_goals (repeat' (refine k_block ?_))
    refine k_loop (σ := Nat) (fun j h' => Hs h0 h' (.sl v 3 1 eI m :: rs) ∧ PartI ltI a b x i j m ∧ j ≤ j0) (fun j => j) (fun j => [(0, v), (1, .int .i64 a), (2, .int .i64 b), (3, .int .i64 q), (10, .int .i64 i), (11, .int .i64 j)]) j0 (by repeat (first | exact Ks.le_nil _ | refine Ks.le_cons rfl ?_)) ?_ ?_
    · exact ⟨S, E, Nat.le_refl _⟩
    clear S E hbi
    rintro j h ⟨S, E, hj0⟩
    have hbi := E.bi
    all_goals (repeat' (first | refine K_seq ?_ | refine k_cond rfl ?_ | refine K_exit ?_ | (refine K_draw (id := 15) ?_; refine mv ?_; refine mv ?_; (first | (refine cS ?_ ?_ <;> intro hc)) <;> (refine mv ?_; (first | refine off ?_ | refine mv ?_); (first | refine off ?_ | refine mv ?_); (first | refine off ?_ | (refine ixS2 S rfl rfl ?_)); (first | refine off ?_ | (refine lES2 S rfl rfl ?_)); (first | refine off ?_ | refine mv ?_); (first | refine off ?_ | refine mv ?_); (first | refine off ?_ | (refine ixS2 S rfl rfl ?_)); (first | refine off ?_ | (refine lES2 S rfl rfl ?_)); (first | (refine off ?_; refine off ?_; refine vl ?_; refine KO_nil ?_) | skip)))))
    · simp only [toNat_pred, toNat_succ, toNat_sum, Int.toNat_natCast]
      (refine KO_fn rfl rfl rfl rfl rfl ((less_ok S.wf _ _).mono ?_); rintro _ h ⟨⟨rfl, hq⟩ | ⟨rfl, hq⟩, x⟩) <;> (replace S := S.join0 x; clear x; rw [ex] at hq; refine vl ?_; refine vl ?_; refine KO_nil ?_)
      · all_goals (repeat' (first | refine k_cond rfl ?_ | refine K_exit ?_))
        exact ⟨j, ⟨S, E, hj0, fun _ => hq⟩, ((by repeat (first | exact Ks.le_nil _ | refine Ks.le_cons rfl ?_)))⟩
      · all_goals (repeat' (first | refine k_cond rfl ?_ | refine K_skip ?_ | refine k_block ?_ | (refine K_region (id := 16) ?_; refine mv ?_; refine sb ?_; refine mv ?_; refine KO_nil ?_)))
        refine ⟨j - 1, ?_, ?_, (by repeat (first | exact Ks.le_nil _ | refine Ks.le_cons rfl ?_ | refine Ks.le_int ?_))⟩
        · show j - 1 < j; omega
        · refine ⟨S, ⟨by omega, E.lo, fun k q1 q2 => ?_, ex⟩, by omega⟩
          rcases Nat.lt_or_ge j k with q | q
          · exact E.hi k q q2
          · obtain rfl : k = j := by omega
            exact hq
    · exact ⟨j, ⟨S, E, hj0, fun q => by omega⟩, ((by repeat (first | exact Ks.le_nil _ | refine Ks.le_cons rfl ?_)))⟩
  clear S E hbi
  rintro j h ⟨S, E, hj0, hj1⟩
  have hbi := E.bi
  skip
  all_goals (repeat' (first | refine K_seq ?_ | refine k_cond rfl ?_ | refine K_skip ?_ | refine K_exit ?_ | (refine K_region (id := 17) ?_; refine mv ?_; refine mv ?_; (first | (refine cS ?_ ?_ <;> intro hc)) <;> (refine KO_nil ?_)) | (refine K_draw (id := 18) ?_; refine mv ?_; refine mv ?_; refine mv ?_; refine mv ?_; refine mv ?_; refine mv ?_; refine ixS2 S rfl rfl ?_; refine lES2 S rfl rfl ?_; refine mv ?_; refine mv ?_; refine ixS2 S rfl rfl ?_; refine lES2 S rfl rfl ?_; refine ixS2 S rfl rfl ?_; (first | (refine sE2 S rfl rfl ?_; clear S; intro h S)); refine ixS2 S rfl rfl ?_; (first | (refine sE2 S rfl rfl ?_; clear S; intro h S)); refine KO_nil ?_) | (refine K_region (id := 19) ?_; refine mv ?_; refine ad ?_; refine mv ?_; refine KO_nil ?_) | (refine K_region (id := 20) ?_; refine mv ?_; refine sb ?_; refine mv ?_; refine KO_nil ?_) | (refine K_draw (id := 21) ?_; refine mv ?_; refine mv ?_; refine mv ?_; refine mv ?_; refine mv ?_; refine mv ?_; refine ixS2 S rfl rfl ?_; refine lES2 S rfl rfl ?_; refine mv ?_; refine mv ?_; refine ixS2 S rfl rfl ?_; refine lES2 S rfl rfl ?_; refine ixS2 S rfl rfl ?_; (first | (refine sE2 S rfl rfl ?_; clear S; intro h S)); refine ixS2 S rfl rfl ?_; (first | (refine sE2 S rfl rfl ?_; clear S; intro h S)); refine KO_nil ?_) | (refine K_region (id := 22) ?_; refine mv ?_; refine mv ?_; refine mv ?_; refine KO_nil ?_)))
  · (try simp only [toNat_pred, toNat_succ, toNat_sum, Int.toNat_natCast] at S)
    refine K_ret ⟨_, rfl, ?_⟩
    exact ⟨j, false, swp m j a, rfl, by omega, s1.step _ _ ⟨by omega, by omega⟩ ⟨by omega, by omega⟩ (by omega), E.done W (by omega) (by omega), S⟩
  · (try simp only [toNat_pred, toNat_succ, toNat_sum, Int.toNat_natCast] at S)
    obtain ⟨z1, z2⟩ := E.swap (by omega) (by omega) (hi1 (by omega)) (hj1 (by omega))
    refine ⟨(i + 1, j - 1, swp m i j), ?_, ?_, (by repeat (first | exact Ks.le_nil _ | refine Ks.le_cons rfl ?_ | refine Ks.le_int ?_))⟩
    · show j - 1 + 1 - (i + 1) < j0 + 1 - i0; omega
    · exact ⟨S, s1.step _ _ ⟨by omega, by omega⟩ ⟨by omega, by omega⟩ (by omega), z2⟩

end Go.Proofs.Xx

/-
  Quicksort.
-/
namespace Go.Proofs.Xx
open Go Go.Proofs
set_option linter.unusedSimpArgs false
set_option linter.unusedVariables false
set_option maxRecDepth 100000

theorem pdq_o {h0 : AH} {v : Value} : ∀ (n : Nat) {h : AH} {rs : List Rs} {l : List Int} (a b lim : Nat) (S : Hs h0 h (.sl v 3 1 eI l :: rs)) (hn : b - a = n) (hab : a ≤ b) (hb : b ≤ l.length) (hl : l.length ≤ 1000000) (hbig : b - a < 50) (hlim : lim ≤ 1000) (hlow : 0 < a → ∀ k, a ≤ k → k < b → ¬ ltI (l.getD k default) (l.getD (a - 1) default)),
    Fn Tryz.prog Xh 177 [v, .int .i64 a, .int .i64 b, .int .i64 lim] h (fun _ h' => ∃ l', Sw a b l l' ∧ Srt ltI a b l' ∧ Hs h0 h' (.sl v 3 1 eI l' :: rs)) := by
  intro n
  induction n using Nat.strongRecOn with
  | _ n ih =>
  intro h rs l a b lim S hn hab hb hl hbig hlim hlow
  have W : WOrd ltI := ltI_ord
  refine Fn_K rfl Tryz.func177 rfl rfl ?_
  all_goals (repeat' (first | refine K_seq ?_ | refine k_block ?_ | (refine K_region (id := 0) ?_; refine mv ?_; refine KO_nil ?_) | (refine K_region (id := 1) ?_; refine mv ?_; refine KO_nil ?_)))
  refine k_loop (σ := Nat × Nat × Nat × Bool × Bool × List Int) (fun (a1, b1, lim, wb, wp, m) h' => Hs h0 h' (.sl v 3 1 eI m :: rs) ∧ (a ≤ a1 ∧ a1 ≤ b1 ∧ b1 ≤ b) ∧ lim ≤ 1000 ∧ Sw a b l m ∧ DoneI ltI a b a1 b1 m) (fun (a1, b1, lim, wb, wp, m) => b1 - a1) (fun (a1, b1, lim, wb, wp, m) => [(0, v), (1, .int .i64 a1), (2, .int .i64 b1), (3, .int .i64 lim), (8, .bool wb), (9, .bool wp)]) (a, b, lim, true, true, l) (by repeat (first | exact Ks.le_nil _ | refine Ks.le_cons rfl ?_)) ?_ ?_
  · exact ⟨S, by omega, hlim, .refl _, .start⟩
  clear S hlim
  rintro ⟨a1, b1, lim, wb, wp, m⟩ h ⟨S, h1, hlim, h2, D⟩
  have hml := h2.len
  skip
  have low : ∀ m', Sw a1 b1 m m' → 0 < a1 → ∀ k, a1 ≤ k → k < b1 → ¬ ltI (m'.getD k default) (m'.getD (a1 - 1) default) := fun m' s q1 k q2 q3 => by
    rcases Nat.lt_or_ge a a1 with q | q
    · exact (D.sw s h1.1 h1.2.2).low q h1.2.2 k q2 q3
    · obtain rfl : a = a1 := by omega
      have s2 := h2.trans (s.mono (Nat.le_refl _) h1.2.2 (by omega))
      rw [s2.out (k := a - 1) (.inl (by omega))]
      exact s2.all (p := fun y => ¬ ltI y (l.getD (a - 1) default)) (hlow q1) k q2 (by omega)
  have e0 : (b1 : Int) - (a1 : Int) = ((b1 - a1 : Nat) : Int) := by omega
  refine k_block ?_
  (repeat (refine K_seq ?_)); refine K_region (id := 2) ?_; refine mv ?_; refine mv ?_; refine sb ?_; refine mv ?_; refine KO_nil ?_
  simp only [e0]
  (repeat (refine K_seq ?_)); refine K_region (id := 3) ?_; refine mv ?_; (first | (refine cS ?_ ?_ <;> intro hc)) <;> (refine KO_nil ?_)
  · refine k_cond rfl ?_
    all_goals (repeat' (first | refine K_seq ?_ | (refine K_region (id := 4) ?_; refine mv ?_; refine mv ?_; refine mv ?_; skip)))
    (refine KO_fn rfl rfl rfl rfl rfl ((ins_o a1 b1 S h1.2.1 (by omega) (by omega)).mono ?_); rintro _ h ⟨l2, g1, g2, S2⟩) <;> (replace S := S2; clear S2; refine KO_nil ?_)
    all_goals (repeat' (fail))
    refine K_ret ⟨_, rfl, ?_⟩
    exact ⟨l2, h2.trans (g1.mono h1.1 h1.2.2 (by omega)), (D.sw g1 h1.1 h1.2.2).finish g2, S⟩
  have hbig2 : 12 < b1 - a1 ∧ b1 - a1 < 50 := by omega
  refine k_cond rfl ?_; refine K_skip ?_
  (repeat (refine K_seq ?_)); refine K_region (id := 5) ?_; refine mv ?_; (first | (refine cS ?_ ?_ <;> intro hc)) <;> (refine KO_nil ?_)
  · refine k_cond rfl ?_
    all_goals (repeat' (first | refine K_seq ?_ | (refine K_region (id := 6) ?_; refine mv ?_; refine mv ?_; refine mv ?_; skip)))
    (refine KO_fn rfl rfl rfl rfl rfl ((heap_o a1 b1 S (by omega) (by omega) (by omega)).mono ?_); rintro _ h ⟨l2, g1, g2, S2⟩) <;> (replace S := S2; clear S2; refine KO_nil ?_)
    all_goals (repeat' (fail))
    refine K_ret ⟨_, rfl, ?_⟩
    exact ⟨l2, h2.trans (g1.mono h1.1 h1.2.2 (by omega)), (D.sw g1 h1.1 h1.2.2).finish g2, S⟩
  refine k_cond rfl ?_; refine K_skip ?_
  refine K_cut (σ := Nat × List Int) (fun (lim, m2) h' => Hs h0 h' (.sl v 3 1 eI m2 :: rs) ∧ lim ≤ 1000 ∧ Sw a1 b1 m m2) (fun (lim, m2) => [(0, v), (1, .int .i64 a1), (2, .int .i64 b1), (3, .int .i64 lim), (8, .bool wb), (9, .bool wp), (10, .int .i64 (b1 - a1 : Nat))]) ?_ ?_
  · cases wb
    · all_goals (repeat' (first | refine K_seq ?_ | refine k_cond rfl ?_ | (refine K_region (id := 7) ?_; refine mv ?_; refine vl ?_; refine KO_nil ?_) | (refine K_region (id := 8) ?_; refine mv ?_; refine mv ?_; refine mv ?_; skip)))
      (refine KO_fn rfl rfl rfl rfl rfl ((brk_o a1 b1 S hbig2 (by omega) (by omega)).mono ?_); rintro _ h ⟨l2, g1, S2⟩) <;> (replace S := S2; clear S2; refine KO_nil ?_)
      all_goals (repeat' (first | (refine K_region (id := 9) ?_; refine mv ?_; refine sb ?_; refine mv ?_; refine KO_nil ?_)))
      exact ⟨(lim - 1, l2), ⟨S, by show lim - 1 ≤ 1000; omega, g1⟩, ((by repeat (first | exact Ks.le_nil _ | refine Ks.le_cons rfl ?_ | refine Ks.le_int ?_)))⟩
    · all_goals (repeat' (first | refine K_seq ?_ | refine k_cond rfl ?_ | refine K_skip ?_ | (refine K_region (id := 7) ?_; refine mv ?_; refine vl ?_; refine KO_nil ?_)))
      exact ⟨(lim, m), ⟨S, hlim, .refl _⟩, ((by repeat (first | exact Ks.le_nil _ | refine Ks.le_cons rfl ?_)))⟩
  clear S hlim
  rintro ⟨lim, m2⟩ h ⟨S, hlim, g1⟩
  have hm2 := g1.len
  skip
  (repeat (refine K_seq ?_)); refine K_region (id := 10) ?_
  refine mv ?_; refine mv ?_; refine mv ?_; skip
  (refine KO_fn rfl rfl rfl rfl rfl ((piv_o a1 b1 S hbig2 (by omega) (by omega)).mono ?_); rintro _ h ⟨q, t, rfl, hq0, S2⟩) <;> (replace S := S2; clear S2; refine mv ?_; refine vl ?_; refine vl ?_; refine mv ?_; refine mv ?_; refine KO_nil ?_)
  refine K_cut (σ := Nat × Int × List Int) (fun (q, t, m3) h' => Hs h0 h' (.sl v 3 1 eI m3 :: rs) ∧ (a1 ≤ q ∧ q < b1) ∧ Sw a1 b1 m2 m3) (fun (q, t, m3) => [(0, v), (1, .int .i64 a1), (2, .int .i64 b1), (3, .int .i64 lim), (8, .bool wb), (9, .bool wp), (10, .int .i64 (b1 - a1 : Nat)), (11, .int .i64 q), (12, .int .i64 t)]) ?_ ?_
  · all_goals (repeat' (first | refine K_seq ?_ | refine k_cond rfl ?_ | refine K_skip ?_ | (refine K_region (id := 11) ?_; refine mv ?_; (first | (refine cS ?_ ?_ <;> intro hc)) <;> (refine KO_nil ?_)) | (refine K_region (id := 12) ?_; refine mv ?_; refine mv ?_; refine mv ?_; skip)))
    · (refine KO_fn rfl rfl rfl rfl rfl ((rev_o a1 b1 S (by omega) (by omega) (by omega)).mono ?_); rintro _ h ⟨l2, k1, S2⟩) <;> (replace S := S2; clear S2; refine KO_nil ?_)
      all_goals (repeat' (first | refine K_seq ?_ | (refine K_region (id := 13) ?_; refine mv ?_; refine sb ?_; refine mv ?_; refine mv ?_; refine sb ?_; refine sb ?_; refine mv ?_; refine KO_nil ?_) | (refine K_region (id := 14) ?_; refine mv ?_; refine KO_nil ?_)))
      exact ⟨(b1 - 1 - (q - a1), 1, l2), ⟨S, by show a1 ≤ b1 - 1 - (q - a1) ∧ b1 - 1 - (q - a1) < b1; omega, k1⟩, ((by repeat (first | exact Ks.le_nil _ | refine Ks.le_cons rfl ?_ | refine Ks.le_int ?_)))⟩
    · exact ⟨(q, t, m2), ⟨S, hq0, .refl _⟩, ((by repeat (first | exact Ks.le_nil _ | refine Ks.le_cons rfl ?_)))⟩
  clear S hq0
  rintro ⟨q, t, m3⟩ h ⟨S, hq0, g2⟩
  have g13 := g1.trans g2
  have D3 := D.sw g13 h1.1 h1.2.2
  have low3 := low m3 g13
  have s3 := h2.trans (g13.mono h1.1 h1.2.2 (by omega))
  have hm3 := g13.len
  skip
  refine K_cut (σ := Unit) (fun _ h' => Hs h0 h' (.sl v 3 1 eI m3 :: rs)) (fun _ => [(0, v), (1, .int .i64 a1), (2, .int .i64 b1), (3, .int .i64 lim), (8, .bool wb), (9, .bool wp), (10, .int .i64 (b1 - a1 : Nat)), (11, .int .i64 q)]) ?_ ?_
  · cases wb
    · all_goals (repeat' (first | refine K_seq ?_ | refine k_cond rfl ?_ | refine K_skip ?_ | (refine K_region (id := 15) ?_; refine mv ?_; refine mv ?_; refine off ?_; refine vl ?_; refine mv ?_; refine off ?_; (refine off ?_) <;> (refine vl ?_; refine KO_nil ?_))))
      exact ⟨(), S, ((by repeat (first | exact Ks.le_nil _ | refine Ks.le_cons rfl ?_)))⟩
    cases wp
    · all_goals (repeat' (first | refine K_seq ?_ | refine k_cond rfl ?_ | refine K_skip ?_ | (refine K_region (id := 15) ?_; refine mv ?_; refine mv ?_; refine mv ?_; refine vl ?_; refine mv ?_; refine off ?_; (refine off ?_) <;> (refine vl ?_; refine KO_nil ?_))))
      exact ⟨(), S, ((by repeat (first | exact Ks.le_nil _ | refine Ks.le_cons rfl ?_)))⟩
    all_goals (repeat' (first | refine K_seq ?_ | refine k_cond rfl ?_ | refine K_skip ?_ | (refine K_region (id := 15) ?_; refine mv ?_; refine mv ?_; refine mv ?_; refine vl ?_; refine mv ?_; refine mv ?_; (first | (first | (refine cS ?_ ?_ <;> intro hc))) <;> (refine vl ?_; refine KO_nil ?_)) | (refine K_region (id := 16) ?_; refine mv ?_; refine mv ?_; refine mv ?_; skip)))
    · (refine KO_fn rfl rfl rfl rfl rfl ((pins_o a1 b1 S hbig2 (by omega) (by omega)).mono ?_); rintro _ h ⟨⟨rfl, hs⟩ | ⟨rfl, hs⟩, S2⟩) <;> (replace S := S2; clear S2; refine KO_nil ?_)
      · all_goals (repeat' (refine k_cond rfl ?_))
        refine K_ret ⟨_, rfl, ?_⟩
        exact ⟨m3, s3, D3.finish hs, S⟩
      · all_goals (repeat' (first | refine k_cond rfl ?_ | refine K_skip ?_))
        exact ⟨(), S, ((by repeat (first | exact Ks.le_nil _ | refine Ks.le_cons rfl ?_)))⟩
    · exact ⟨(), S, ((by repeat (first | exact Ks.le_nil _ | refine Ks.le_cons rfl ?_)))⟩
  clear S
  rintro - h S
  refine K_cut (σ := Unit) (fun _ h' => Hs h0 h' (.sl v 3 1 eI m3 :: rs)) (fun _ => [(0, v), (1, .int .i64 a1), (2, .int .i64 b1), (3, .int .i64 lim), (8, .bool wb), (9, .bool wp), (10, .int .i64 (b1 - a1 : Nat)), (11, .int .i64 q)]) ?_ ?_
  · all_goals (repeat' (first | refine K_seq ?_ | refine k_cond rfl ?_ | refine K_skip ?_ | (refine K_draw (id := 17) ?_; refine mv ?_; (first | (refine cS ?_ ?_ <;> intro hc)) <;> (refine mv ?_; (first | refine off ?_ | refine mv ?_); (first | refine off ?_ | refine mv ?_); (first | refine off ?_ | (refine sb ?_)); (first | refine off ?_ | (refine ixS2 S rfl rfl ?_)); (first | refine off ?_ | (refine lES2 S rfl rfl ?_)); (first | refine off ?_ | refine mv ?_); (first | refine off ?_ | refine mv ?_); (first | refine off ?_ | (refine ixS2 S rfl rfl ?_)); (first | refine off ?_ | (refine lES2 S rfl rfl ?_)); (first | (refine off ?_; refine off ?_; refine vl ?_; refine KO_nil ?_) | skip)))))
    · simp only [toNat_pred, toNat_succ, toNat_sum, Int.toNat_natCast]
      (refine KO_fn rfl rfl rfl rfl rfl ((less_ok S.wf _ _).mono ?_); rintro _ h ⟨⟨rfl, hq⟩ | ⟨rfl, hq⟩, x⟩) <;> (replace S := S.join0 x; clear x; refine vl ?_; refine vl ?_; refine KO_nil ?_)
      · all_goals (repeat' (first | refine k_cond rfl ?_ | refine K_skip ?_))
        exact ⟨(), S, ((by repeat (first | exact Ks.le_nil _ | refine Ks.le_cons rfl ?_)))⟩
      · all_goals (repeat' (first | refine K_seq ?_ | refine k_cond rfl ?_ | (refine K_region (id := 18) ?_; refine mv ?_; refine mv ?_; refine mv ?_; refine mv ?_; skip)))
        (refine KO_fn rfl rfl rfl rfl rfl ((peq_o a1 b1 q S hq0 (by omega) (by omega)).mono ?_); rintro _ h ⟨e, m4, rfl, e1, e2, e3, e4, S2⟩) <;> (replace S := S2; clear S2; refine mv ?_; refine KO_nil ?_)
        all_goals (repeat' (first | refine K_seq ?_ | refine K_exit ?_ | (refine K_region (id := 19) ?_; refine mv ?_; refine mv ?_; refine KO_nil ?_)))
        refine ⟨(e, b1, lim, wb, wp, m4), ?_, ?_, (by repeat (first | exact Ks.le_nil _ | refine Ks.le_cons rfl ?_))⟩
        · show b1 - e < b1 - a1; omega
        · have s4 := low m4 (g13.trans e2) (by omega)
          refine ⟨S, by (try dsimp only); omega, hlim, s3.trans (e2.mono h1.1 h1.2.2 (by omega)), (D3.sw e2 h1.1 h1.2.2).eq_ W (x := m3.getD q default) (show a1 ≤ e ∧ e ≤ b1 by omega) e3 e4 fun k q1 q2 => ?_⟩
          have := s4 k q1 q2
          rw [e2.out (k := a1 - 1) (.inl (by omega))] at this
          exact W.ntr hq this
    · exact ⟨(), S, ((by repeat (first | exact Ks.le_nil _ | refine Ks.le_cons rfl ?_)))⟩
  clear S
  rintro - h S
  skip
  all_goals (repeat' (first | refine K_seq ?_ | (refine K_region (id := 20) ?_; refine mv ?_; refine mv ?_; refine mv ?_; refine mv ?_; skip)))
  (refine KO_fn rfl rfl rfl rfl rfl ((part_o a1 b1 q S hq0 (by omega) (by omega)).mono ?_); rintro _ h ⟨e, f, m4, rfl, e1, e2, e3, S2⟩) <;> (replace S := S2; clear S2; refine mv ?_; refine vl ?_; refine vl ?_; refine mv ?_; refine mv ?_; refine KO_nil ?_)
  have D4 := D3.sw e2 h1.1 h1.2.2
  have s4 := s3.trans (e2.mono h1.1 h1.2.2 (by omega))
  have hm4 := e2.len
  have low4 := low m4 (g13.trans e2)
  skip
  have ee : (e : Int) + 1 = ((e + 1 : Nat) : Int) := by omega
  all_goals (repeat' (first | refine K_seq ?_ | refine k_cond rfl ?_ | (refine K_region (id := 21) ?_; refine mv ?_; refine mv ?_; refine KO_nil ?_) | (refine K_region (id := 22) ?_; refine mv ?_; refine mv ?_; refine sb ?_; refine mv ?_; refine mv ?_; refine sb ?_; refine mv ?_; refine mv ?_; refine KO_nil ?_) | (refine K_region (id := 23) ?_; refine mv ?_; refine qu ?_; refine mv ?_; refine KO_nil ?_) | (refine K_region (id := 24) ?_; refine mv ?_; refine mv ?_; (first | (refine cS ?_ ?_ <;> intro hc)) <;> (refine KO_nil ?_)) | (refine K_region (id := 25) ?_; refine mv ?_; refine mv ?_; (first | (refine cS ?_ ?_ <;> intro hc)) <;> (refine mv ?_; refine KO_nil ?_)) | (refine K_region (id := 26) ?_; refine mv ?_; refine mv ?_; refine mv ?_; refine mv ?_; skip) | (refine K_region (id := 28) ?_; refine mv ?_; refine mv ?_; (first | (refine cS ?_ ?_ <;> intro hc)) <;> (refine mv ?_; refine KO_nil ?_))))
  · (refine KO_fn rfl rfl rfl rfl rfl ((ih (e - a1) (by omega) a1 e lim S rfl (by omega) (by omega) (by omega) (by omega) hlim (fun z k q1 q2 => low4 z k q1 (by omega))).mono ?_); rintro _ h ⟨m5, k1, k2, S2⟩) <;> (replace S := S2; clear S2; refine KO_nil ?_)
    all_goals (repeat' (first | (refine K_region (id := 27) ?_; refine mv ?_; refine ad ?_; refine mv ?_; refine KO_nil ?_)))
    refine ⟨(e + 1, b1, lim, true, f, m5), ?_, ?_, (by repeat (first | exact Ks.le_nil _ | refine Ks.le_cons rfl ?_))⟩
    · show b1 - (e + 1) < b1 - a1; omega
    · exact ⟨S, by (try dsimp only); omega, hlim, s4.trans (k1.mono h1.1 (by omega) (by omega)), D4.left W e3 (by omega) ⟨h1.1, h1.2.2⟩ k1 k2 (by omega)⟩
  · (refine KO_fn rfl rfl rfl rfl rfl ((ih (e - a1) (by omega) a1 e lim S rfl (by omega) (by omega) (by omega) (by omega) hlim (fun z k q1 q2 => low4 z k q1 (by omega))).mono ?_); rintro _ h ⟨m5, k1, k2, S2⟩) <;> (replace S := S2; clear S2; refine KO_nil ?_)
    all_goals (repeat' (first | (refine K_region (id := 27) ?_; refine mv ?_; refine ad ?_; refine mv ?_; refine KO_nil ?_)))
    refine ⟨(e + 1, b1, lim, false, f, m5), ?_, ?_, (by repeat (first | exact Ks.le_nil _ | refine Ks.le_cons rfl ?_))⟩
    · show b1 - (e + 1) < b1 - a1; omega
    · exact ⟨S, by (try dsimp only); omega, hlim, s4.trans (k1.mono h1.1 (by omega) (by omega)), D4.left W e3 (by omega) ⟨h1.1, h1.2.2⟩ k1 k2 (by omega)⟩
  · refine K_region (id := 29) ?_
    (refine mv ?_; refine mv ?_; refine ad ?_; refine mv ?_; refine mv ?_)
    simp only [ee]
    (refine KO_fn rfl rfl rfl rfl rfl ((ih (b1 - (e + 1)) (by omega) (e + 1) b1 lim S rfl (by omega) (by omega) (by omega) (by omega) hlim (fun z k q1 q2 => e3.2 k (by omega) q2)).mono ?_); rintro _ h ⟨m5, k1, k2, S2⟩) <;> (replace S := S2; clear S2; refine KO_nil ?_)
    all_goals (repeat' (first | (refine K_region (id := 30) ?_; refine mv ?_; refine mv ?_; refine KO_nil ?_)))
    refine ⟨(a1, e, lim, true, f, m5), ?_, ?_, (by repeat (first | exact Ks.le_nil _ | refine Ks.le_cons rfl ?_))⟩
    · show e - a1 < b1 - a1; omega
    · exact ⟨S, by (try dsimp only); omega, hlim, s4.trans (k1.mono (by omega) h1.2.2 (by omega)), D4.right W e3 (by omega) ⟨h1.1, h1.2.2⟩ k1 k2 (by omega)⟩
  · refine K_region (id := 29) ?_
    (refine mv ?_; refine mv ?_; refine ad ?_; refine mv ?_; refine mv ?_)
    simp only [ee]
    (refine KO_fn rfl rfl rfl rfl rfl ((ih (b1 - (e + 1)) (by omega) (e + 1) b1 lim S rfl (by omega) (by omega) (by omega) (by omega) hlim (fun z k q1 q2 => e3.2 k (by omega) q2)).mono ?_); rintro _ h ⟨m5, k1, k2, S2⟩) <;> (replace S := S2; clear S2; refine KO_nil ?_)
    all_goals (repeat' (first | (refine K_region (id := 30) ?_; refine mv ?_; refine mv ?_; refine KO_nil ?_)))
    refine ⟨(a1, e, lim, false, f, m5), ?_, ?_, (by repeat (first | exact Ks.le_nil _ | refine Ks.le_cons rfl ?_))⟩
    · show e - a1 < b1 - a1; omega
    · exact ⟨S, by (try dsimp only); omega, hlim, s4.trans (k1.mono (by omega) h1.2.2 (by omega)), D4.right W e3 (by omega) ⟨h1.1, h1.2.2⟩ k1 k2 (by omega)⟩

theorem sort_o {h0 h : AH} {rs : List Rs} {v : Value} {l : List Int} (S : Hs h0 h (.sl v 3 1 eI l :: rs)) (hl : l.length < 50) :
    Fn Tryz.prog Xh 136 [v] h (fun _ h' => ∃ l', Sw 0 l.length l l' ∧ Srt ltI 0 l.length l' ∧ Hs h0 h' (.sl v 3 1 eI l' :: rs)) := by
  have hk : (lenTab.getD l.length 0).toNat < 256 := UInt8.toNat_lt _
  refine Fn_K rfl Tryz.func136 rfl rfl ?_
  all_goals (repeat' (first | refine K_seq ?_ | (refine K_region (id := 0) ?_; refine mv ?_; refine lnS S rfl rfl ?_; refine mv ?_; refine KO_nil ?_) | (refine K_region (id := 1) ?_; refine mv ?_; refine mv ?_; refine mv ?_; refine cW ?_)))
  (refine KO_fn rfl rfl rfl rfl rfl ((len_ok S.wf l.length (by omega)).mono ?_); rintro _ h ⟨rfl, x⟩) <;> (replace S := S.join0 x; clear x)
  (refine KO_fn rfl rfl rfl rfl rfl ((pdq_o l.length 0 l.length (lenTab.getD l.length 0).toNat S rfl (Nat.zero_le _) (Nat.le_refl _) (by omega) (by omega) (by omega) (fun z => by omega)).mono ?_); rintro _ h ⟨l2, g1, g2, S2⟩) <;> (replace S := S2; clear S2; refine KO_nil ?_)
  all_goals (repeat' (fail))
  refine ⟨_, rfl, ?_⟩
  exact ⟨l2, g1, g2, S⟩

end Go.Proofs.Xx

/-
  What the arguments read as is kept in every world whose old blocks are the same.
-/
namespace Go.Proofs.Xx
open Go Go.RowKit
set_option linter.unusedSimpArgs false
set_option linter.unusedVariables false

section
variable {H : Type} {enc : TypeId × Value → H} {P : Program} {W W' : World}

theorem mapM_keep {α β : Type} {f g : α → Option β} : ∀ {l : List α} {r : List β}, l.mapM f = some r → (∀ a b, a ∈ l → b ∈ r → f a = some b → g a = some b) → l.mapM g = some r := by
  intro l
  induction l with
  | nil => intro r h _; simpa using h
  | cons a l ih =>
    intro r h hk
    rw [List.mapM_cons] at h ⊢
    cases hf : f a with
    | none => rw [hf] at h; cases h
    | some b =>
      rw [hf] at h
      cases hm : l.mapM f with
      | none => rw [hm] at h; cases h
      | some r' =>
        rw [hm] at h
        simp at h
        subst h
        rw [hk a b (by simp) (by simp) hf, ih hm fun x y hx hy => hk x y (by simp [hx]) (by simp [hy])]
        rfl

theorem cells_keep (hb : ∀ k, k < W.heap.size → W'.heap[k]? = W.heap[k]?) {base n : Nat} {a : Addr} {cs : List Value} (h : W.cells? base a n = some cs) : W'.cells? base a n = some cs := by
  unfold World.cells? at h ⊢
  split at h
  · rename_i hba
    rw [if_pos hba]
    refine mapM_keep h fun i v _ _ hv => ?_
    have hlt : (a.add i).block < W.heap.size := by
      rcases Nat.lt_or_ge (a.add i).block W.heap.size with q | q
      · exact q
      · have : W.cell? (a.add i) = none := by
          unfold World.cell?
          rw [Array.getElem?_eq_none q]
        rw [this] at hv; cases hv
    rw [← hv]
    exact World.cell?_of_block (w := W) (hb _ hlt)
  · cases h

/-! ### arguments of any plain type -/
def tiles (P : Program) : List Field → Nat → Nat → Bool
  | [], at_, n => Nat.beq at_ n
  | f :: r, at_, n => Nat.beq f.offset at_ && tiles P r (at_ + P.cellsOf f.type) n
def plainT (P : Program) : Nat → TypeId → Bool
  | 0, _ => false
  | m + 1, t => match P.underlying t with
    | some .bool | some .string => Nat.beq (P.cellsOf t) 1
    | some (.int _) => Nat.beq (P.cellsOf t) 1
    | some (.slice e) => Nat.beq (P.cellsOf t) 1 && (plainT P m e && !Nat.beq (P.cellsOf e) 0)
    | some (.struct fs) => fs.toList.all (fun f => plainT P m f.type) && tiles P fs.toList 0 (P.cellsOf t)
    | some (.array n e) => plainT P m e && Nat.beq (P.cellsOf t) (n * P.cellsOf e)
    | _ => false


theorem trod_keep (hb : ∀ k, k < W.heap.size → W'.heap[k]? = W.heap[k]?) {base : Nat} {sp : Nat → Bool} {held : Bool} : ∀ (fuel m : Nat) (t : TypeId) (cs : List Value) (x : DataW H × List MemPlace), plainT P m t = true →
    DataW.trod enc P W base (fun _ => true) held fuel t cs = some x → (∀ p ∈ x.2, sp p.block = true) → DataW.trod enc P W' base sp held fuel t cs = some x := by
  intro fuel
  induction fuel with
  | zero => intro m t cs x _ h _; cases h
  | succ fuel ih =>
    intro m t cs x hp h hsp
    cases m with
    | zero => cases hp
    | succ m =>
    unfold plainT at hp
    cases hu : P.underlying t with
    | none => rw [hu] at hp; cases hp
    | some u =>
      rw [hu] at hp
      cases u with
      | bool => obtain ⟨b, rfl, rfl⟩ := DataW.trod_bool hu h; unfold DataW.trod; rw [hu]
      | int k =>
        obtain ⟨b, rfl, rfl, hwf⟩ := DataW.trod_int hu h
        unfold DataW.trod; rw [hu]
        simp [hwf]
      | string =>
        obtain ⟨b, rfl, rfl, hs⟩ := DataW.trod_string hu h
        unfold DataW.trod; rw [hu]
        simp [hs]
      | struct fs =>
        simp only [Bool.and_eq_true, List.all_eq_true] at hp
        unfold DataW.trod at h ⊢
        rw [hu] at h ⊢
        simp only at h ⊢
        split at h
        · rename_i hc
          rw [if_pos hc]
          simp only [Option.map_eq_some_iff] at h ⊢
          obtain ⟨xs, h1, rfl⟩ := h
          refine ⟨xs, mapM_keep h1 fun f y hf hy hq => ih m _ _ _ (hp.1 f hf) hq fun p hp => hsp p ?_, rfl⟩
          simp only [List.mem_flatMap]
          exact ⟨y, hy, hp⟩
        · cases h
      | array n e =>
        simp only [Bool.and_eq_true] at hp
        unfold DataW.trod at h ⊢
        rw [hu] at h ⊢
        simp only at h ⊢
        split at h
        · rename_i hc
          rw [if_pos hc]
          simp only [Option.map_eq_some_iff] at h ⊢
          obtain ⟨xs, h1, rfl⟩ := h
          refine ⟨xs, mapM_keep h1 fun f y hf hy hq => ih m _ _ _ hp.1 hq fun p hp => hsp p ?_, rfl⟩
          simp only [List.mem_flatMap]
          exact ⟨y, hy, hp⟩
        · cases h
      | slice e =>
        simp only [Bool.and_eq_true, Bool.not_eq_true'] at hp
        have hz : P.cellsOf e ≠ 0 := fun q => by have := hp.2.2; rw [q] at this; simp at this
        rcases DataW.trod_slice hu h with ⟨rfl, rfl⟩ | ⟨a, len, cap, -, -, -, -, rfl, -⟩
        · unfold DataW.trod; rw [hu]; rfl
        · unfold DataW.trod at h ⊢
          rw [hu] at h ⊢
          simp only at h ⊢
          split at h
          · rename_i hc
            rw [if_pos hc]
            simp only [if_true, Option.map_eq_some_iff, Option.bind_eq_some_iff] at h ⊢
            obtain ⟨elems, h1, rest, h2, rfl⟩ := h
            have key : ∀ i y, y ∈ elems ++ rest → (W.cells? base (a.add (i * P.cellsOf e)) (P.cellsOf e)).bind (DataW.trod enc P W base (fun _ => true) held fuel e) = some y →
                (W'.cells? base (a.add (i * P.cellsOf e)) (P.cellsOf e)).bind (DataW.trod enc P W' base sp held fuel e) = some y := by
              intro i y hy hq
              rw [Option.bind_eq_some_iff] at hq ⊢
              obtain ⟨cs', q1, q2⟩ := hq
              refine ⟨cs', cells_keep hb q1, ih m _ _ _ hp.2.1 q2 fun p hp => hsp p ?_⟩
              simp only [List.mem_append, List.mem_flatMap]
              exact .inr ⟨y, by simpa using hy, hp⟩
            refine ⟨elems, mapM_keep h1 fun i y _ hy hq => key i y (by simp [hy]) hq, rest, ?_, rfl⟩
            cases hs : sp a.block with
            | true =>
              simp only [if_true]
              exact mapM_keep h2 fun i y _ hy hq => key (len + i) y (by simp [hy]) hq
            | false =>
              simp only [Bool.false_eq_true, if_false]
              cases rest with
              | nil => rfl
              | cons y rest =>
                have hp' : sp a.block = true := by
                  refine hsp (.cell a.block (a.off + 0)) ?_
                  simp only [List.mem_append]
                  refine .inl ?_
                  unfold MemPlace.row
                  rw [List.mem_map]
                  exact ⟨0, List.mem_range.2 (Nat.mul_pos (by simp only [List.length_cons]; omega) (by omega)), rfl⟩
                rw [hs] at hp'; cases hp'
          · cases h
      | _ => cases hp
theorem trodAll_keep (hb : ∀ k, k < W.heap.size → W'.heap[k]? = W.heap[k]?) {base : Nat} {sp : Nat → Bool} {held : Bool} : ∀ (ts : List TypeId) (vs : List Value) (ds : List (DataW H)) (ps : List MemPlace), ts.all (plainT P 20) = true →
    DataW.TrodAll enc P W base (fun _ => true) held ts vs ds ps → (∀ p ∈ ps, sp p.block = true) → DataW.TrodAll enc P W' base sp held ts vs ds ps
  | [], [], [], ps, _, h, _ => h
  | t :: ts, v :: vs, d :: ds, ps, hp, h, hsp => by
    simp only [List.all_cons, Bool.and_eq_true] at hp
    obtain ⟨p, q, ⟨fuel, h1⟩, h2, rfl⟩ := h
    exact ⟨p, q, ⟨fuel, trod_keep hb fuel 20 t _ _ hp.1 h1 fun x hx => hsp x (by simp [hx])⟩, trodAll_keep hb ts vs ds q hp.2 h2 fun x hx => hsp x (by simp [hx]), rfl⟩
  | [], [], _ :: _, _, _, h, _ => h.elim
  | [], _ :: _, _, _, _, h, _ => h.elim
  | _ :: _, [], _, _, _, h, _ => h.elim
  | _ :: _, _ :: _, [], _, _, h, _ => h.elim
end
end Go.Proofs.Xx
