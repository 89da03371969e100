/-
  Numbers of texts; shapes by their words.
-/
import Derived.Test.YtnopenpheaihmaaGreatDoorM8
import Derived.Test.YtnopenpheaihmaaGreatDoorM7
import Derived.Test.YtnopenpheaihmaaGreatDoorM5

namespace Go.Proofs.Xx
open Go Go.Proofs
set_option linter.unusedSimpArgs false
set_option linter.unusedVariables false
set_option maxRecDepth 100000

/-- What reading a number gives. -/
def NumR (s : List UInt8) (k : Int) (b : Bool) : Prop := (b = true ∧ numP s ∧ k = valD s) ∨ (b = false ∧ ¬ numP s)
theorem u8def : (default : UInt8) = 0 := rfl
theorem u8_of {x c : UInt8} (h : (x.toNat : Int) = c.toNat) : x = c := UInt8.toNat.inj (by omega)
theorem valD_le {s : List UInt8} {i : Nat} (h : ∀ j, j < i → digB (s.getD j default)) (hi : i ≤ 9 ∧ i ≤ s.length) : valD (s.take i) < 1000000000 := by
  have key : ∀ k, k ≤ i → valD (s.take k) < 10 ^ k := fun k hk => by
    induction k with
    | zero => simp [valD]
    | succ k ih =>
      have := ih (by omega)
      have d := h k (by omega)
      unfold digB at d
      rw [valD_take (by omega), Nat.pow_succ]
      omega
  have h1 := key i (Nat.le_refl _)
  have h2 : 10 ^ i ≤ 10 ^ 9 := Nat.pow_le_pow_right (by decide) hi.1
  omega
theorem nxtD {p : Nat → Prop} {i : Nat} (h : ∀ j, j < i → p j) (hi : p i) : ∀ j, j < i + 1 → p j := fun j hj => by
  rcases Nat.lt_or_ge j i with q | q
  · exact h j q
  · obtain rfl : j = i := by omega
    exact hi
theorem number_ok {h0 : AH} (w : WfH h0) (s : List UInt8) (hs : s.length ≤ 1000000) : Fn Tryz.prog Xh 168 [str s] h0 (fun v h' => ∃ k b, v = .tuple #[.int .i64 k, .bool b] ∧ NumR s k b ∧ Hs h0 h' []) := by
  have S := Hs.start w
  refine Fn_K rfl Tryz.func168 rfl rfl ?_
  all_goals (repeat' (first | refine K_seq ?_ | (refine K_region (id := 0) ?_; refine mv ?_; refine mv ?_; refine KO_nil ?_)))
  (repeat (refine K_seq ?_)); first | refine K_join (σ := Unit) (fun _ h' => Hs h0 h' [] ∧ 1 ≤ s.length ∧ s.length ≤ 9 ∧ (1 < s.length → s.getD 0 default ≠ 48)) (fun _ => [(0, str s)]) ?_ ?_
  · all_goals (repeat' (first | refine K_seq ?_ | refine k_cond rfl ?_ | refine K_skip ?_ | (refine K_region (id := 1) ?_; refine mv ?_; refine tl ?_; (first | (refine cS ?_ ?_ <;> intro hc)) <;> (refine mv ?_; (first | refine off ?_ | refine mv ?_); (first | refine off ?_ | refine tl ?_); (first | refine off ?_ | (first | (refine cS ?_ ?_ <;> intro hc))) <;> (refine vl ?_; refine mv ?_; (first | refine off ?_ | refine mv ?_); (first | refine off ?_ | refine tl ?_); (first | refine off ?_ | (first | (refine cS ?_ ?_ <;> intro hc))) <;> ((first | refine off ?_ | refine mv ?_); (first | refine off ?_ | refine mv ?_); (first | refine off ?_ | (refine ti ?_)); (first | refine off ?_ | (first | (refine cS ?_ ?_ <;> intro hc))) <;> ((first | refine off ?_ | refine vl ?_); refine vl ?_; refine KO_nil ?_))))) | (refine K_region (id := 2) ?_; refine mv ?_; refine mv ?_; refine KO_nil ?_)))
    · refine K_ret ⟨_, rfl, ?_⟩
      exact ⟨0, false, rfl, .inr ⟨rfl, fun q => by have := q.1; omega⟩, S⟩
    · refine K_ret ⟨_, rfl, ?_⟩
      exact ⟨0, false, rfl, .inr ⟨rfl, fun q => by have := q.2.1; omega⟩, S⟩
    · refine K_ret ⟨_, rfl, ?_⟩
      have hz := u8_of (c := 48) hc
      exact ⟨0, false, rfl, .inr ⟨rfl, fun q => q.2.2.1 (by omega) hz⟩, S⟩
    · exact ⟨(), ⟨S, by omega, by omega, fun _ q => hc (by rw [show s.getD (Int.toNat 0) 0 = s.getD 0 default from rfl, q]; rfl)⟩, ((by repeat (first | exact Ks.le_nil _ | refine Ks.le_cons rfl ?_)))⟩
    · exact ⟨(), ⟨S, by omega, by omega, fun q => by omega⟩, ((by repeat (first | exact Ks.le_nil _ | refine Ks.le_cons rfl ?_)))⟩
  clear S
  rintro - h ⟨S, l1, l2, l3⟩
  skip
  all_goals (repeat' (first | refine K_seq ?_ | refine k_block ?_ | (refine K_region (id := 3) ?_; refine mv ?_; refine KO_nil ?_) | (refine K_region (id := 4) ?_; refine mv ?_; refine KO_nil ?_)))
  refine k_loop (σ := Nat) (fun i h' => Hs h0 h' [] ∧ i ≤ s.length ∧ ∀ j, j < i → digB (s.getD j default)) (fun i => s.length - i) (fun i => [(0, str s), (4, .int .i64 (valD (s.take i) : Nat)), (5, .int .i64 i)]) 0 (by repeat (first | exact Ks.le_nil _ | refine Ks.le_cons rfl ?_)) ?_ ?_
  · exact ⟨S, Nat.zero_le _, fun j hj => absurd hj (Nat.not_lt_zero _)⟩
  clear S
  rintro i h ⟨S, h1, h2⟩
  have hb := valD_le (s := s) h2 (by omega)
  all_goals (repeat' (first | refine K_seq ?_ | refine k_cond rfl ?_ | refine K_skip ?_ | refine K_exit ?_ | refine k_block ?_ | (refine K_region (id := 5) ?_; refine mv ?_; refine mv ?_; refine tl ?_; (first | (refine cS ?_ ?_ <;> intro hc)) <;> (refine KO_nil ?_)) | (refine K_region (id := 7) ?_; refine mv ?_; refine mv ?_; refine ti ?_; (first | (refine cS ?_ ?_ <;> intro hc)) <;> (refine mv ?_; (first | refine off ?_ | refine mv ?_); (first | refine off ?_ | refine mv ?_); (first | refine off ?_ | (refine ti ?_)); (first | refine off ?_ | (first | (refine cS ?_ ?_ <;> intro hc))) <;> (refine vl ?_; refine KO_nil ?_))) | (refine K_region (id := 8) ?_; refine mv ?_; refine mv ?_; refine KO_nil ?_)))
  · (try simp only [Int.toNat_natCast] at *)
    refine K_ret ⟨_, rfl, ?_⟩
    exact ⟨0, false, rfl, .inr ⟨rfl, fun q => by have := q.2.2.2 i (by omega); unfold digB at this; rw [u8def] at this; omega⟩, S⟩
  · (try simp only [Int.toNat_natCast] at *)
    refine K_ret ⟨_, rfl, ?_⟩
    exact ⟨0, false, rfl, .inr ⟨rfl, fun q => by have := q.2.2.2 i (by omega); unfold digB at this; rw [u8def] at this; omega⟩, S⟩
  · all_goals (repeat' (first | (refine K_region (id := 6) ?_; refine mv ?_; refine ad ?_; refine mv ?_; refine KO_nil ?_) | (refine K_region (id := 9) ?_; refine mv ?_; refine ml ?_; refine mv ?_; refine mv ?_; refine ti ?_; refine sU ?_; refine cI ?_; refine ad ?_; refine mv ?_; refine KO_nil ?_)))
    (try simp only [Int.toNat_natCast] at *)
    have hi : i < s.length := by omega
    have hd : digB (s.getD i default) := by unfold digB; rw [u8def]; omega
    have e := valD_take hi
    rw [u8def] at e
    have e2 : (10 : Int) * (valD (s.take i) : Nat) + (((s.getD i 0).toNat : Int) - 48) = (valD (s.take (i + 1)) : Nat) := by
      unfold digB at hd
      rw [u8def] at hd
      omega
    rw [e2]
    refine ⟨i + 1, ?_, ?_, (by repeat (first | exact Ks.le_nil _ | refine Ks.le_cons rfl ?_))⟩
    · show s.length - (i + 1) < s.length - i; omega
    · exact ⟨S, by omega, nxtD h2 hd⟩
  · have hi : i = s.length := by omega
    subst hi
    rw [List.take_length]
    skip
    all_goals (repeat' (first | (refine K_region (id := 10) ?_; refine mv ?_; refine mv ?_; refine mv ?_; refine KO_nil ?_)))
    refine K_ret ⟨_, rfl, ?_⟩
    exact ⟨_, true, rfl, .inl ⟨rfl, ⟨l1, l2, l3, h2⟩, rfl⟩, S⟩
theorem refNumber_ok {h0 : AH} (w : WfH h0) (s : List UInt8) (hs : s.length ≤ 1000000) : Fn Tryz.prog Xh 176 [str s] h0 (fun v h' => ∃ k b, v = .tuple #[.int .i64 k, .bool b] ∧ NumR s k b ∧ Hs h0 h' []) := by
  have S := Hs.start w
  refine Fn_K rfl Tryz.func176 rfl rfl ?_
  all_goals (repeat' (first | refine K_seq ?_ | (refine K_region (id := 0) ?_; refine mv ?_; refine mv ?_; refine KO_nil ?_)))
  (repeat (refine K_seq ?_)); first | refine K_join (σ := Unit) (fun _ h' => Hs h0 h' [] ∧ 1 ≤ s.length ∧ s.length ≤ 9) (fun _ => [(0, str s)]) ?_ ?_
  · all_goals (repeat' (first | refine K_seq ?_ | refine k_cond rfl ?_ | refine K_skip ?_ | (refine K_region (id := 1) ?_; refine mv ?_; refine tl ?_; (first | (refine cS ?_ ?_ <;> intro hc)) <;> (refine mv ?_; (first | refine off ?_ | refine mv ?_); (first | refine off ?_ | refine tl ?_); (first | refine off ?_ | (first | (refine cS ?_ ?_ <;> intro hc))) <;> (refine vl ?_; refine KO_nil ?_))) | (refine K_region (id := 2) ?_; refine mv ?_; refine mv ?_; refine KO_nil ?_)))
    · refine K_ret ⟨_, rfl, ?_⟩
      exact ⟨0, false, rfl, .inr ⟨rfl, fun q => by have := q.1; omega⟩, S⟩
    · refine K_ret ⟨_, rfl, ?_⟩
      exact ⟨0, false, rfl, .inr ⟨rfl, fun q => by have := q.2.1; omega⟩, S⟩
    · exact ⟨(), ⟨S, by omega, by omega⟩, ((by repeat (first | exact Ks.le_nil _ | refine Ks.le_cons rfl ?_)))⟩
  clear S
  rintro - h ⟨S, l1, l2⟩
  skip
  all_goals (repeat' (first | refine K_seq ?_ | refine k_block ?_ | (refine K_region (id := 3) ?_; refine mv ?_; refine KO_nil ?_) | (refine K_region (id := 4) ?_; refine mv ?_; refine KO_nil ?_)))
  refine k_loop (σ := Nat) (fun i h' => Hs h0 h' [] ∧ i ≤ s.length ∧ ∀ j, j < i → digB (s.getD j default)) (fun i => s.length - i) (fun i => [(0, str s), (4, .int .i64 (valD (s.take i) : Nat)), (5, .int .i64 i)]) 0 (by repeat (first | exact Ks.le_nil _ | refine Ks.le_cons rfl ?_)) ?_ ?_
  · exact ⟨S, Nat.zero_le _, fun j hj => absurd hj (Nat.not_lt_zero _)⟩
  clear S
  rintro i h ⟨S, h1, h2⟩
  have hb := valD_le (s := s) h2 (by omega)
  all_goals (repeat' (first | refine K_seq ?_ | refine k_cond rfl ?_ | refine K_skip ?_ | refine K_exit ?_ | refine k_block ?_ | (refine K_region (id := 5) ?_; refine mv ?_; refine mv ?_; refine tl ?_; (first | (refine cS ?_ ?_ <;> intro hc)) <;> (refine KO_nil ?_)) | (refine K_region (id := 7) ?_; refine mv ?_; refine mv ?_; refine ti ?_; (first | (refine cS ?_ ?_ <;> intro hc)) <;> (refine mv ?_; (first | refine off ?_ | refine mv ?_); (first | refine off ?_ | refine mv ?_); (first | refine off ?_ | (refine ti ?_)); (first | refine off ?_ | (first | (refine cS ?_ ?_ <;> intro hc))) <;> (refine vl ?_; refine KO_nil ?_))) | (refine K_region (id := 8) ?_; refine mv ?_; refine mv ?_; refine KO_nil ?_)))
  · (try simp only [Int.toNat_natCast] at *)
    refine K_ret ⟨_, rfl, ?_⟩
    exact ⟨0, false, rfl, .inr ⟨rfl, fun q => by have := q.2.2.2 i (by omega); unfold digB at this; rw [u8def] at this; omega⟩, S⟩
  · (try simp only [Int.toNat_natCast] at *)
    refine K_ret ⟨_, rfl, ?_⟩
    exact ⟨0, false, rfl, .inr ⟨rfl, fun q => by have := q.2.2.2 i (by omega); unfold digB at this; rw [u8def] at this; omega⟩, S⟩
  · all_goals (repeat' (first | (refine K_region (id := 6) ?_; refine mv ?_; refine ad ?_; refine mv ?_; refine KO_nil ?_) | (refine K_region (id := 9) ?_; refine mv ?_; refine ml ?_; refine mv ?_; refine mv ?_; refine ti ?_; refine cI ?_; refine ad ?_; refine sb ?_; refine mv ?_; refine KO_nil ?_)))
    (try simp only [Int.toNat_natCast] at *)
    have hi : i < s.length := by omega
    have hd : digB (s.getD i default) := by unfold digB; rw [u8def]; omega
    have e := valD_take hi
    rw [u8def] at e
    have e2 : ((valD (s.take i) : Nat) : Int) * 10 + ((s.getD i 0).toNat : Int) - 48 = (valD (s.take (i + 1)) : Nat) := by
      unfold digB at hd
      rw [u8def] at hd
      omega
    rw [e2]
    refine ⟨i + 1, ?_, ?_, (by repeat (first | exact Ks.le_nil _ | refine Ks.le_cons rfl ?_))⟩
    · show s.length - (i + 1) < s.length - i; omega
    · exact ⟨S, by omega, nxtD h2 hd⟩
  · have hi : i = s.length := by omega
    subst hi
    rw [List.take_length]
    skip
    all_goals (repeat' (first | (refine K_draw (id := 10) ?_; refine mv ?_; refine mv ?_; refine tl ?_; (first | (refine cS ?_ ?_ <;> intro hc)) <;> (refine mv ?_; (first | refine off ?_ | refine mv ?_); (first | refine off ?_ | (refine ti ?_)); (first | refine off ?_ | (first | (refine cS ?_ ?_ <;> intro hc))) <;> (refine vl ?_; refine mv ?_; refine mv ?_; refine KO_nil ?_)))))
    all_goals (refine K_ret ⟨_, rfl, ?_⟩)
    · exact ⟨_, true, rfl, .inl ⟨rfl, ⟨l1, l2, fun q => by omega, h2⟩, rfl⟩, S⟩
    · exact ⟨_, true, rfl, .inl ⟨rfl, ⟨l1, l2, fun _ q => hc (by rw [show s.getD (Int.toNat 0) 0 = s.getD 0 default from rfl, q]; rfl), h2⟩, rfl⟩, S⟩
    · have hz := u8_of (c := 48) (Classical.not_not.1 hc)
      exact ⟨_, false, rfl, .inr ⟨rfl, fun q => q.2.2.1 (by omega) hz⟩, S⟩
end Go.Proofs.Xx

/-
  The moves of a shape: closures over its numbers.
-/
namespace Go.Proofs.Xx
open Go Go.Proofs
set_option linter.unusedSimpArgs false
set_option linter.unusedVariables false
set_option maxRecDepth 100000

theorem Hs.conv {h0 h : AH} {rs : List Rs} {r r' : Rs} (S : Hs h0 h (r :: rs)) (k : ∀ fp, r.ok h fp → r'.ok h fp) : Hs h0 h (r' :: rs) := by
  obtain ⟨fp, k1, k2⟩ := S.sep
  exact ⟨S.ext, fp, k fp k1, k2⟩
/-- A function value: its number, what it holds. -/
abbrev FV := Nat × Array Value
def eF (x : FV) : List Value := [.func (.func x.1) #[] x.2]
/-- In every memory that agrees with h on fp the function value f gives g. -/
def MvAt (h : AH) (fp : Fp) (n : Int) (g : Int → Int) (f : FV) : Prop :=
  ∀ h2, WfH h2 → (∀ b, fp b → h2.get b = h.get b) → ∀ k : Int, 0 ≤ k → k < n → Fn Tryz.prog Xh f.1 (.int .i64 k :: f.2.toList) h2 (fun r h3 => r = .int .i64 (g k) ∧ Hs h2 h3 [])
theorem MvAt.mono {h : AH} {fp fp' : Fp} {n : Int} {g : Int → Int} {f : FV} (m : MvAt h fp n g f) (q : ∀ b, fp b → fp' b) : MvAt h fp' n g f := fun h2 w a => m h2 w fun b hb => a b (q b hb)
theorem MvAt.moved {h h' : AH} {fp : Fp} {n : Int} {g : Int → Int} {f : FV} (m : MvAt h fp n g f) (q : ∀ b, fp b → h'.get b = h.get b) : MvAt h' fp n g f := fun h2 w a => m h2 w fun b hb => (a b hb).trans (q b hb)
/-- The function values fs give g 0, g 1, .. -/
def MvR (n : Int) (N : Nat) (g : Nat → Int → Int) (fs : List FV) : AH → Fp → Prop := fun h fp => fs.length = N ∧ ∀ j, j < N → MvAt h fp n (g j) (fs.getD j default)
theorem MvR.ok {n : Int} {N : Nat} {g : Nat → Int → Int} {fs : List FV} {h : AH} {fp : Fp} (m : MvR n N g fs h fp) : (Rs.any (MvR n N g fs)).ok h fp := fun h' q => ⟨m.1, fun j hj => (m.2 j hj).moved q⟩

/-! round tables -/
def rgv (A : Int) (j : Nat) (k : Int) : Int := if j % 2 = 0 then (k + (j / 2 : Nat)) % A else ((j / 2 : Nat) - k + A) % A
def RMp (A : Int) (b2 : Nat) (N : Nat) (fs : List FV) : AH → Fp → Prop := fun h fp => fp b2 ∧ h.get b2 = some (.cells [.int .i64 A] 3 none false) ∧ MvR A N (rgv A) fs h fp
theorem RMp.ok {A : Int} {b2 N : Nat} {fs : List FV} {h : AH} {fp : Fp} (m : RMp A b2 N fs h fp) : (Rs.any (RMp A b2 N fs)).ok h fp := fun h' q => ⟨m.1, (q _ m.1).trans m.2.1, MvR.ok m.2.2 h' q⟩
/-! the other shapes -/
/-- Blocks of one's own. -/
def BL (bl : List (Nat × List Value × TypeId)) : AH → Fp → Prop := fun h fp => ∀ x, x ∈ bl → h.get x.1 = some (.cells x.2.1 x.2.2 none false) ∧ fp x.1
def hdP (a b k : Int) : Prop := (0 < b ∧ k = a) ∨ (b = 2 ∧ k = 2 * a + 1)
instance (a b k : Int) : Decidable (hdP a b k) := by unfold hdP; infer_instance
def sdF (a b k : Int) : Int := if hdP a b k then k else (a + min b 1) + a - 1 - k
def enF (a b k : Int) : Int := if hdP a b k then 3 * a + 1 - k else if k < a then a - 1 - k else 2 * (a + min b 1) + a - 1 - k
abbrev PT (b : Nat) : Value := .pointer (some ⟨b, 0, none⟩)
abbrev hdV (b3 b2 : Nat) : Value := .func (.func 193) #[] #[PT b3, PT b2]
abbrev sdV (b6 b5 b2 : Nat) : Value := .func (.func 194) #[] #[PT b6, PT b5, PT b2]
abbrev enV (b6 b2 b5 : Nat) : Value := .func (.func 195) #[] #[PT b6, PT b2, PT b5]
/-- The number of moves of a table, and the moves. -/
def mvn (t : Tab) : Nat := if t.shape = 1 then (2 * t.A).toNat else if t.shape = 2 then (if t.B = 1 then 2 else 4) else 2
def mvg (t : Tab) (j : Nat) (k : Int) : Int :=
  if t.shape = 1 then rgv t.A j k
  else if t.shape = 2 then (match j with | 0 => k | 1 => sdF t.A t.B k | 2 => enF t.A t.B k | _ => sdF t.A t.B (enF t.A t.B k))
  else (match j with | 0 => k | _ => tsize t - 1 - k)
abbrev MovR (t : Tab) (fs : List FV) : AH → Fp → Prop := MvR (tsize t) (mvn t) (mvg t) fs
def lfs2 (b2 b5 b6 : Nat) : List FV := [(196, #[]), (194, #[PT b6, PT b5, PT b2])]
def lfs3 (b2 b5 b6 b7 b8 : Nat) : List FV := [(195, #[PT b6, PT b2, PT b5]), (197, #[PT b7, PT b8])]
def lbl (a b : Int) (b2 b3 b5 b6 b7 b8 : Nat) : List (Nat × List Value × TypeId) := [(b2, [.int .i64 a], 3), (b3, [.int .i64 b], 3), (b5, [.int .i64 (a + min b 1)], 3), (b6, [hdV b3 b2], 90), (b7, [sdV b6 b5 b2], 152), (b8, [enV b6 b2 b5], 152)]
end Go.Proofs.Xx

/-
  The program's reading of a line.
-/
namespace Go.Proofs.Xx
open Go Go.Proofs
set_option linter.unusedSimpArgs false
set_option linter.unusedVariables false
set_option maxRecDepth 100000

theorem shapes_ok {h0 : AH} (w : WfH h0) : Fn Tryz.prog Xh 167 [] h0 (fun v h' => Hs h0 h' [.sl v 22 1 eU [1, 2, 3, 4]]) := by
  have S := Hs.start w
  refine Fn_K rfl Tryz.func167 rfl rfl ?_
  all_goals (repeat' (first | refine K_seq ?_ | (refine K_region (id := 0) ?_; refine mv ?_; refine KO_nil ?_)))
  (repeat (refine K_seq ?_)); refine K_region (id := 1) ?_
  refine bsn' (z := 1) eU [1, 2, 3, 4] S ?_; clear S; intro u h S
  refine mv ?_; refine KO_nil ?_
  all_goals (repeat' (fail))
  refine K_ret ⟨_, rfl, ?_⟩
  exact S
/-- The shape of a word, as far as it is looked for. -/
def shpI (i : Nat) (w : List UInt8) : Int := if 4 ≤ i ∧ w = wRow then 4 else if 3 ≤ i ∧ w = wShoe then 3 else if 2 ≤ i ∧ w = wLong then 2 else if 1 ≤ i ∧ w = wRound then 1 else 0
theorem shpI_all (w : List UInt8) : shpI 4 w = shp w := by
  unfold shpI shp
  by_cases h1 : w = wRound
  · subst h1; decide
  · by_cases h2 : w = wLong
    · subst h2; decide
    · by_cases h3 : w = wShoe
      · subst h3; decide
      · simp [h1, h2, h3]
def lwd (i : Nat) : List UInt8 := if i = 0 then wRound else if i = 1 then wLong else if i = 2 then wShoe else wRow
theorem shpI_succ {i : Nat} (hi : i < 4) (w : List UInt8) : shpI (i + 1) w = if w = lwd i then (i : Int) + 1 else shpI i w := by
  have : i = 0 ∨ i = 1 ∨ i = 2 ∨ i = 3 := by omega
  rcases this with rfl | rfl | rfl | rfl <;> (unfold shpI lwd; simp)
/-- What reading a line gives. -/
def LineR (s : List UInt8) (t : Tab) (b : Bool) : Prop := (b = true ∧ LineP (spl 32 s) ∧ SameTab t (lineT (spl 32 s))) ∨ (b = false ∧ ¬ LineP (spl 32 s))
theorem spl_le (c : UInt8) : ∀ s : List UInt8, ∀ w ∈ spl c s, w.length ≤ s.length
  | [], w, h => by simp [spl] at h; subst h; simp
  | x :: s, w, h => by
    unfold spl at h
    split at h
    · rcases List.mem_cons.1 h with rfl | h
      · simp
      · have := spl_le c s w h; simp; omega
    · cases hs : spl c s with
      | nil => exact absurd hs (spl_ne c s)
      | cons u r =>
        rw [hs] at h
        rcases List.mem_cons.1 (show w ∈ ([x] ++ u) :: r from h) with rfl | h
        · have := spl_le c s u (by rw [hs]; simp); simp; omega
        · have := spl_le c s w (by rw [hs]; simp [h]); simp; omega
theorem memD {α : Type} [Inhabited α] {l : List α} {i : Nat} (h : i < l.length) : l.getD i default ∈ l := by
  rw [List.getD_eq_getElem?_getD, List.getElem?_eq_getElem h]; exact List.getElem_mem h
theorem wAt_le {c : UInt8} {s : List UInt8} {i : Nat} (h : i < (spl c s).length) : (wAt (spl c s) i).length ≤ s.length := spl_le c s _ (memD h)
abbrev zT : List Value := [str [], .int .u8 0, .int .i64 0, .int .i64 0, .slice none 0 0, .int .i64 0, .int .i64 0]
abbrev nT (w : List UInt8) (z : Int) : List Value := [str w, .int .u8 z, .int .i64 0, .int .i64 0, .slice none 0 0, .int .i64 0, .int .i64 0]
def t0T : Tab := ⟨[], 0, 0, 0, ⟨none, 0, 0⟩, [], 0, 0⟩
theorem t0_L : t0T.name.length ≤ 1000000 ∧ t0T.opn.length ≤ 1000000 := by simp [t0T]
theorem Hs.nil0 {h0 h : AH} {rs : List Rs} (S : Hs h0 h rs) : Hs h0 h [.rd t0T.ov 1 eI t0T.opn] := S.drop.grow (fp := fun _ => False) (Ext.refl S.wf) (.inl ⟨rfl, rfl⟩) fun b hb => hb.elim
theorem Hs.slRd {h0 h : AH} {rs : List Rs} {α : Type} {v : Value} {e : TypeId} {z : Nat} {enc : α → List Value} {l : List α} (S : Hs h0 h (.sl v e z enc l :: rs)) : Hs h0 h (.rd v z enc l :: rs) := S.conv fun fp k => by
  rcases k with k | ⟨b, o, cc, slk, h1, h2, h3, h4, -⟩
  · exact .inl k
  · exact .inr ⟨b, o, _, cc, e, slk, false, h1, h2, h3, h4⟩
/-- Words from the fourth on, as far as they are read as numbers. -/
def NumsTo (ws : List (List UInt8)) (j : Nat) (nl : List Int) : Prop := nl.length = j ∧ ∀ k, k < j → numP (wAt ws (3 + k)) ∧ nl.getD k default = valD (wAt ws (3 + k))
theorem NumsTo.all {ws : List (List UInt8)} {nl : List Int} (h : NumsTo ws (ws.length - 3) nl) : nl = (ws.drop 3).map fun w => (valD w : Int) := by
  refine List.ext_getElem (by simp [h.1]) fun k h1 h2 => ?_
  have h3 := (h.2 k (by rw [← h.1]; exact h1)).2
  have e1 : nl.getD k default = nl[k] := by simp [List.getD_eq_getElem?_getD, h1]
  have h4 : 3 + k < ws.length := by have := h.1; omega
  have e2 : wAt ws (3 + k) = ws[3 + k] := by simp [wAt, List.getD_eq_getElem?_getD, h4]
  rw [e1, e2] at h3
  rw [h3]; simp
theorem NumsTo.line {ws : List (List UInt8)} {nl : List Int} (h : NumsTo ws (ws.length - 3) nl) (h1 : 7 ≤ ws.length) (h2 : wAt ws 0 = wTable) (h3 : wAt ws 1 ≠ []) (h4 : shp (wAt ws 2) ≠ 0) : LineP ws :=
  ⟨h1, h2, h3, h4, fun i q1 q2 => by
    have := (h.2 (i - 3) (by omega)).1
    rwa [show 3 + (i - 3) = i by omega] at this⟩
theorem NumsTo.same {ws : List (List UInt8)} {nl : List Int} (h : NumsTo ws (ws.length - 3) nl) (h1 : 7 ≤ ws.length) (s : SlV) : SameTab ⟨wAt ws 1, shp (wAt ws 2), nl.getD 0 default, nl.getD 1 default, s, nl.drop 4, nl.getD 2 default, nl.getD 3 default⟩ (lineT ws) := by
  refine (sameTab_iff _ _).2 ⟨rfl, rfl, (h.2 0 (by omega)).2, (h.2 1 (by omega)).2, (h.2 2 (by omega)).2, (h.2 3 (by omega)).2, ?_⟩
  show nl.drop 4 = (ws.drop 7).map _
  rw [h.all, ← List.map_drop, List.drop_drop]
theorem drop_getD {α : Type} [Inhabited α] (l : List α) (a j : Nat) : (l.drop a).getD j default = l.getD (a + j) default := by
  simp [List.getD_eq_getElem?_getD]
theorem shp_step {h0 h : AH} {us vw : Value} {bt br : Nat} {ws : List (List UInt8)} {z z' : Int} (S : Hs h0 h [.sl us 22 1 eU [1, 2, 3, 4], .blk bt (nT (wAt ws 1) z) 25, .sl vw 9 1 eS ws, .blk br zT 25]) (hz : z' = z) :
    Hs h0 h [.sl us 22 1 eU [1, 2, 3, 4], .blk bt (nT (wAt ws 1) z') 25, .sl vw 9 1 eS ws, .blk br zT 25] := hz ▸ S
set_option maxHeartbeats 1000000 in
theorem table_ok {h0 : AH} (w : WfH h0) (s : List UInt8) (hs : s.length ≤ 100000) : Fn Tryz.prog Xh 118 [str s] h0 (fun v h' => ∃ t b, v = .tuple #[tabV t, .bool b] ∧ LineR s t b ∧ (t.name.length ≤ 1000000 ∧ t.opn.length ≤ 1000000) ∧ Hs h0 h' [.rd t.ov 1 eI t.opn]) := by
  have S := Hs.start w
  have hlen := splL_len 32 s
  have hcs : s.countP (· == 32) ≤ s.length := List.countP_le_length
  have hwl := fun i (h : i < (spl 32 s).length) => wAt_le h
  refine Fn_K rfl Tryz.func118 rfl rfl ?_
  all_goals (repeat' (first | refine K_seq ?_ | (refine K_region (id := 0) ?_; (refine al S ?_; clear S; intro b h S); refine mv ?_; refine KO_nil ?_) | (refine K_region (id := 1) ?_; refine mv ?_)))
  obtain ⟨br, hnm⟩ : ∃ x, x = b := ⟨_, rfl⟩; subst hnm
  (refine KO_fn rfl rfl rfl rfl rfl ((split_ok S.wf s [32] rfl (by omega)).mono ?_); rintro vw h x) <;> (replace S := S.join1 x; clear x; refine mv ?_; refine KO_nil ?_)
  change Hs h0 h (.sl vw 9 1 eS (spl 32 s) :: _) at S
  obtain ⟨ws, hws⟩ : ∃ ws, ws = spl 32 s := ⟨_, rfl⟩
  unfold LineR
  rw [← hws] at S hlen hwl ⊢
  (repeat (refine K_seq ?_)); first | refine K_join (σ := Unit) (fun _ h' => Hs h0 h' [.sl vw 9 1 eS ws, .blk br zT 25] ∧ 7 ≤ ws.length ∧ wAt ws 0 = wTable ∧ wAt ws 1 ≠ []) (fun _ => [(2, PT br), (4, vw)]) ?_ ?_
  · all_goals (repeat' (first | refine K_seq ?_ | refine k_cond rfl ?_ | refine K_skip ?_ | (refine K_region (id := 2) ?_; refine mv ?_; refine lnS S rfl rfl ?_; (first | (refine cS ?_ ?_ <;> intro hc)) <;> (refine mv ?_; (first | refine off ?_ | refine mv ?_); (first | refine off ?_ | (refine ixS2 S rfl rfl ?_)); (first | refine off ?_ | (refine lES2 S rfl rfl ?_)); (first | refine off ?_ | (refine tS ?_ ?_ <;> intro hc)) <;> (refine vl ?_; refine mv ?_; (first | refine off ?_ | refine mv ?_); (first | refine off ?_ | (refine ixS2 S rfl rfl ?_)); (first | refine off ?_ | (refine lES2 S rfl rfl ?_)); (first | refine off ?_ | (refine tS ?_ ?_ <;> intro hc)) <;> (refine vl ?_; refine KO_nil ?_)))) | (refine K_region (id := 3) ?_; refine vl ?_; (first | (refine sB S rfl rfl ?_; clear S; intro h S)); refine mv ?_; refine KO_nil ?_)))
    · refine K_ret ⟨_, ret_cell S rfl (by first | exact .there .here) (by exact rfl) (by exact rfl), ?_⟩
      exact ⟨t0T, false, rfl, .inr ⟨rfl, fun q => by have := q.1; omega⟩, t0_L, S.nil0⟩
    · refine K_ret ⟨_, ret_cell S rfl (by first | exact .there .here) (by exact rfl) (by exact rfl), ?_⟩
      exact ⟨t0T, false, rfl, .inr ⟨rfl, fun q => q.2.2.1 hc⟩, t0_L, S.nil0⟩
    · rename_i hc1
      exact ⟨(), ⟨S, by omega, hc1, hc⟩, ((by repeat (first | exact Ks.le_nil _ | refine Ks.le_cons rfl ?_)))⟩
    · refine K_ret ⟨_, ret_cell S rfl (by first | exact .there .here) (by exact rfl) (by exact rfl), ?_⟩
      exact ⟨t0T, false, rfl, .inr ⟨rfl, fun q => hc q.2.1⟩, t0_L, S.nil0⟩
  clear S
  rintro - h ⟨S, l7, w0, w1⟩
  skip
  all_goals (repeat' (first | refine K_seq ?_ | (refine K_region (id := 4) ?_; refine mv ?_; refine ixS2 S rfl rfl ?_; refine lES2 S rfl rfl ?_; refine vl ?_; (refine al S ?_; clear S; intro b h S); (first | (refine sB S rfl rfl ?_; clear S; intro h S)); refine KO_nil ?_) | (refine K_region (id := 5) ?_; skip)))
  obtain ⟨bt, hnm⟩ : ∃ x, x = b := ⟨_, rfl⟩; subst hnm
  (refine KO_fn rfl rfl rfl rfl rfl ((shapes_ok S.wf).mono ?_); rintro us h x) <;> (replace S := S.join1 x; clear x; refine lnS S rfl rfl ?_; refine mv ?_; refine KO_nil ?_)
  all_goals (repeat' (refine k_block ?_))
  have hl4 : ([1, 2, 3, 4] : List Nat).length = 4 := rfl
  refine k_loop (σ := Nat) (fun i h' => Hs h0 h' [.sl us 22 1 eU [1, 2, 3, 4], .blk bt (nT (wAt ws 1) (shpI i (wAt ws 2))) 25, .sl vw 9 1 eS ws, .blk br zT 25] ∧ i ≤ 4) (fun i => 4 - i) (fun i => [(2, PT br), (4, vw), (5, PT bt), (38, us), (39, .int .i64 ([1, 2, 3, 4] : List Nat).length), (40, .int .i64 i)]) 0 (by repeat (first | exact Ks.le_nil _ | refine Ks.le_cons rfl ?_)) ?_ ?_
  · exact ⟨S, Nat.zero_le _⟩
  clear S
  rintro i h ⟨S, hi1⟩
  all_goals (repeat' (first | refine K_seq ?_ | refine k_cond rfl ?_ | refine K_skip ?_ | refine K_exit ?_ | refine k_block ?_ | (refine K_region (id := 6) ?_; (first | (refine cS ?_ ?_ <;> intro hc)) <;> (refine KO_nil ?_)) | (refine K_region (id := 7) ?_; refine ixS2 S rfl rfl ?_; refine lES2 S rfl rfl ?_; refine mv ?_; refine KO_nil ?_)))
  · have hi : i < 4 := by omega
    (try simp only [Int.toNat_natCast])
    have hx : ([1, 2, 3, 4] : List Nat).getD i default = i + 1 := by
      have : i = 0 ∨ i = 1 ∨ i = 2 ∨ i = 3 := by omega
      rcases this with rfl | rfl | rfl | rfl <;> rfl
    rw [hx]
    have hss := shpI_succ hi (wAt ws 2)
    have hlw : ∀ k, k < 4 → lwd k = if k = 0 then wRound else if k = 1 then wLong else if k = 2 then wShoe else wRow := fun k _ => rfl
    all_goals (repeat' (first | (refine K_region (id := 8) ?_; refine mv ?_)))
    (refine KO_fn rfl rfl rfl rfl rfl ((layoutOf_ok S.wf _).mono ?_); rintro _ h ⟨⟨rfl, hq⟩ | ⟨rfl, hq⟩ | ⟨rfl, hq⟩ | ⟨rfl, hq⟩ | ⟨rfl, hq⟩, x⟩) <;> (replace S := S.join0 x; clear x; refine mv ?_; refine vl ?_; refine vl ?_; (refine al S ?_; clear S; intro b h S); (first | (refine sB S rfl rfl ?_; clear S; intro h S)); refine mv ?_; refine KO_nil ?_)
    all_goals (try (exfalso; omega))
    · obtain rfl : i = 0 := by omega
      all_goals (repeat' (first | refine K_seq ?_ | refine k_cond rfl ?_ | refine K_skip ?_ | (refine K_draw (id := 9) ?_; refine vl ?_; refine lB S rfl rfl ?_; refine mv ?_; refine ixS2 S rfl rfl ?_; refine lES2 S rfl rfl ?_; (refine tS ?_ ?_ <;> intro hc) <;> (refine KO_nil ?_)) | (refine K_region (id := 10) ?_; refine mv ?_; refine vl ?_; (first | (refine sB S rfl rfl ?_; clear S; intro h S)); refine KO_nil ?_) | (refine K_region (id := 11) ?_; refine ad ?_; refine mv ?_; refine KO_nil ?_)))
      · rw [if_pos (show wAt ws 2 = lwd 0 from hc.symm)] at hss
        refine ⟨0 + 1, ?_, ?_, (by repeat (first | exact Ks.le_nil _ | refine Ks.le_cons rfl ?_))⟩
        · show 4 - (0 + 1) < 4 - 0; omega
        · exact ⟨shp_step (S.del .here) hss, by omega⟩
      · rw [if_neg (show ¬ wAt ws 2 = lwd 0 from fun q => hc q.symm)] at hss
        refine ⟨0 + 1, ?_, ?_, (by repeat (first | exact Ks.le_nil _ | refine Ks.le_cons rfl ?_))⟩
        · show 4 - (0 + 1) < 4 - 0; omega
        · exact ⟨shp_step (S.del .here) hss, by omega⟩
    · obtain rfl : i = 1 := by omega
      all_goals (repeat' (first | refine K_seq ?_ | refine k_cond rfl ?_ | refine K_skip ?_ | (refine K_draw (id := 9) ?_; refine vl ?_; refine lB S rfl rfl ?_; refine mv ?_; refine ixS2 S rfl rfl ?_; refine lES2 S rfl rfl ?_; (refine tS ?_ ?_ <;> intro hc) <;> (refine KO_nil ?_)) | (refine K_region (id := 10) ?_; refine mv ?_; refine vl ?_; (first | (refine sB S rfl rfl ?_; clear S; intro h S)); refine KO_nil ?_) | (refine K_region (id := 11) ?_; refine ad ?_; refine mv ?_; refine KO_nil ?_)))
      · rw [if_pos (show wAt ws 2 = lwd 1 from hc.symm)] at hss
        refine ⟨1 + 1, ?_, ?_, (by repeat (first | exact Ks.le_nil _ | refine Ks.le_cons rfl ?_))⟩
        · show 4 - (1 + 1) < 4 - 1; omega
        · exact ⟨shp_step (S.del .here) hss, by omega⟩
      · rw [if_neg (show ¬ wAt ws 2 = lwd 1 from fun q => hc q.symm)] at hss
        refine ⟨1 + 1, ?_, ?_, (by repeat (first | exact Ks.le_nil _ | refine Ks.le_cons rfl ?_))⟩
        · show 4 - (1 + 1) < 4 - 1; omega
        · exact ⟨shp_step (S.del .here) hss, by omega⟩
    · obtain rfl : i = 2 := by omega
      all_goals (repeat' (first | refine K_seq ?_ | refine k_cond rfl ?_ | refine K_skip ?_ | (refine K_draw (id := 9) ?_; refine vl ?_; refine lB S rfl rfl ?_; refine mv ?_; refine ixS2 S rfl rfl ?_; refine lES2 S rfl rfl ?_; (refine tS ?_ ?_ <;> intro hc) <;> (refine KO_nil ?_)) | (refine K_region (id := 10) ?_; refine mv ?_; refine vl ?_; (first | (refine sB S rfl rfl ?_; clear S; intro h S)); refine KO_nil ?_) | (refine K_region (id := 11) ?_; refine ad ?_; refine mv ?_; refine KO_nil ?_)))
      · rw [if_pos (show wAt ws 2 = lwd 2 from hc.symm)] at hss
        refine ⟨2 + 1, ?_, ?_, (by repeat (first | exact Ks.le_nil _ | refine Ks.le_cons rfl ?_))⟩
        · show 4 - (2 + 1) < 4 - 2; omega
        · exact ⟨shp_step (S.del .here) hss, by omega⟩
      · rw [if_neg (show ¬ wAt ws 2 = lwd 2 from fun q => hc q.symm)] at hss
        refine ⟨2 + 1, ?_, ?_, (by repeat (first | exact Ks.le_nil _ | refine Ks.le_cons rfl ?_))⟩
        · show 4 - (2 + 1) < 4 - 2; omega
        · exact ⟨shp_step (S.del .here) hss, by omega⟩
    · obtain rfl : i = 3 := by omega
      all_goals (repeat' (first | refine K_seq ?_ | refine k_cond rfl ?_ | refine K_skip ?_ | (refine K_draw (id := 9) ?_; refine vl ?_; refine lB S rfl rfl ?_; refine mv ?_; refine ixS2 S rfl rfl ?_; refine lES2 S rfl rfl ?_; (refine tS ?_ ?_ <;> intro hc) <;> (refine KO_nil ?_)) | (refine K_region (id := 10) ?_; refine mv ?_; refine vl ?_; (first | (refine sB S rfl rfl ?_; clear S; intro h S)); refine KO_nil ?_) | (refine K_region (id := 11) ?_; refine ad ?_; refine mv ?_; refine KO_nil ?_)))
      · rw [if_pos (show wAt ws 2 = lwd 3 from hc.symm)] at hss
        refine ⟨3 + 1, ?_, ?_, (by repeat (first | exact Ks.le_nil _ | refine Ks.le_cons rfl ?_))⟩
        · show 4 - (3 + 1) < 4 - 3; omega
        · exact ⟨shp_step (S.del .here) hss, by omega⟩
      · rw [if_neg (show ¬ wAt ws 2 = lwd 3 from fun q => hc q.symm)] at hss
        refine ⟨3 + 1, ?_, ?_, (by repeat (first | exact Ks.le_nil _ | refine Ks.le_cons rfl ?_))⟩
        · show 4 - (3 + 1) < 4 - 3; omega
        · exact ⟨shp_step (S.del .here) hss, by omega⟩
  obtain rfl : i = 4 := by omega
  rw [shpI_all] at S
  replace S := S.tail
  obtain ⟨z, hz⟩ : ∃ z, z = shp (wAt ws 2) := ⟨_, rfl⟩
  rw [← hz] at S
  skip
  (repeat (refine K_seq ?_)); first | refine K_join1 (σ := Bool) (fun b h' => Hs h0 h' [.blk bt (nT (wAt ws 1) z) 25, .sl vw 9 1 eS ws, .blk br zT 25] ∧ (b = true ↔ z ≠ 0)) (fun b => [(2, PT br), (4, vw), (5, PT bt), (10, .bool b)]) ?_ ?_
  · all_goals (repeat' (first | (refine K_region (id := 12) ?_; refine vl ?_; refine lB S rfl rfl ?_; (first | (refine cS ?_ ?_ <;> intro hc)) <;> (refine mv ?_; refine KO_nil ?_))))
    · exact ⟨true, ⟨S, ⟨fun _ => hc, fun _ => rfl⟩⟩, ((by repeat (first | exact Ks.le_nil _ | refine Ks.le_cons rfl ?_)))⟩
    · exact ⟨false, ⟨S, ⟨fun q => (by cases q), fun q => absurd q hc⟩⟩, ((by repeat (first | exact Ks.le_nil _ | refine Ks.le_cons rfl ?_)))⟩
  clear S
  rintro b0 h ⟨S, hb0⟩
  skip
  all_goals (repeat' (first | refine K_seq ?_ | refine k_block ?_ | (refine K_region (id := 13) ?_; refine mv ?_; refine KO_nil ?_) | (refine K_region (id := 14) ?_; refine mv ?_; (refine dr S rfl rfl ?_; clear S; intro vq S); refine lnS S rfl rfl ?_; refine mv ?_; refine KO_nil ?_)))
  (try simp only [show Int.toNat 3 = 3 from rfl] at S)
  (try simp only [show Int.toNat 3 = 3 from rfl])
  refine k_loop (σ := Nat × Bool × List Int × Value) (fun (j, b, nl, vn) h' => Hs h0 h' [.sl vn 3 1 eI nl, .sl vq 9 1 eS (ws.drop 3), .blk bt (nT (wAt ws 1) z) 25, .blk br zT 25] ∧ j ≤ ws.length - 3 ∧ nl.length = j ∧ (b = true → z ≠ 0 ∧ NumsTo ws j nl) ∧ (b = false → ¬ LineP ws)) (fun (j, b, nl, vn) => ws.length - 3 - j) (fun (j, b, nl, vn) => [(2, PT br), (5, PT bt), (10, .bool b), (11, vn), (62, vq), (63, .int .i64 (ws.drop 3).length), (64, .int .i64 j)]) (0, b0, [], .slice none 0 0) (by repeat (first | exact Ks.le_nil _ | refine Ks.le_cons rfl ?_)) ?_ ?_
  · exact ⟨((S.front (.there .here)).nilS), Nat.zero_le _, rfl, fun q => ⟨hb0.1 q, rfl, fun k hk => absurd hk (Nat.not_lt_zero _)⟩, fun q l => by rw [hb0.2 (hz ▸ l.2.2.2.1)] at q; cases q⟩
  clear S
  rintro ⟨j, b, nl, vn⟩ h ⟨S, hj1, hnl, hb1, hb2⟩
  have hdl : (ws.drop 3).length = ws.length - 3 := by simp
  all_goals (repeat' (first | refine K_seq ?_ | refine k_cond rfl ?_ | refine K_skip ?_ | refine K_exit ?_ | refine k_block ?_ | (refine K_region (id := 15) ?_; (first | (refine cS ?_ ?_ <;> intro hc)) <;> (refine KO_nil ?_)) | (refine K_region (id := 16) ?_; refine ixS2 S rfl rfl ?_; refine lES2 S rfl rfl ?_; refine mv ?_; refine KO_nil ?_)))
  · have hj : j < ws.length - 3 := by omega
    (try simp only [Int.toNat_natCast])
    rw [drop_getD ws 3 j]
    have hwj := hwl (3 + j) (by omega)
    all_goals (repeat' (first | (refine K_region (id := 17) ?_; refine mv ?_)))
    (refine KO_fn rfl rfl rfl rfl rfl ((number_ok S.wf (wAt ws (3 + j)) (by omega)).mono ?_); rintro _ h ⟨k, bb, rfl, hn, x⟩) <;> (replace S := S.join0 x; clear x; refine mv ?_; refine vl ?_; refine vl ?_; refine mv ?_; refine mv ?_; refine KO_nil ?_)
    all_goals (repeat' (first | refine K_seq ?_ | (refine K_region (id := 18) ?_; refine mv ?_; refine mv ?_; (refine one 1 S ?_; clear S; intro u h S))))
    refine app (y0 := k) S rfl rfl ?_; clear S; intro v h S; refine mv ?_; refine KO_nil ?_
    cases b
    · all_goals (repeat' (first | (refine K_region (id := 19) ?_; refine mv ?_; refine mv ?_; refine off ?_; refine vl ?_; refine mv ?_; refine KO_nil ?_) | (refine K_region (id := 20) ?_; refine ad ?_; refine mv ?_; refine KO_nil ?_)))
      refine ⟨(j + 1, false, nl ++ [k], v), ?_, ?_, (by repeat (first | exact Ks.le_nil _ | refine Ks.le_cons rfl ?_))⟩
      · show ws.length - 3 - (j + 1) < ws.length - 3 - j; omega
      · exact ⟨S, by omega, by simp [hnl], fun q => (by cases q), fun _ => hb2 rfl⟩
    · obtain ⟨hz0, hnt⟩ := hb1 rfl
      rcases hn with ⟨rfl, hn, hk⟩ | ⟨rfl, hn⟩
      · all_goals (repeat' (first | (refine K_region (id := 19) ?_; refine mv ?_; refine mv ?_; refine mv ?_; refine vl ?_; refine mv ?_; refine KO_nil ?_) | (refine K_region (id := 20) ?_; refine ad ?_; refine mv ?_; refine KO_nil ?_)))
        refine ⟨(j + 1, true, nl ++ [k], v), ?_, ?_, (by repeat (first | exact Ks.le_nil _ | refine Ks.le_cons rfl ?_))⟩
        · show ws.length - 3 - (j + 1) < ws.length - 3 - j; omega
        · refine ⟨S, by omega, by simp [hnl], fun _ => ⟨hz0, by simp [hnl], nxtD (fun i hi => ⟨(hnt.2 i hi).1, ?_⟩) ⟨hn, ?_⟩⟩, fun q => (by cases q)⟩
          · rw [getD_snoc1 _ _ (by omega)]; exact (hnt.2 i hi).2
          · rw [getD_snoc2 _ _ (by omega)]; exact hk
      · all_goals (repeat' (first | (refine K_region (id := 19) ?_; refine mv ?_; refine mv ?_; refine mv ?_; refine vl ?_; refine mv ?_; refine KO_nil ?_) | (refine K_region (id := 20) ?_; refine ad ?_; refine mv ?_; refine KO_nil ?_)))
        refine ⟨(j + 1, false, nl ++ [k], v), ?_, ?_, (by repeat (first | exact Ks.le_nil _ | refine Ks.le_cons rfl ?_))⟩
        · show ws.length - 3 - (j + 1) < ws.length - 3 - j; omega
        · exact ⟨S, by omega, by simp [hnl], fun q => (by cases q), fun _ l => hn (l.2.2.2.2 (3 + j) (by omega) (by omega))⟩
  have hj : j = ws.length - 3 := by omega
  subst hj
  skip
  cases b
  · replace S := S.front (.there (.there (.there .here)))
    all_goals (repeat' (first | refine K_seq ?_ | refine k_cond rfl ?_ | (refine K_region (id := 21) ?_; refine mv ?_; refine vl ?_; refine KO_nil ?_) | (refine K_region (id := 22) ?_; refine vl ?_; (first | (refine sB S rfl rfl ?_; clear S; intro h S)); refine mv ?_; refine KO_nil ?_)))
    refine K_ret ⟨_, ret_cell S rfl (by first | exact .here) (by exact rfl) (by exact rfl), ?_⟩
    exact ⟨t0T, false, rfl, .inr ⟨rfl, hb2 rfl⟩, t0_L, S.nil0⟩
  obtain ⟨hz0, hnt⟩ := hb1 rfl
  all_goals (repeat' (first | refine K_seq ?_ | refine k_cond rfl ?_ | refine K_skip ?_ | (refine K_region (id := 21) ?_; refine mv ?_; refine vl ?_; refine KO_nil ?_)))
  obtain ⟨⟨sp, sn, sc⟩, rfl⟩ := (Rd.of_sl S .here).isSl
  have hvn := S.slNe .here (by have := hnt.1; omega)
  have hnl4 := hnt.1
  (repeat (refine K_seq ?_)); refine K_drawX (id := 23) [(5, (0, 1)), (8, (0, 2)), (11, (0, 3)), (13, (0, 4))] [some (blkS (.slice sp sn sc)), some (blkS (.slice sp sn sc)), some (blkS (.slice sp sn sc)), some (blkS (.slice sp sn sc))] ?_; refine KX_cons ?_; (first | (refine mv ?_ <;> refine KO_nil ⟨⟨by (first | exact True.intro), rfl⟩, ?_⟩)); refine KX_cons ?_; (first | (refine ixS2 S rfl rfl ?_ <;> refine KO_nil ⟨⟨by (first | exact True.intro), rfl⟩, ?_⟩)); refine KX_cons ?_; (first | (refine lES2 S rfl rfl ?_ <;> refine KO_nil ⟨⟨by (first | exact True.intro), rfl⟩, ?_⟩)); refine KX_cons ?_; (first | (refine mv ?_ <;> refine KO_nil ⟨⟨by (first | exact True.intro), rfl⟩, ?_⟩)); refine KX_cons ?_; (first | (refine ixS2 S rfl rfl ?_ <;> refine KO_nil ⟨⟨by (first | exact True.intro), rfl⟩, ?_⟩)); refine KX_cons ?_; (first | (refine lES2 S rfl rfl ?_ <;> refine KO_nil ⟨⟨by (first | exact Or.inr (congrArg some (blkOf_elA _ _ _ _))), rfl⟩, ?_⟩)); refine KX_cons ?_; (first | (refine mv ?_ <;> refine KO_nil ⟨⟨by (first | exact True.intro), rfl⟩, ?_⟩)); refine KX_cons ?_; (first | (refine ixS2 S rfl rfl ?_ <;> refine KO_nil ⟨⟨by (first | exact True.intro), rfl⟩, ?_⟩)); refine KX_cons ?_; (first | (refine lES2 S rfl rfl ?_ <;> refine KO_nil ⟨⟨by (first | exact Or.inr (congrArg some (blkOf_elA _ _ _ _))), rfl⟩, ?_⟩)); refine KX_cons ?_; (first | (refine mv ?_ <;> refine KO_nil ⟨⟨by (first | exact True.intro), rfl⟩, ?_⟩)); refine KX_cons ?_; (first | (refine ixS2 S rfl rfl ?_ <;> refine KO_nil ⟨⟨by (first | exact True.intro), rfl⟩, ?_⟩)); refine KX_cons ?_; (first | (refine lES2 S rfl rfl ?_ <;> refine KO_nil ⟨⟨by (first | exact Or.inr (congrArg some (blkOf_elA _ _ _ _))), rfl⟩, ?_⟩)); refine KX_cons ?_; (first | (refine mv ?_ <;> refine KO_nil ⟨⟨by (first | exact True.intro), rfl⟩, ?_⟩)); refine KX_cons ?_; refine drB S rfl rfl ?_; clear S; intro vq S hvb; obtain ⟨⟨qp, qn, qc⟩, rfl⟩ := S.sV vq; have hvq := hvb.2 (by assumption); refine KO_nil ⟨⟨by (first | exact Or.inr (congrArg some (blkOf_slc _ _ _))), rfl⟩, ?_⟩; refine KX_cons ?_; (first | (refine vl ?_ <;> refine KO_nil ⟨⟨by (first | exact True.intro), rfl⟩, ?_⟩)); refine KX_cons ?_; (first | (refine sBk S rfl rfl ?_; have S0 := S; clear S; intro h S hk; refine KO_nil ⟨⟨True.intro, ?_⟩, ?_⟩; (focus ((show keepsX _ _ _ _ _; simp only [keepsX]; (repeat' (first | exact True.intro | refine And.intro ?_ ?_)); all_goals (intro hw; first | (rw [← hvb.1]; exact hk _ (S0.neB (by assumption))))))); clear S0 hk)); refine KX_cons ?_; (first | (refine vl ?_ <;> refine KO_nil ⟨⟨by (first | exact True.intro), rfl⟩, ?_⟩)); refine KX_cons ?_; (first | (refine sBk S rfl rfl ?_; have S0 := S; clear S; intro h S hk; refine KO_nil ⟨⟨True.intro, ?_⟩, ?_⟩; (focus ((show keepsX _ _ _ _ _; simp only [keepsX]; (repeat' (first | exact True.intro | refine And.intro ?_ ?_)); all_goals (intro hw; first | (rw [← hvb.1]; exact hk _ (S0.neB (by assumption))))))); clear S0 hk)); refine KX_cons ?_; (first | (refine vl ?_ <;> refine KO_nil ⟨⟨by (first | exact True.intro), rfl⟩, ?_⟩)); refine KX_cons ?_; (first | (refine sBk S rfl rfl ?_; have S0 := S; clear S; intro h S hk; refine KO_nil ⟨⟨True.intro, ?_⟩, ?_⟩; (focus ((show keepsX _ _ _ _ _; simp only [keepsX]; (repeat' (first | exact True.intro | refine And.intro ?_ ?_)); all_goals (intro hw; first | (rw [← hvb.1]; exact hk _ (S0.neB (by assumption))))))); clear S0 hk)); refine KX_cons ?_; (first | (refine vl ?_ <;> refine KO_nil ⟨⟨by (first | exact True.intro), rfl⟩, ?_⟩)); refine KX_cons ?_; (first | (refine sBk S rfl rfl ?_; have S0 := S; clear S; intro h S hk; refine KO_nil ⟨⟨True.intro, ?_⟩, ?_⟩; (focus ((show keepsX _ _ _ _ _; simp only [keepsX]; (repeat' (first | exact True.intro | refine And.intro ?_ ?_)); all_goals (intro hw; first | (rw [← hvb.1]; exact hk _ (S0.neB (by assumption))))))); clear S0 hk)); refine KX_cons ?_; (first | (refine vl ?_ <;> refine KO_nil ⟨⟨by (first | exact True.intro), rfl⟩, ?_⟩)); refine KX_cons ?_; (first | (refine sBk S rfl rfl ?_; have S0 := S; clear S; intro h S hk; refine KO_nil ⟨⟨True.intro, ?_⟩, ?_⟩; (focus ((show keepsX _ _ _ _ _; simp only [keepsX]; (repeat' (first | exact True.intro | refine And.intro ?_ ?_)); all_goals (intro hw; first | (rw [← hvb.1]; exact hk _ (S0.neB (by assumption))))))); clear S0 hk)); refine KX_nil ?_
  clear hvb hvq
  (try simp only [show Int.toNat 4 = 4 from rfl] at S)
  replace S := S.front (.there (.there (.there .here)))
  all_goals (repeat' (first | refine K_seq ?_ | (refine K_region (id := 24) ?_; refine lB S rfl rfl ?_; (first | (refine sB S rfl rfl ?_; clear S; intro h S)); refine mv ?_; refine KO_nil ?_)))
  have hro := (S.only (.there .here)).slRd
  have hn1 := hwl 1 (by omega)
  refine K_ret ⟨_, ret_cell S rfl (by first | exact .here) (by exact rfl) (by exact rfl), ?_⟩
  refine ⟨⟨wAt ws 1, z, nl.getD 0 default, nl.getD 1 default, ⟨qp, qn, qc⟩, nl.drop 4, nl.getD 2 default, nl.getD 3 default⟩, true, rfl, .inl ⟨rfl, hnt.line l7 w0 w1 (hz ▸ hz0), ?_⟩, ⟨by show (wAt ws 1).length ≤ _; omega, by show (nl.drop 4).length ≤ _; simp; omega⟩, (S.only (.there .here)).slRd⟩
  subst hz
  exact hnt.same l7 _
end Go.Proofs.Xx

/-
  The reference's words and lines.
-/
namespace Go.Proofs.Xx
open Go Go.Proofs
set_option linter.unusedSimpArgs false
set_option linter.unusedVariables false
set_option maxRecDepth 100000

theorem spl_step {c : UInt8} {s : List UInt8} {i : Nat} (h : i < s.length) : spl c (s.drop i) = if s.getD i 0 = c then [] :: spl c (s.drop (i + 1)) else prep [s.getD i 0] (spl c (s.drop (i + 1))) := by
  rw [List.drop_eq_getElem_cons h]
  have e : s.getD i 0 = s[i] := by simp [List.getD_eq_getElem?_getD, h]
  rw [e]; rfl
theorem spl_end {c : UInt8} {s : List UInt8} : spl c (s.drop s.length) = [[]] := by rw [List.drop_length]; rfl
theorem prep_cons {a w : List UInt8} {r : List (List UInt8)} : prep a (w :: r) = (a ++ w) :: r := rfl
theorem take1 {s : List UInt8} {i : Nat} (h : i < s.length) : (s.drop i).take (i + 1 - i) = [s.getD i 0] := by
  rw [show i + 1 - i = 0 + 1 by omega, List.take_add_one, List.getElem?_drop, Nat.add_zero, List.getElem?_eq_getElem h]
  simp [List.getD_eq_getElem?_getD, h]
/-- What stands of a text's pieces after i bytes. -/
def PcsW (s : List UInt8) (i : Nat) (wd : List UInt8) (out : List (List UInt8)) : Prop := (i ≤ s.length ∧ spl 32 s = out ++ prep wd (spl 32 (s.drop i)) ∧ wd.length ≤ i) ∨ (i = s.length + 1 ∧ spl 32 s = out)
def noE (l : List (List UInt8)) : Prop := ∀ i, i < l.length → wAt l i ≠ []
theorem noE_snoc {l : List (List UInt8)} {w : List UInt8} (h : noE l) (hw : w ≠ []) : noE (l ++ [w]) := fun i hi => by
  simp only [List.length_append, List.length_cons, List.length_nil] at hi
  rcases Nat.lt_or_ge i l.length with q | q
  · rw [show wAt (l ++ [w]) i = wAt l i from getD_snoc1 _ _ q]; exact h i q
  · rw [show wAt (l ++ [w]) i = w from getD_snoc2 _ _ (by omega)]; exact hw
theorem wAt_mid {l r : List (List UInt8)} {w : List UInt8} : wAt (l ++ w :: r) l.length = w ∧ l.length < (l ++ w :: r).length := by
  constructor
  · simp [wAt, List.getD_eq_getElem?_getD]
  · simp
set_option maxHeartbeats 1000000 in
theorem refWords_ok {h0 : AH} (w : WfH h0) (s : List UInt8) (hs : s.length ≤ 100000) : Fn Tryz.prog Xh 175 [str s] h0 (fun v h' => ∃ u b l, v = .tuple #[u, .bool b] ∧ ((b = true ∧ l = spl 32 s ∧ noE l) ∨ (b = false ∧ ¬ noE (spl 32 s))) ∧ Hs h0 h' [.sl u 9 1 eS l]) := by
  have S := Hs.start w
  refine Fn_K rfl Tryz.func175 rfl rfl ?_
  all_goals (repeat' (first | refine K_seq ?_ | refine k_block ?_ | (refine K_region (id := 0) ?_; refine mv ?_; refine mv ?_; refine KO_nil ?_) | (refine K_region (id := 1) ?_; refine mv ?_; refine KO_nil ?_) | (refine K_region (id := 2) ?_; refine mv ?_; refine KO_nil ?_) | (refine K_region (id := 3) ?_; refine mv ?_; refine KO_nil ?_)))
  refine k_loop (σ := Nat × List UInt8 × List (List UInt8) × Value) (fun (i, wd, out, vo) h' => Hs h0 h' [.sl vo 9 1 eS out] ∧ PcsW s i wd out ∧ noE out ∧ out.length ≤ i) (fun (i, wd, out, vo) => s.length + 1 - i) (fun (i, wd, out, vo) => [(0, str s), (4, vo), (5, str wd), (6, .int .i64 i)]) (0, [], [], .slice none 0 0) (by repeat (first | exact Ks.le_nil _ | refine Ks.le_cons rfl ?_)) ?_ ?_
  · exact ⟨S.nilS, .inl ⟨Nat.zero_le _, by rw [List.nil_append, prep_nil (spl_ne _ _), List.drop_zero], Nat.le_refl _⟩, fun i hi => absurd hi (Nat.not_lt_zero _), Nat.le_refl _⟩
  clear S
  rintro ⟨i, wd, out, vo⟩ h ⟨S, hp, hn, ho⟩
  all_goals (repeat' (first | refine K_seq ?_ | refine k_cond rfl ?_ | refine K_skip ?_ | refine K_exit ?_ | refine k_block ?_ | (refine K_region (id := 4) ?_; refine mv ?_; refine mv ?_; refine tl ?_; (first | (refine cS ?_ ?_ <;> intro hc)) <;> (refine KO_nil ?_))))
  · obtain ⟨h1, h2, h3⟩ : i ≤ s.length ∧ spl 32 s = out ++ prep wd (spl 32 (s.drop i)) ∧ wd.length ≤ i := by
      rcases hp with hp | hp
      · exact hp
      · omega
    clear hp
    all_goals (repeat' (first | refine K_seq ?_ | refine k_cond rfl ?_ | refine K_skip ?_ | (refine K_region (id := 6) ?_; refine mv ?_; refine mv ?_; refine tl ?_; (first | (refine cS ?_ ?_ <;> intro hc)) <;> (refine mv ?_; (first | refine off ?_ | refine mv ?_); (first | refine off ?_ | refine mv ?_); (first | refine off ?_ | (refine ti ?_)); (first | refine off ?_ | (first | (refine cS ?_ ?_ <;> intro hc))) <;> (refine vl ?_; refine KO_nil ?_)))))
    · have hi : i < s.length := by omega
      (try simp only [Int.toNat_natCast] at *)
      have hx : ¬ s.getD i 0 = 32 := fun q => hc (by rw [q]; rfl)
      rw [spl_step hi, if_neg hx, prep_prep (spl_ne _ _)] at h2
      all_goals (repeat' (first | refine K_exit ?_ | (refine K_region (id := 5) ?_; refine mv ?_; refine ad ?_; refine mv ?_; refine KO_nil ?_) | (refine K_region (id := 7) ?_; refine mv ?_; refine mv ?_; refine mv ?_; refine mv ?_; refine ad ?_; refine tsl ?_; refine tc ?_; refine mv ?_; refine KO_nil ?_)))
      rw [take1 hi]
      refine ⟨(i + 1, wd ++ [s.getD i 0], out, vo), ?_, ?_, (by repeat (first | exact Ks.le_nil _ | refine Ks.le_cons rfl ?_))⟩
      · show s.length + 1 - (i + 1) < s.length + 1 - i; omega
      · exact ⟨S, .inl ⟨hi, h2, by simp; omega⟩, hn, (by show out.length ≤ i + 1; omega)⟩
    · have hi : i < s.length := by omega
      (try simp only [Int.toNat_natCast] at *)
      have hx : s.getD i 0 = 32 := u8_of (c := 32) (Classical.not_not.1 hc)
      rw [spl_step hi, if_pos hx, prep_cons, List.append_nil] at h2
      have hp2 : PcsW s (i + 1) [] (out ++ [wd]) := .inl ⟨hi, by rw [prep_nil (spl_ne _ _), List.append_assoc]; exact h2, by simp⟩
      all_goals (repeat' (first | refine K_seq ?_ | refine k_cond rfl ?_ | refine K_skip ?_ | (refine K_region (id := 8) ?_; refine mv ?_; (refine tS ?_ ?_ <;> intro hc) <;> (refine KO_nil ?_)) | (refine K_region (id := 9) ?_; refine mv ?_; refine mv ?_; refine KO_nil ?_)))
      · have hcw : wd = [] := hc
        refine K_ret ⟨_, rfl, ?_⟩
        refine ⟨_, false, [], rfl, .inr ⟨rfl, fun q => ?_⟩, S.drop.nilS⟩
        rw [h2] at q
        exact q out.length wAt_mid.2 (wAt_mid.1.trans hcw)
      · have hcw : ¬ wd = [] := hc
        all_goals (repeat' (first | (refine K_region (id := 10) ?_; refine mv ?_; refine mv ?_; (refine one 1 S ?_; clear S; intro u h S))))
        refine app (y0 := wd) S rfl rfl ?_; clear S; intro v h S; refine mv ?_; refine KO_nil ?_
        all_goals (repeat' (first | (refine K_region (id := 5) ?_; refine mv ?_; refine ad ?_; refine mv ?_; refine KO_nil ?_) | (refine K_region (id := 11) ?_; refine mv ?_; refine KO_nil ?_)))
        refine ⟨(i + 1, [], out ++ [wd], v), ?_, ?_, (by repeat (first | exact Ks.le_nil _ | refine Ks.le_cons rfl ?_))⟩
        · show s.length + 1 - (i + 1) < s.length + 1 - i; omega
        · exact ⟨S, hp2, noE_snoc hn hcw, by simp; omega⟩
    · have hi : i = s.length := by omega
      subst hi
      rw [spl_end, prep_cons, List.append_nil] at h2
      have hp2 : PcsW s (s.length + 1) [] (out ++ [wd]) := .inr ⟨rfl, h2⟩
      all_goals (repeat' (first | refine K_seq ?_ | refine k_cond rfl ?_ | refine K_skip ?_ | (refine K_region (id := 8) ?_; refine mv ?_; (refine tS ?_ ?_ <;> intro hc) <;> (refine KO_nil ?_)) | (refine K_region (id := 9) ?_; refine mv ?_; refine mv ?_; refine KO_nil ?_)))
      · have hcw : wd = [] := hc
        refine K_ret ⟨_, rfl, ?_⟩
        refine ⟨_, false, [], rfl, .inr ⟨rfl, fun q => ?_⟩, S.drop.nilS⟩
        rw [h2] at q
        exact q out.length wAt_mid.2 (wAt_mid.1.trans hcw)
      · have hcw : ¬ wd = [] := hc
        all_goals (repeat' (first | (refine K_region (id := 10) ?_; refine mv ?_; refine mv ?_; (refine one 1 S ?_; clear S; intro u h S))))
        refine app (y0 := wd) S rfl rfl ?_; clear S; intro v h S; refine mv ?_; refine KO_nil ?_
        all_goals (repeat' (first | (refine K_region (id := 5) ?_; refine mv ?_; refine ad ?_; refine mv ?_; refine KO_nil ?_) | (refine K_region (id := 11) ?_; refine mv ?_; refine KO_nil ?_)))
        refine ⟨(s.length + 1, [], out ++ [wd], v), ?_, ?_, (by repeat (first | exact Ks.le_nil _ | refine Ks.le_cons rfl ?_))⟩
        · show s.length + 1 - (s.length + 1) < s.length + 1 - s.length; omega
        · exact ⟨S, hp2, noE_snoc hn hcw, by simp; omega⟩
  · have h2 : spl 32 s = out := by
      rcases hp with hp | hp
      · omega
      · exact hp.2
    skip
    all_goals (repeat' (first | (refine K_region (id := 12) ?_; refine mv ?_; refine mv ?_; refine mv ?_; refine KO_nil ?_)))
    refine K_ret ⟨_, rfl, ?_⟩
    exact ⟨_, true, out, rfl, .inl ⟨rfl, h2.symm, hn⟩, S⟩
/-- The reference's lines. -/
def PcsL (s : List UInt8) (st i : Nat) (out : List (List UInt8)) : Prop := st ≤ i ∧ i ≤ s.length ∧ spl 10 s = out ++ prep ((s.drop st).take (i - st)) (spl 10 (s.drop i)) ∧ out.length ≤ i
theorem take_snoc {s : List UInt8} {st i : Nat} (h1 : st ≤ i) (h2 : i < s.length) : (s.drop st).take (i + 1 - st) = (s.drop st).take (i - st) ++ [s.getD i 0] := by
  rw [show i + 1 - st = (i - st) + 1 by omega, List.take_add_one, List.getElem?_drop, show st + (i - st) = i by omega, List.getElem?_eq_getElem h2]
  simp [List.getD_eq_getElem?_getD, h2]
theorem refLines_ok {h0 : AH} (w : WfH h0) (s : List UInt8) (hs : s.length ≤ 100000) : Fn Tryz.prog Xh 134 [str s] h0 (fun v h' => ∃ u b l, v = .tuple #[u, .bool b] ∧ ((b = true ∧ ∃ ini w, l = ini ++ [w] ∧ spl 10 s = l ∧ w ≠ []) ∨ (b = false ∧ spl 10 s = l ++ [[]])) ∧ Hs h0 h' [.sl u 9 1 eS l]) := by
  have S := Hs.start w
  refine Fn_K rfl Tryz.func134 rfl rfl ?_
  all_goals (repeat' (first | refine K_seq ?_ | refine k_block ?_ | (refine K_region (id := 0) ?_; refine mv ?_; refine mv ?_; refine KO_nil ?_) | (refine K_region (id := 1) ?_; refine mv ?_; refine KO_nil ?_) | (refine K_region (id := 2) ?_; refine mv ?_; refine KO_nil ?_) | (refine K_region (id := 3) ?_; refine mv ?_; refine KO_nil ?_)))
  refine k_loop (σ := Nat × Nat × List (List UInt8) × Value) (fun (i, st, out, vo) h' => Hs h0 h' [.sl vo 9 1 eS out] ∧ PcsL s st i out) (fun (i, st, out, vo) => s.length - i) (fun (i, st, out, vo) => [(0, str s), (4, vo), (5, .int .i64 st), (6, .int .i64 i)]) (0, 0, [], .slice none 0 0) (by repeat (first | exact Ks.le_nil _ | refine Ks.le_cons rfl ?_)) ?_ ?_
  · exact ⟨S.nilS, Nat.le_refl _, Nat.zero_le _, by rw [List.nil_append, Nat.sub_self, List.take_zero, prep_nil (spl_ne _ _), List.drop_zero], Nat.le_refl _⟩
  clear S
  rintro ⟨i, st, out, vo⟩ h ⟨S, p1, p2, p3, p4⟩
  all_goals (repeat' (first | refine K_seq ?_ | refine k_cond rfl ?_ | refine K_skip ?_ | refine K_exit ?_ | refine k_block ?_ | (refine K_region (id := 4) ?_; refine mv ?_; refine mv ?_; refine tl ?_; (first | (refine cS ?_ ?_ <;> intro hc)) <;> (refine KO_nil ?_)) | (refine K_region (id := 6) ?_; refine mv ?_; refine mv ?_; refine ti ?_; (first | (refine cS ?_ ?_ <;> intro hc)) <;> (refine KO_nil ?_))))
  · have hi : i < s.length := by omega
    (try simp only [Int.toNat_natCast] at *)
    have hx : s.getD i 0 = 10 := u8_of (c := 10) hc
    rw [spl_step hi, if_pos hx, prep_cons, List.append_nil] at p3
    all_goals (repeat' (first | (refine K_region (id := 7) ?_; refine mv ?_; refine mv ?_; refine mv ?_; refine mv ?_; refine tsl ?_; (refine one 1 S ?_; clear S; intro u h S))))
    refine app (y0 := ((s.drop st).take (i - st))) S rfl rfl ?_; clear S; intro v h S; refine mv ?_; refine KO_nil ?_
    all_goals (repeat' (first | (refine K_region (id := 5) ?_; refine mv ?_; refine ad ?_; refine mv ?_; refine KO_nil ?_) | (refine K_region (id := 8) ?_; refine mv ?_; refine ad ?_; refine mv ?_; refine KO_nil ?_)))
    refine ⟨(i + 1, i + 1, out ++ [(s.drop st).take (i - st)], v), ?_, ?_, (by repeat (first | exact Ks.le_nil _ | refine Ks.le_cons rfl ?_))⟩
    · show s.length - (i + 1) < s.length - i; omega
    · exact ⟨S, Nat.le_refl _, hi, by rw [Nat.sub_self, List.take_zero, prep_nil (spl_ne _ _), List.append_assoc]; exact p3, by simp; omega⟩
  · have hi : i < s.length := by omega
    (try simp only [Int.toNat_natCast] at *)
    have hx : ¬ s.getD i 0 = 10 := fun q => hc (by rw [q]; rfl)
    rw [spl_step hi, if_neg hx, prep_prep (spl_ne _ _), ← take_snoc p1 hi] at p3
    all_goals (repeat' (first | (refine K_region (id := 5) ?_; refine mv ?_; refine ad ?_; refine mv ?_; refine KO_nil ?_)))
    refine ⟨(i + 1, st, out, vo), ?_, ?_, (by repeat (first | exact Ks.le_nil _ | refine Ks.le_cons rfl ?_))⟩
    · show s.length - (i + 1) < s.length - i; omega
    · exact ⟨S, (by show st ≤ i + 1; omega), hi, p3, (by show out.length ≤ i + 1; omega)⟩
  · have hi : i = s.length := by omega
    subst hi
    rw [spl_end, prep_cons, List.append_nil] at p3
    have e : (s.drop st).take (s.length - st) = s.drop st := List.take_of_length_le (by simp)
    rw [e] at p3
    skip
    all_goals (repeat' (first | refine K_seq ?_ | refine k_cond rfl ?_ | refine K_skip ?_ | (refine K_region (id := 9) ?_; refine mv ?_; refine mv ?_; refine tl ?_; (first | (refine cS ?_ ?_ <;> intro hc)) <;> (refine KO_nil ?_)) | (refine K_region (id := 10) ?_; refine mv ?_; refine mv ?_; refine mv ?_; refine tsl ?_; (refine one 1 S ?_; clear S; intro u h S)) | (refine K_region (id := 11) ?_; refine mv ?_; refine mv ?_; refine mv ?_; refine KO_nil ?_)))
    · refine app (y0 := ((s.drop st).take (s.length - st))) S rfl rfl ?_; clear S; intro v h S; refine mv ?_; refine mv ?_; refine KO_nil ?_
      rw [e] at S
      all_goals (repeat' (fail))
      refine K_ret ⟨_, rfl, ?_⟩
      have hl : 0 < (s.drop st).length := by simp; omega
      exact ⟨_, true, _, rfl, .inl ⟨rfl, out, s.drop st, rfl, p3, fun q => by rw [q] at hl; simp at hl⟩, S⟩
    · refine K_ret ⟨_, rfl, ?_⟩
      have hn : s.drop st = [] := List.drop_of_length_le (by omega)
      rw [hn] at p3
      exact ⟨_, false, _, rfl, .inr ⟨rfl, p3⟩, S⟩
end Go.Proofs.Xx

/-
  The text of a hall, the program's and the reference's.
-/
namespace Go.Proofs.Xx
open Go Go.Proofs
set_option linter.unusedSimpArgs false
set_option linter.unusedVariables false
set_option maxRecDepth 100000
set_option maxHeartbeats 4000000

def wd (t : Tab) : List UInt8 := if t.shape = 1 then wRound else if t.shape = 2 then wLong else if t.shape = 3 then wShoe else wRow
def dc (z : Int) : List UInt8 := decL z.toNat
def numsOf (t : Tab) : List Int := [t.A, t.B, t.X, t.Y] ++ t.opn
def numsS (l : List Int) : List UInt8 := l.flatMap fun z => [32] ++ dc z
def tWord : List UInt8 := [116, 97, 98, 108, 101, 32]
def hdT (t : Tab) (w : List UInt8) : List UInt8 := ((tWord ++ t.name) ++ [32]) ++ w
def headT (t : Tab) : List UInt8 := hdT t (wd t)
def fmtT (t : Tab) : List UInt8 := (headT t ++ numsS (numsOf t)) ++ [10]
def fmtL (l : List Tab) : Nat → List UInt8
  | 0 => []
  | i + 1 => fmtL l i ++ fmtT (tb l i)
structure FmtOk (t : Tab) : Prop where
  sh : t.shape = 1 ∨ t.shape = 2 ∨ t.shape = 3 ∨ t.shape = 4
  nm : t.name.length ≤ 12
  ol : t.opn.length ≤ 1000
  nums : ∀ k, k < (numsOf t).length → 0 ≤ (numsOf t).getD k default ∧ (numsOf t).getD k default ≤ 1000
theorem FmtOk.of {t : Tab} (h : chk t = 0) (ho : t.opn.length ≤ 1000) : FmtOk t := by
  obtain ⟨h1, h2, h3, h4⟩ := chk_zero h
  have hp : 0 < tsize t := by have := tsize_le t; omega
  have hs := TabS.of t hp
  have hb := hs.b
  have hsz := tsize_le t
  unfold TabB at hb
  unfold XYok at h4
  refine ⟨hs.shape, h1.2.1, ho, fun k hk => ?_⟩
  unfold numsOf at hk ⊢
  match k, hk with
  | 0, _ => exact ⟨by show 0 ≤ t.A; omega, by show t.A ≤ 1000; omega⟩
  | 1, _ => exact ⟨by show 0 ≤ t.B; omega, by show t.B ≤ 1000; omega⟩
  | 2, _ => exact ⟨h4.1, h4.2.1⟩
  | 3, _ => exact ⟨h4.2.2.1, h4.2.2.2⟩
  | k + 4, hk =>
    have hk' : k < t.opn.length := by simpa using hk
    have := h3 k hk'
    have e : ([t.A, t.B, t.X, t.Y] ++ t.opn).getD (k + 4) default = t.opn.getD k default := rfl
    rw [e]
    omega
theorem shapeWord_ok {h0 : AH} (w : WfH h0) (t : Tab) (hs : t.shape = 1 ∨ t.shape = 2 ∨ t.shape = 3 ∨ t.shape = 4) : Fn Tryz.prog Xh 107 [.int .u8 t.shape] h0 (fun r h' => r = str (wd t) ∧ Hs h0 h' []) := by
  have S := Hs.start w
  have key : ∀ s, wd t = s → str s = str (wd t) := fun s q => by rw [q]
  refine Fn_K rfl Tryz.func107 rfl rfl ?_
  all_goals (repeat' (first | refine K_seq ?_ | refine k_cond rfl ?_ | refine K_skip ?_ | refine k_block ?_ | (refine K_region (id := 0) ?_; refine mv ?_; refine KO_nil ?_) | (refine K_region (id := 1) ?_; refine mv ?_; refine KO_nil ?_) | (refine K_region (id := 2) ?_; (first | (refine cS ?_ ?_ <;> intro hc)) <;> (refine mv ?_; refine KO_nil ?_)) | (refine K_region (id := 3) ?_; refine mv ?_; refine KO_nil ?_) | (refine K_region (id := 4) ?_; (first | (refine cS ?_ ?_ <;> intro hc)) <;> (refine mv ?_; refine KO_nil ?_)) | (refine K_region (id := 5) ?_; refine mv ?_; refine KO_nil ?_) | (refine K_region (id := 6) ?_; (first | (refine cS ?_ ?_ <;> intro hc)) <;> (refine mv ?_; refine KO_nil ?_)) | (refine K_region (id := 7) ?_; refine mv ?_; refine KO_nil ?_) | (refine K_region (id := 8) ?_; refine mv ?_; refine KO_nil ?_)))
  all_goals (refine K_ret ⟨_, rfl, ?_⟩)
  all_goals (refine ⟨key _ ?_, S⟩; unfold wd)
  · rw [if_pos (by omega)]; rfl
  · rw [if_neg (by omega), if_pos (by omega)]; rfl
  · rw [if_neg (by omega), if_neg (by omega), if_pos (by omega)]; rfl
  · rw [if_neg (by omega), if_neg (by omega), if_neg (by omega)]; rfl
end Go.Proofs.Xx

/-
  The reference's reading of a line.
-/
namespace Go.Proofs.Xx
open Go Go.Proofs
set_option linter.unusedSimpArgs false
set_option linter.unusedVariables false
set_option maxRecDepth 100000

theorem LineP.noE {ws : List (List UInt8)} (h : LineP ws) : noE ws := fun i hi q => by
  obtain ⟨h1, h2, h3, h4, h5⟩ := h
  match i with
  | 0 => rw [h2] at q; cases q
  | 1 => exact h3 q
  | 2 => rw [q] at h4; exact h4 rfl
  | i + 3 => have := (h5 (i + 3) (by omega) hi).1; rw [q] at this; simp at this
theorem wordOf_ok {h0 : AH} (w : WfH h0) {i : Nat} (hi : i < 4) : Fn Tryz.prog Xh 107 [.int .u8 ((i + 1 : Nat) : Int)] h0 (fun r h' => r = str (lwd i) ∧ Hs h0 h' []) := by
  refine (shapeWord_ok w ⟨[], ((i + 1 : Nat) : Int), 0, 0, ⟨none, 0, 0⟩, [], 0, 0⟩ (by show ((i + 1 : Nat) : Int) = 1 ∨ ((i + 1 : Nat) : Int) = 2 ∨ ((i + 1 : Nat) : Int) = 3 ∨ ((i + 1 : Nat) : Int) = 4; omega)).mono fun r h' q => ⟨?_, q.2⟩
  rw [q.1]
  congr 1
  have : i = 0 ∨ i = 1 ∨ i = 2 ∨ i = 3 := by omega
  rcases this with rfl | rfl | rfl | rfl <;> rfl
theorem shp_step2 {h0 h : AH} {rs : List Rs} {bt : Nat} {w : List UInt8} {z z' : Int} (S : Hs h0 h (.blk bt (nT w z) 25 :: rs)) (hz : z' = z) : Hs h0 h (.blk bt (nT w z') 25 :: rs) := hz ▸ S
set_option maxHeartbeats 1000000 in
theorem refLine_ok {h0 : AH} (w : WfH h0) (s : List UInt8) (hs : s.length ≤ 100000) : Fn Tryz.prog Xh 135 [str s] h0 (fun v h' => ∃ t b, v = .tuple #[tabV t, .bool b] ∧ LineR s t b ∧ (t.name.length ≤ 1000000 ∧ t.opn.length ≤ 1000000) ∧ Hs h0 h' [.rd t.ov 1 eI t.opn]) := by
  have S := Hs.start w
  have hlen := splL_len 32 s
  have hcs : s.countP (· == 32) ≤ s.length := List.countP_le_length
  have hwl := fun i (h : i < (spl 32 s).length) => wAt_le h
  refine Fn_K rfl Tryz.func135 rfl rfl ?_
  all_goals (repeat' (first | refine K_seq ?_ | (refine K_region (id := 0) ?_; (refine al S ?_; clear S; intro b h S); refine mv ?_; refine KO_nil ?_) | (refine K_region (id := 1) ?_; refine mv ?_)))
  obtain ⟨br, hnm⟩ : ∃ x, x = b := ⟨_, rfl⟩; subst hnm
  (refine KO_fn rfl rfl rfl rfl rfl ((refWords_ok S.wf s hs).mono ?_); rintro _ h ⟨vw, b0, l, rfl, hw, x⟩) <;> (replace S := S.join1 x; clear x; refine mv ?_; refine vl ?_; refine vl ?_; refine mv ?_; refine mv ?_; refine KO_nil ?_)
  obtain ⟨ws, hws⟩ : ∃ ws, ws = spl 32 s := ⟨_, rfl⟩
  unfold LineR
  rw [← hws] at hlen hwl hw ⊢
  rcases hw with ⟨rfl, hl, hne⟩ | ⟨rfl, hne⟩
  rotate_left
  · replace S := S.front (.there .here)
    all_goals (repeat' (first | refine K_seq ?_ | refine k_cond rfl ?_ | (refine K_region (id := 2) ?_; refine mv ?_; refine vl ?_; refine mv ?_; refine off ?_; refine off ?_; (refine off ?_) <;> (refine vl ?_; refine mv ?_; refine off ?_; refine off ?_; refine off ?_; (refine off ?_) <;> (refine vl ?_; refine KO_nil ?_))) | (refine K_region (id := 3) ?_; refine vl ?_; (first | (refine sB S rfl rfl ?_; clear S; intro h S)); refine mv ?_; refine KO_nil ?_)))
    refine K_ret ⟨_, ret_cell S rfl (by first | exact .here) (by exact rfl) (by exact rfl), ?_⟩
    exact ⟨t0T, false, rfl, .inr ⟨rfl, fun q => hne q.noE⟩, t0_L, S.nil0⟩
  rw [hl] at S hne
  clear hl
  (repeat (refine K_seq ?_)); first | refine K_join (σ := Unit) (fun _ h' => Hs h0 h' [.sl vw 9 1 eS ws, .blk br zT 25] ∧ 7 ≤ ws.length ∧ wAt ws 0 = wTable) (fun _ => [(2, PT br), (4, vw), (5, .bool true)]) ?_ ?_
  · all_goals (repeat' (first | refine K_seq ?_ | refine k_cond rfl ?_ | refine K_skip ?_ | (refine K_region (id := 2) ?_; refine mv ?_; refine vl ?_; refine mv ?_; refine mv ?_; (first | (refine lnS S rfl rfl ?_)); (first | (first | (refine cS ?_ ?_ <;> intro hc))) <;> (refine vl ?_; refine mv ?_; (first | refine off ?_ | refine mv ?_); (first | refine off ?_ | (refine ixS2 S rfl rfl ?_)); (first | refine off ?_ | (refine lES2 S rfl rfl ?_)); (first | refine off ?_ | (refine tS ?_ ?_ <;> intro hc)) <;> (refine vl ?_; refine KO_nil ?_))) | (refine K_region (id := 3) ?_; refine vl ?_; (first | (refine sB S rfl rfl ?_; clear S; intro h S)); refine mv ?_; refine KO_nil ?_)))
    · refine K_ret ⟨_, ret_cell S rfl (by first | exact .there .here) (by exact rfl) (by exact rfl), ?_⟩
      exact ⟨t0T, false, rfl, .inr ⟨rfl, fun q => by have := q.1; omega⟩, t0_L, S.nil0⟩
    · exact ⟨(), ⟨S, by omega, hc⟩, ((by repeat (first | exact Ks.le_nil _ | refine Ks.le_cons rfl ?_)))⟩
    · refine K_ret ⟨_, ret_cell S rfl (by first | exact .there .here) (by exact rfl) (by exact rfl), ?_⟩
      exact ⟨t0T, false, rfl, .inr ⟨rfl, fun q => hc q.2.1⟩, t0_L, S.nil0⟩
  clear S
  rintro - h ⟨S, l7, w0⟩
  have w1 := hne 1 (by omega)
  skip
  all_goals (repeat' (first | refine K_seq ?_ | refine k_block ?_ | (refine K_region (id := 4) ?_; refine mv ?_; refine ixS2 S rfl rfl ?_; refine lES2 S rfl rfl ?_; refine vl ?_; (refine al S ?_; clear S; intro b h S); (first | (refine sB S rfl rfl ?_; clear S; intro h S)); refine KO_nil ?_) | (refine K_region (id := 5) ?_; refine mv ?_; refine KO_nil ?_)))
  obtain ⟨bt, hnm⟩ : ∃ x, x = b := ⟨_, rfl⟩; subst hnm
  refine k_loop (σ := Nat) (fun i h' => Hs h0 h' [.blk bt (nT (wAt ws 1) (shpI i (wAt ws 2))) 25, .sl vw 9 1 eS ws, .blk br zT 25] ∧ i ≤ 4) (fun i => 4 - i) (fun i => [(2, PT br), (4, vw), (5, .bool true), (6, PT bt), (7, .int .i64 ((i + 1 : Nat) : Int))]) 0 (by repeat (first | exact Ks.le_nil _ | refine Ks.le_cons rfl ?_)) ?_ ?_
  · exact ⟨S, Nat.zero_le _⟩
  clear S
  rintro i h ⟨S, hi1⟩
  all_goals (repeat' (first | refine K_seq ?_ | refine k_cond rfl ?_ | refine K_skip ?_ | refine K_exit ?_ | refine k_block ?_ | (refine K_region (id := 6) ?_; refine mv ?_; (first | (refine cS ?_ ?_ <;> intro hc)) <;> (refine KO_nil ?_))))
  · have hi : i < 4 := by omega
    have hss := shpI_succ hi (wAt ws 2)
    (repeat (refine K_seq ?_)); refine K_drawX (id := 8) [(5, (0, 1))] [some (blkS vw)] ?_; refine KX_cons ?_; (first | (refine mv ?_ <;> refine KO_nil ⟨⟨by (first | exact True.intro), rfl⟩, ?_⟩)); refine KX_cons ?_; (first | (refine cU ?_ <;> refine KO_nil ⟨⟨by (first | exact True.intro), rfl⟩, ?_⟩))
    ((refine KX_cons ?_; first | refine KO_fn rfl rfl rfl rfl rfl ((wordOf_ok S.wf hi).mono ?_)); rintro _ h ⟨rfl, x⟩) <;> ((refine KO_nil ⟨⟨True.intro, ?_⟩, ?_⟩; (focus ((show keepsX _ _ _ _ _; simp only [keepsX]; (repeat' (first | exact True.intro | refine And.intro ?_ ?_)); all_goals (intro hw; first | exact x.ext.old _ (S.bR (by first | omega))))))); replace S := S.join0 x; clear x; refine KX_cons ?_; (first | (refine mv ?_ <;> refine KO_nil ⟨⟨by (first | exact True.intro), rfl⟩, ?_⟩)); refine KX_cons ?_; (first | (refine ixS2 S rfl rfl ?_ <;> refine KO_nil ⟨⟨by (first | exact True.intro), rfl⟩, ?_⟩)); refine KX_cons ?_; (first | (refine lES2 S rfl rfl ?_ <;> refine KO_nil ⟨⟨by (first | exact Or.inr (congrArg some (blkOf_elA _ _ _ _))), rfl⟩, ?_⟩)); refine KX_cons ?_; (first | ((refine tS ?_ ?_ <;> intro hc) <;> refine KO_nil ⟨⟨by (first | exact True.intro), rfl⟩, ?_⟩)) <;> (refine KX_nil ?_))
    all_goals (repeat' (first | refine k_cond rfl ?_ | refine K_skip ?_ | (refine K_region (id := 9) ?_; refine mv ?_; refine cU ?_; refine vl ?_; (first | (refine sB S rfl rfl ?_; clear S; intro h S)); refine KO_nil ?_)))
    · have hcw : lwd i = wAt ws 2 := hc
      rw [if_pos hcw.symm] at hss
      all_goals (repeat' (first | (refine K_region (id := 7) ?_; refine mv ?_; refine ad ?_; refine mv ?_; refine KO_nil ?_)))
      refine ⟨i + 1, ?_, ?_, (by repeat (first | exact Ks.le_nil _ | refine Ks.le_cons rfl ?_))⟩
      · show 4 - (i + 1) < 4 - i; omega
      · exact ⟨shp_step2 S hss, hi⟩
    · have hcw : ¬ lwd i = wAt ws 2 := hc
      rw [if_neg (fun q => hcw q.symm)] at hss
      all_goals (repeat' (first | (refine K_region (id := 7) ?_; refine mv ?_; refine ad ?_; refine mv ?_; refine KO_nil ?_)))
      refine ⟨i + 1, ?_, ?_, (by repeat (first | exact Ks.le_nil _ | refine Ks.le_cons rfl ?_))⟩
      · show 4 - (i + 1) < 4 - i; omega
      · exact ⟨shp_step2 S hss, hi⟩
  obtain rfl : i = 4 := by omega
  rw [shpI_all] at S
  obtain ⟨z, hz⟩ : ∃ z, z = shp (wAt ws 2) := ⟨_, rfl⟩
  rw [← hz] at S
  skip
  all_goals (repeat' (first | refine K_seq ?_ | refine k_block ?_ | (refine K_region (id := 10) ?_; refine mv ?_; refine KO_nil ?_) | (refine K_region (id := 11) ?_; refine mv ?_; refine KO_nil ?_)))
  refine k_loop (σ := Nat × Bool × List Int × Value) (fun (j, b, nl, vn) h' => Hs h0 h' [.sl vn 3 1 eI nl, .blk bt (nT (wAt ws 1) z) 25, .sl vw 9 1 eS ws, .blk br zT 25] ∧ j ≤ ws.length - 3 ∧ nl.length = j ∧ (b = true → NumsTo ws j nl) ∧ (b = false → ¬ LineP ws)) (fun (j, b, nl, vn) => ws.length - 3 - j) (fun (j, b, nl, vn) => [(2, PT br), (4, vw), (5, .bool b), (6, PT bt), (8, vn), (9, .int .i64 ((3 + j : Nat) : Int))]) (0, true, [], .slice none 0 0) (by repeat (first | exact Ks.le_nil _ | refine Ks.le_cons rfl ?_)) ?_ ?_
  · exact ⟨S.nilS, Nat.zero_le _, rfl, fun q => ⟨rfl, fun k hk => absurd hk (Nat.not_lt_zero _)⟩, fun q => by cases q⟩
  clear S
  rintro ⟨j, b, nl, vn⟩ h ⟨S, hj1, hnl, hb1, hb2⟩
  all_goals (repeat' (first | refine K_seq ?_ | refine k_cond rfl ?_ | refine K_skip ?_ | refine K_exit ?_ | refine k_block ?_ | (refine K_region (id := 12) ?_; refine mv ?_; refine mv ?_; refine lnS S rfl rfl ?_; (first | (refine cS ?_ ?_ <;> intro hc)) <;> (refine KO_nil ?_))))
  · have hj : j < ws.length - 3 := by omega
    have hwj := hwl (3 + j) (by omega)
    all_goals (repeat' (first | (refine K_region (id := 14) ?_; refine mv ?_; refine mv ?_; refine ixS2 S rfl rfl ?_; refine lES2 S rfl rfl ?_)))
    (try simp only [Int.toNat_natCast])
    (refine KO_fn rfl rfl rfl rfl rfl ((refNumber_ok S.wf (wAt ws (3 + j)) (by omega)).mono ?_); rintro _ h ⟨k, bb, rfl, hn, x⟩) <;> (replace S := S.join0 x; clear x; refine mv ?_; refine vl ?_; refine vl ?_; refine mv ?_; refine mv ?_; refine KO_nil ?_)
    have e1 : ((3 + j : Nat) : Int) + 1 = ((3 + (j + 1) : Nat) : Int) := by omega
    cases b
    · all_goals (repeat' (first | refine K_seq ?_ | (refine K_region (id := 15) ?_; refine mv ?_; refine mv ?_; refine off ?_; refine vl ?_; refine mv ?_; refine KO_nil ?_) | (refine K_region (id := 16) ?_; refine mv ?_; refine mv ?_; (refine one 1 S ?_; clear S; intro u h S))))
      refine app (y0 := k) S rfl rfl ?_; clear S; intro v h S; refine mv ?_; refine KO_nil ?_
      all_goals (repeat' (first | (refine K_region (id := 13) ?_; refine mv ?_; refine ad ?_; refine mv ?_; refine KO_nil ?_)))
      refine ⟨(j + 1, false, nl ++ [k], v), ?_, ?_, (by repeat (first | exact Ks.le_nil _ | refine Ks.le_cons rfl ?_))⟩
      · show ws.length - 3 - (j + 1) < ws.length - 3 - j; omega
      · exact ⟨S, by omega, by simp [hnl], fun q => (by cases q), fun _ => hb2 rfl⟩
    · have hnt := hb1 rfl
      rcases hn with ⟨rfl, hn, hk⟩ | ⟨rfl, hn⟩
      · all_goals (repeat' (first | refine K_seq ?_ | (refine K_region (id := 15) ?_; refine mv ?_; refine mv ?_; refine mv ?_; refine vl ?_; refine mv ?_; refine KO_nil ?_) | (refine K_region (id := 16) ?_; refine mv ?_; refine mv ?_; (refine one 1 S ?_; clear S; intro u h S))))
        refine app (y0 := k) S rfl rfl ?_; clear S; intro v h S; refine mv ?_; refine KO_nil ?_
        all_goals (repeat' (first | (refine K_region (id := 13) ?_; refine mv ?_; refine ad ?_; refine mv ?_; refine KO_nil ?_)))
        refine ⟨(j + 1, true, nl ++ [k], v), ?_, ?_, (by repeat (first | exact Ks.le_nil _ | refine Ks.le_cons rfl ?_))⟩
        · show ws.length - 3 - (j + 1) < ws.length - 3 - j; omega
        · refine ⟨S, by omega, by simp [hnl], fun _ => ⟨by simp [hnl], nxtD (fun i hi => ⟨(hnt.2 i hi).1, ?_⟩) ⟨hn, ?_⟩⟩, fun q => (by cases q)⟩
          · rw [getD_snoc1 _ _ (by omega)]; exact (hnt.2 i hi).2
          · rw [getD_snoc2 _ _ (by omega)]; exact hk
      · all_goals (repeat' (first | refine K_seq ?_ | (refine K_region (id := 15) ?_; refine mv ?_; refine mv ?_; refine mv ?_; refine vl ?_; refine mv ?_; refine KO_nil ?_) | (refine K_region (id := 16) ?_; refine mv ?_; refine mv ?_; (refine one 1 S ?_; clear S; intro u h S))))
        refine app (y0 := k) S rfl rfl ?_; clear S; intro v h S; refine mv ?_; refine KO_nil ?_
        all_goals (repeat' (first | (refine K_region (id := 13) ?_; refine mv ?_; refine ad ?_; refine mv ?_; refine KO_nil ?_)))
        refine ⟨(j + 1, false, nl ++ [k], v), ?_, ?_, (by repeat (first | exact Ks.le_nil _ | refine Ks.le_cons rfl ?_))⟩
        · show ws.length - 3 - (j + 1) < ws.length - 3 - j; omega
        · exact ⟨S, by omega, by simp [hnl], fun q => (by cases q), fun _ l => hn (l.2.2.2.2 (3 + j) (by omega) (by omega))⟩
  have hj : j = ws.length - 3 := by omega
  subst hj
  obtain ⟨⟨sp, sn, sc⟩, rfl⟩ := (Rd.of_sl S .here).isSl
  have hvn := S.slNe .here (by omega)
  have hnl4 := hnl
  skip
  (repeat (refine K_seq ?_)); refine K_drawX (id := 17) [(5, (0, 1)), (8, (0, 2)), (11, (0, 3))] [some (blkS (.slice sp sn sc)), some (blkS (.slice sp sn sc)), some (blkS (.slice sp sn sc))] ?_; refine KX_cons ?_; (first | (refine mv ?_ <;> refine KO_nil ⟨⟨by (first | exact True.intro), rfl⟩, ?_⟩)); refine KX_cons ?_; (first | (refine ixS2 S rfl rfl ?_ <;> refine KO_nil ⟨⟨by (first | exact True.intro), rfl⟩, ?_⟩)); refine KX_cons ?_; (first | (refine lES2 S rfl rfl ?_ <;> refine KO_nil ⟨⟨by (first | exact True.intro), rfl⟩, ?_⟩)); refine KX_cons ?_; (first | (refine mv ?_ <;> refine KO_nil ⟨⟨by (first | exact True.intro), rfl⟩, ?_⟩)); refine KX_cons ?_; (first | (refine ixS2 S rfl rfl ?_ <;> refine KO_nil ⟨⟨by (first | exact True.intro), rfl⟩, ?_⟩)); refine KX_cons ?_; (first | (refine lES2 S rfl rfl ?_ <;> refine KO_nil ⟨⟨by (first | exact Or.inr (congrArg some (blkOf_elA _ _ _ _))), rfl⟩, ?_⟩)); refine KX_cons ?_; (first | (refine mv ?_ <;> refine KO_nil ⟨⟨by (first | exact True.intro), rfl⟩, ?_⟩)); refine KX_cons ?_; (first | (refine ixS2 S rfl rfl ?_ <;> refine KO_nil ⟨⟨by (first | exact True.intro), rfl⟩, ?_⟩)); refine KX_cons ?_; (first | (refine lES2 S rfl rfl ?_ <;> refine KO_nil ⟨⟨by (first | exact Or.inr (congrArg some (blkOf_elA _ _ _ _))), rfl⟩, ?_⟩)); refine KX_cons ?_; (first | (refine mv ?_ <;> refine KO_nil ⟨⟨by (first | exact True.intro), rfl⟩, ?_⟩)); refine KX_cons ?_; (first | (refine ixS2 S rfl rfl ?_ <;> refine KO_nil ⟨⟨by (first | exact True.intro), rfl⟩, ?_⟩)); refine KX_cons ?_; (first | (refine lES2 S rfl rfl ?_ <;> refine KO_nil ⟨⟨by (first | exact Or.inr (congrArg some (blkOf_elA _ _ _ _))), rfl⟩, ?_⟩)); refine KX_cons ?_; (first | (refine vl ?_ <;> refine KO_nil ⟨⟨by (first | exact True.intro), rfl⟩, ?_⟩)); refine KX_cons ?_; (first | (refine sBk S rfl rfl ?_; have S0 := S; clear S; intro h S hk; refine KO_nil ⟨⟨True.intro, ?_⟩, ?_⟩; (focus ((show keepsX _ _ _ _ _; simp only [keepsX]; (repeat' (first | exact True.intro | refine And.intro ?_ ?_)); all_goals (intro hw; first | exact hk _ (S0.neB (by assumption)))))); clear S0 hk)); refine KX_cons ?_; (first | (refine vl ?_ <;> refine KO_nil ⟨⟨by (first | exact True.intro), rfl⟩, ?_⟩)); refine KX_cons ?_; (first | (refine sBk S rfl rfl ?_; have S0 := S; clear S; intro h S hk; refine KO_nil ⟨⟨True.intro, ?_⟩, ?_⟩; (focus ((show keepsX _ _ _ _ _; simp only [keepsX]; (repeat' (first | exact True.intro | refine And.intro ?_ ?_)); all_goals (intro hw; first | exact hk _ (S0.neB (by assumption)))))); clear S0 hk)); refine KX_cons ?_; (first | (refine vl ?_ <;> refine KO_nil ⟨⟨by (first | exact True.intro), rfl⟩, ?_⟩)); refine KX_cons ?_; (first | (refine sBk S rfl rfl ?_; have S0 := S; clear S; intro h S hk; refine KO_nil ⟨⟨True.intro, ?_⟩, ?_⟩; (focus ((show keepsX _ _ _ _ _; simp only [keepsX]; (repeat' (first | exact True.intro | refine And.intro ?_ ?_)); all_goals (intro hw; first | exact hk _ (S0.neB (by assumption)))))); clear S0 hk)); refine KX_cons ?_; (first | (refine vl ?_ <;> refine KO_nil ⟨⟨by (first | exact True.intro), rfl⟩, ?_⟩)); refine KX_cons ?_; (first | (refine sBk S rfl rfl ?_; have S0 := S; clear S; intro h S hk; refine KO_nil ⟨⟨True.intro, ?_⟩, ?_⟩; (focus ((show keepsX _ _ _ _ _; simp only [keepsX]; (repeat' (first | exact True.intro | refine And.intro ?_ ?_)); all_goals (intro hw; first | exact hk _ (S0.neB (by assumption)))))); clear S0 hk)); refine KX_nil ?_
  all_goals (repeat' (first | refine K_seq ?_ | (refine K_draw (id := 18) ?_; refine vl ?_; refine lB S rfl rfl ?_; refine mv ?_; (refine dr S rfl rfl ?_; clear S; intro vq S))))
  replace S := S.nilS (α := Int) (e := 3) (z := 1) (enc := eI)
  refine apd S rfl rfl (Rd.of_sl S (.there .here)) ?_
  clear S; intro vo h S
  obtain ⟨⟨qp, qn, qc⟩, rfl⟩ := (Rd.of_sl S .here).isSl
  (try simp only [show Int.toNat 4 = 4 from rfl, List.nil_append] at S)
  (refine vl ?_); (first | (refine sB S rfl rfl ?_; clear S; intro h S)); refine KO_nil ?_
  replace S := (S.front (.there (.there (.there .here)))).front (.there (.there (.there (.there .here))))
  have hro := Rd.of_sl S (.there (.there .here))
  have hn1 := hwl 1 (by omega)
  obtain ⟨t, ht⟩ : ∃ t : Tab, t = ⟨wAt ws 1, z, nl.getD 0 default, nl.getD 1 default, ⟨qp, qn, qc⟩, nl.drop 4, nl.getD 2 default, nl.getD 3 default⟩ := ⟨_, rfl⟩
  have hTL : ∀ h', Hs h0 h' [.blk br (eT t) 25, .sl vw 9 1 eS ws, .sl (.slice qp qn qc) 3 1 eI (nl.drop 4), .sl vq 3 1 eI (nl.drop 4), .blk bt (eT t) 25] → Hs h0 h' [.rd t.ov 1 eI t.opn] := fun h' S => by
    subst ht
    exact (S.only (.there (.there .here))).slRd
  have hTN : t.name.length ≤ 1000000 ∧ t.opn.length ≤ 1000000 := by
    subst ht
    exact ⟨by show (wAt ws 1).length ≤ _; omega, by show (nl.drop 4).length ≤ _; simp; omega⟩
  cases b
  · (repeat (refine K_seq ?_)); refine K_drawX (id := 19) [(4, (0, 1))] [some (bt)] ?_; refine KX_cons ?_; (first | (refine lB S rfl rfl ?_ <;> refine KO_nil ⟨⟨by (first | exact True.intro), rfl⟩, ?_⟩)); refine KX_cons ?_; (first | (refine mv ?_ <;> refine KO_nil ⟨⟨by (first | exact True.intro), rfl⟩, ?_⟩)); refine KX_cons ?_; (first | (refine mv ?_ <;> refine KO_nil ⟨⟨by (first | exact True.intro), rfl⟩, ?_⟩)); refine KX_cons ?_; (first | (refine off ?_; refine KO_nil ⟨⟨by (first | exact True.intro), rfl⟩, ?_⟩)); refine KX_cons ?_; (first | (refine off ?_; refine KO_nil ⟨⟨by (first | exact Or.inl rfl), rfl⟩, ?_⟩)); refine KX_cons ?_; (first | (refine off ?_; refine KO_nil ⟨⟨by (first | exact True.intro), rfl⟩, ?_⟩)) <;> (refine KX_cons ?_; (first | (refine vl ?_ <;> refine KO_nil ⟨⟨by (first | exact True.intro), rfl⟩, ?_⟩)); refine KX_cons ?_; (first | ((refine sB S rfl rfl ?_; have S0 := S; clear S; intro h S); refine KO_nil ⟨⟨True.intro, ?_⟩, ?_⟩; (focus ((show keepsX _ _ _ _ _; simp only [keepsX]; (repeat' (first | exact True.intro | refine And.intro ?_ ?_)); all_goals (intro hw; first | exact (S.gB).trans (S0.gB).symm)))); clear S0)); refine KX_cons ?_; (first | (refine mv ?_ <;> refine KO_nil ⟨⟨by (first | exact True.intro), rfl⟩, ?_⟩)); refine KX_nil ?_)
    refine K_ret ⟨_, ret_cell S rfl (by first | exact .here) (by exact rfl) (by exact rfl), ?_⟩
    exact ⟨t, false, by rw [ht]; rfl, .inr ⟨rfl, hb2 rfl⟩, hTN, hTL _ (by rw [ht]; exact S)⟩
  · have hnt := hb1 rfl
    (repeat (refine K_seq ?_)); refine K_drawX (id := 19) [(4, (0, 1))] [some (bt)] ?_; refine KX_cons ?_; (first | (refine lB S rfl rfl ?_ <;> refine KO_nil ⟨⟨by (first | exact True.intro), rfl⟩, ?_⟩)); refine KX_cons ?_; (first | (refine mv ?_ <;> refine KO_nil ⟨⟨by (first | exact True.intro), rfl⟩, ?_⟩)); refine KX_cons ?_; (first | (refine mv ?_ <;> refine KO_nil ⟨⟨by (first | exact True.intro), rfl⟩, ?_⟩)); refine KX_cons ?_; (first | (refine vl ?_ <;> refine KO_nil ⟨⟨by (first | exact True.intro), rfl⟩, ?_⟩)); refine KX_cons ?_; (first | (refine lB S rfl rfl ?_ <;> refine KO_nil ⟨⟨by (first | exact Or.inr rfl), rfl⟩, ?_⟩)); refine KX_cons ?_; (first | ((refine cS ?_ ?_ <;> intro hc) <;> refine KO_nil ⟨⟨by (first | exact True.intro), rfl⟩, ?_⟩)) <;> (refine KX_cons ?_; (first | (refine vl ?_ <;> refine KO_nil ⟨⟨by (first | exact True.intro), rfl⟩, ?_⟩)); refine KX_cons ?_; (first | ((refine sB S rfl rfl ?_; have S0 := S; clear S; intro h S); refine KO_nil ⟨⟨True.intro, ?_⟩, ?_⟩; (focus ((show keepsX _ _ _ _ _; simp only [keepsX]; (repeat' (first | exact True.intro | refine And.intro ?_ ?_)); all_goals (intro hw; first | exact (S.gB).trans (S0.gB).symm)))); clear S0)); refine KX_cons ?_; (first | (refine mv ?_ <;> refine KO_nil ⟨⟨by (first | exact True.intro), rfl⟩, ?_⟩)); refine KX_nil ?_)
    · have hz0 : z ≠ 0 := hc
      refine K_ret ⟨_, ret_cell S rfl (by first | exact .here) (by exact rfl) (by exact rfl), ?_⟩
      refine ⟨t, true, by rw [ht]; rfl, .inl ⟨rfl, hnt.line l7 w0 w1 (hz ▸ hz0), ?_⟩, hTN, hTL _ (by rw [ht]; exact S)⟩
      subst hz
      rw [ht]
      exact hnt.same l7 _
    · have hz0 : z = 0 := Classical.not_not.1 hc
      refine K_ret ⟨_, ret_cell S rfl (by first | exact .here) (by exact rfl) (by exact rfl), ?_⟩
      refine ⟨t, false, by rw [ht]; rfl, .inr ⟨rfl, fun q => q.2.2.2.1 (hz ▸ hz0)⟩, hTN, hTL _ (by rw [ht]; exact S)⟩
end Go.Proofs.Xx

/-
  Texts that are read as halls: the program's and the reference's Parse.
-/
namespace Go.Proofs.Xx
open Go Go.Proofs
set_option linter.unusedSimpArgs false
set_option linter.unusedVariables false
set_option maxRecDepth 100000

theorem opn_len {n : Int} {l : List Int} (h : OpnOk n l) : (l.length : Int) ≤ n ∨ l = [] := by
  have key : ∀ i, i < l.length → (i : Int) ≤ l.getD i default := fun i hi => by
    induction i with
    | zero => have := (h 0 hi).1.1; omega
    | succ i ih =>
      have h1 := ih (by omega)
      have h2 := (h (i + 1) hi).2 (by omega)
      rw [Nat.add_sub_cancel] at h2
      omega
  rcases Nat.eq_zero_or_pos l.length with q | q
  · exact .inr (List.length_eq_zero_iff.1 q)
  · have h1 := key (l.length - 1) (by omega)
    have h2 := (h (l.length - 1) (by omega)).1.2
    left; omega
theorem chk_small {t : Tab} (h : chk t = 0) : t.name.length ≤ 12 ∧ t.opn.length ≤ 24 := by
  obtain ⟨h1, h2, h3, h4⟩ := chk_zero h
  have := tsize_le t
  refine ⟨h1.2.1, ?_⟩
  rcases opn_len h3 with q | q
  · omega
  · rw [q]; simp
theorem SameTab.chk {t u : Tab} (h : SameTab t u) : chk t = chk u := by unfold SameTab at h; rw [h]; rfl
theorem SameTab.nm {t u : Tab} (h : SameTab t u) : t.name = u.name := by unfold SameTab at h; rw [h]
/-- What reading a text gives. -/
def ParsedR (s : List UInt8) (l2 : List Tab) (i e : Int) : Prop := (∃ l, parseR s = .ok l ∧ SameAll l2 l ∧ i = 0 ∧ e = 0) ∨ (∃ k : Nat, parseR s = .bad k e ∧ i = k ∧ l2 = [] ∧ e ≠ 0)
/-- Tables that are read, as far as they are accepted. -/
structure Acc (l2 l : List Tab) : Prop where
  same : SameAll l2 l
  ok : ∀ j, j < l2.length → chk (tb l2 j) = 0
  len : l2.length ≤ 16
theorem SameAll.nil : SameAll [] [] := ⟨rfl, fun i hi => absurd hi (Nat.not_lt_zero _)⟩
theorem Acc.nil : Acc [] [] := ⟨.nil, fun j hj => absurd hj (Nat.not_lt_zero _), Nat.zero_le _⟩
theorem Acc.push {l2 l : List Tab} {t u : Tab} (a : Acc l2 l) (h : SameTab t u) (hc : chk t = 0) (hl : l2.length ≠ 16) : Acc (l2 ++ [t]) (l ++ [u]) := by
  have hll := a.same.1
  have := a.len
  refine ⟨⟨by simp [hll], fun j hj => ?_⟩, fun j hj => ?_, by simp; omega⟩
  · simp only [List.length_append, List.length_cons, List.length_nil] at hj
    rcases Nat.lt_or_ge j l2.length with q | q
    · rw [show tb (l2 ++ [t]) j = tb l2 j from getD_snoc1 _ _ q, show tb (l ++ [u]) j = tb l j from getD_snoc1 _ _ (by omega)]
      exact a.same.2 j q
    · rw [show tb (l2 ++ [t]) j = t from getD_snoc2 _ _ (by omega), show tb (l ++ [u]) j = u from getD_snoc2 _ _ (by omega)]
      exact h
  · simp only [List.length_append, List.length_cons, List.length_nil] at hj
    rcases Nat.lt_or_ge j l2.length with q | q
    · rw [show tb (l2 ++ [t]) j = tb l2 j from getD_snoc1 _ _ q]
      exact a.ok j q
    · rw [show tb (l2 ++ [t]) j = t from getD_snoc2 _ _ (by omega)]
      exact hc
theorem Acc.name {l2 l : List Tab} {t u : Tab} (a : Acc l2 l) (h : SameTab t u) : (∃ j, j < l2.length ∧ (tb l2 j).name = t.name) ↔ ∃ j, j < l.length ∧ (tb l j).name = u.name := by
  have hll := a.same.1
  rw [h.nm]
  constructor
  · rintro ⟨j, hj, e⟩
    exact ⟨j, by omega, by rw [← (a.same.2 j hj).nm]; exact e⟩
  · rintro ⟨j, hj, e⟩
    exact ⟨j, by omega, by rw [(a.same.2 j (by omega)).nm]; exact e⟩
theorem hallR_acc {h0 h : AH} {rs : List Rs} {v : Value} {l2 l : List Tab} (S : Hs h0 h rs) (a1 : At rs (.sl v 25 7 eT l2)) (a2 : At rs (.any (OpnA l2))) (a : Acc l2 l) : HallR h v l2 := by
  obtain ⟨fp, k⟩ := S.anyP a2
  refine ⟨Rd.of_sl S a1, fun j hj => ?_, by have := a.len; omega, S.capS a1⟩
  have := chk_small (a.ok j hj)
  exact ⟨k j hj, by omega, by omega⟩
theorem hallR_nil (h : AH) : HallR h (.slice none 0 0) [] := ⟨Rd.none_ h 7, fun i hi => absurd hi (Nat.not_lt_zero _), by simp, Nat.le_refl _⟩
theorem Hs.nilO {h0 h : AH} {rs : List Rs} (S : Hs h0 h rs) : Hs h0 h (.any (OpnA []) :: rs) := S.anyS fun h' j hj => absurd hj (Nat.not_lt_zero _)
theorem parse_ok {h0 : AH} (w : WfH h0) (s : List UInt8) : Fn Tryz.prog Xh 61 [str s] h0 (fun v h' => ∃ u l2 i e, v = .tuple #[u, .int .i64 i, .int .i64 e] ∧ ParsedR s l2 i e ∧ HallR h' u l2 ∧ Hs h0 h' []) := by
  have S := Hs.start w
  refine Fn_K rfl Tryz.func61 rfl rfl ?_
  all_goals (repeat' (first | refine K_seq ?_ | refine k_cond rfl ?_ | refine K_skip ?_ | refine K_scope ?_ | (refine K_region (id := 0) ?_; refine mv ?_; refine mv ?_; refine mv ?_; refine KO_nil ?_) | (refine K_region (id := 1) ?_; refine mv ?_; refine tl ?_; (first | (refine cS ?_ ?_ <;> intro hc)) <;> (refine KO_nil ?_)) | (refine K_region (id := 2) ?_; refine mv ?_; refine mv ?_; refine mv ?_; refine KO_nil ?_)))
  · have hl : 65536 < s.length := by omega
    refine K_ret ⟨_, rfl, ?_⟩
    exact ⟨_, [], 0, 7, rfl, .inr ⟨0, by unfold parseR; rw [if_pos hl], rfl, rfl, by decide⟩, hallR_nil _, S⟩
  have hl : s.length ≤ 65536 := by omega
  have hp0 : parseR s = prs [] 0 (spl 10 s) := by unfold parseR; rw [if_neg (by omega)]
  all_goals (repeat' (first | refine K_seq ?_ | refine k_block ?_ | refine K_label ?_ | (refine K_region (id := 3) ?_; refine mv ?_; refine KO_nil ?_) | (refine K_region (id := 4) ?_; refine mv ?_; refine KO_nil ?_) | (refine K_region (id := 5) ?_; refine mv ?_; refine KO_nil ?_)))
  refine k_loop (σ := List UInt8 × Nat × List Tab × List Tab × Value) (fun (t, i, l2, l, vo) h' => Hs h0 h' [.sl vo 25 7 eT l2, .any (OpnA l2)] ∧ parseR s = prs l i (spl 10 t) ∧ t.length ≤ 65536 ∧ Acc l2 l ∧ i + t.length ≤ s.length) (fun (t, i, l2, l, vo) => t.length) (fun (t, i, l2, l, vo) => [(0, str t), (5, vo), (6, .int .i64 0), (7, .int .i64 i)]) (s, 0, [], [], .slice none 0 0) (by repeat (first | exact Ks.le_nil _ | refine Ks.le_cons rfl ?_)) ?_ ?_
  · exact ⟨S.nilO.nilS, hp0, hl, .nil, by omega⟩
  clear S
  rintro ⟨t, i, l2, l, vo⟩ h ⟨S, hp, hl2, ha, hi⟩
  all_goals (repeat' (first | refine K_seq ?_ | refine k_cond rfl ?_ | refine K_skip ?_ | refine K_exit ?_ | refine k_block ?_ | (refine K_region (id := 6) ?_; refine mv ?_; (refine tS ?_ ?_ <;> intro hc) <;> (refine KO_nil ?_))))
  · subst hc
    rw [show spl 10 [] = [[]] from rfl, prs_nil] at hp
    skip
    all_goals (repeat' (first | refine K_seq ?_ | refine k_cond rfl ?_ | refine K_skip ?_ | (refine K_region (id := 24) ?_; refine mv ?_; (refine cF ?_) <;> (refine KO_nil ?_)) | (refine K_region (id := 26) ?_; refine mv ?_; refine mv ?_; refine mv ?_; refine mv ?_; refine KO_nil ?_)))
    refine K_ret ⟨_, rfl, ?_⟩
    exact ⟨vo, l2, 0, 0, rfl, .inl ⟨l, hp, ha.same, rfl, rfl⟩, hallR_acc S .here (.there .here) ha, S.drop⟩
  have ht : t ≠ [] := hc
  have bad : ∀ (e : Int) (h' : AH), Hs h0 h' [] → prs l i (spl 10 t) = .bad i e → e ≠ 0 → ∃ u l2 i' e', (Value.tuple #[.slice none 0 0, .int .i64 i, .int .i64 e] : Value) = .tuple #[u, .int .i64 i', .int .i64 e'] ∧ ParsedR s l2 i' e' ∧ HallR h' u l2 ∧ Hs h0 h' [] := fun e h' S q he =>
    ⟨_, [], _, _, rfl, .inr ⟨i, hp.trans q, rfl, rfl, he⟩, hallR_nil _, S⟩
  rcases hf : fstIx 10 t with _ | m
  · have ecut : cutV 10 t = .tuple #[str t, str [], .bool false] := by unfold cutV; rw [hf]
    have espl := spl_free (fstIx_none.1 hf)
    have hb := prs_last (acc := l) (i := i) ht
    rw [espl] at bad
    all_goals (repeat' (first | (refine K_region (id := 8) ?_; refine mv ?_)))
    (refine KO_fn rfl rfl rfl rfl rfl ((sCut_ok t [10] rfl (by omega)).mono ?_); rintro _ h ⟨hv, rfl⟩) <;> ((change _ = cutV 10 t at hv); rw [ecut] at hv; subst hv; refine mv ?_; refine vl ?_; refine vl ?_; refine vl ?_; refine mv ?_; refine mv ?_; refine mv ?_; refine KO_nil ?_)
    all_goals (repeat' (first | refine K_seq ?_ | (refine K_region (id := 9) ?_; refine mv ?_)))
    (refine KO_fn rfl rfl rfl rfl rfl ((table_ok S.wf t (by omega)).mono ?_); rintro _ h ⟨tt, bb, rfl, hL, hnl, x⟩) <;> (replace S := S.join1 x; clear x; refine mv ?_; refine vl ?_; refine vl ?_; (refine al S ?_; clear S; intro b h S); (first | (refine sB S rfl rfl ?_; clear S; intro h S)); refine mv ?_; refine KO_nil ?_)
    all_goals (repeat' (first | refine K_seq ?_ | refine k_cond rfl ?_ | refine K_exit ?_ | (refine K_region (id := 10) ?_; refine mv ?_; refine vl ?_; refine mv ?_; refine off ?_; refine off ?_; refine vl ?_; refine KO_nil ?_) | (refine K_region (id := 11) ?_; refine mv ?_; refine KO_nil ?_) | (refine K_region (id := 24) ?_; refine mv ?_; (refine cT ?_) <;> (refine KO_nil ?_)) | (refine K_region (id := 25) ?_; refine mv ?_; refine mv ?_; refine mv ?_; refine mv ?_; refine mv ?_; refine KO_nil ?_)))
    refine K_ret ⟨_, rfl, ?_⟩
    exact bad 3 _ S.drop hb (by decide)
  · have ecut : cutV 10 t = .tuple #[str (t.take m), str (t.drop (m + 1)), .bool true] := by unfold cutV; rw [hf]
    have espl := spl_some hf
    have hm := (fstIx_some hf).1
    obtain ⟨lw, hlw⟩ : ∃ lw, lw = t.take m := ⟨_, rfl⟩
    obtain ⟨rst, hrst⟩ : ∃ r, r = t.drop (m + 1) := ⟨_, rfl⟩
    have hr1 : rst.length + m + 1 = t.length := by rw [hrst]; simp; omega
    have hr2 : lw.length ≤ 65536 := by rw [hlw]; simp; omega
    rw [← hlw, ← hrst] at ecut espl
    clear hlw hrst
    have hne := spl_ne 10 rst
    rw [espl] at bad hp
    all_goals (repeat' (first | (refine K_region (id := 8) ?_; refine mv ?_)))
    (refine KO_fn rfl rfl rfl rfl rfl ((sCut_ok t [10] rfl (by omega)).mono ?_); rintro _ h ⟨hv, rfl⟩) <;> ((change _ = cutV 10 t at hv); rw [ecut] at hv; subst hv; refine mv ?_; refine vl ?_; refine vl ?_; refine vl ?_; refine mv ?_; refine mv ?_; refine mv ?_; refine KO_nil ?_)
    all_goals (repeat' (first | refine K_seq ?_ | (refine K_region (id := 9) ?_; refine mv ?_)))
    (refine KO_fn rfl rfl rfl rfl rfl ((table_ok S.wf lw (by omega)).mono ?_); rintro _ h ⟨tt, bb, rfl, hL, hnl, x⟩) <;> (replace S := S.join1 x; clear x; refine mv ?_; refine vl ?_; refine vl ?_; (refine al S ?_; clear S; intro b h S); (first | (refine sB S rfl rfl ?_; clear S; intro h S)); refine mv ?_; refine KO_nil ?_)
    rcases hL with ⟨rfl, hP, hT⟩ | ⟨rfl, hP⟩
    rotate_left
    · all_goals (repeat' (first | refine K_seq ?_ | refine k_cond rfl ?_ | refine K_exit ?_ | (refine K_region (id := 10) ?_; refine mv ?_; refine vl ?_; refine mv ?_; refine mv ?_; refine vl ?_; refine vl ?_; refine KO_nil ?_) | (refine K_region (id := 11) ?_; refine mv ?_; refine KO_nil ?_) | (refine K_region (id := 24) ?_; refine mv ?_; (refine cT ?_) <;> (refine KO_nil ?_)) | (refine K_region (id := 25) ?_; refine mv ?_; refine mv ?_; refine mv ?_; refine mv ?_; refine mv ?_; refine KO_nil ?_)))
      refine K_ret ⟨_, rfl, ?_⟩
      exact bad 3 _ S.drop (prs_form hne hP) (by decide)
    have hck := hT.chk
    all_goals (repeat' (first | refine K_seq ?_ | refine k_cond rfl ?_ | refine K_skip ?_ | (refine K_region (id := 10) ?_; refine mv ?_; refine vl ?_; refine mv ?_; refine mv ?_; refine vl ?_; refine vl ?_; refine KO_nil ?_) | (refine K_region (id := 12) ?_; refine lB S rfl rfl ?_)))
    obtain ⟨bt, hnm⟩ : ∃ x, x = b := ⟨_, rfl⟩; subst hnm
    (refine KO_fn rfl rfl rfl rfl rfl ((check_okL S.wf tt ⟨Rd.of_rd S (.there .here), hnl.1, hnl.2⟩).mono ?_); rintro _ h ⟨rfl, x⟩) <;> (replace S := S.join0 x; clear x; refine mv ?_; refine KO_nil ?_)
    all_goals (repeat' (first | refine K_seq ?_ | refine k_cond rfl ?_ | refine K_skip ?_ | refine K_exit ?_ | (refine K_region (id := 13) ?_; refine mv ?_; (first | (refine cS ?_ ?_ <;> intro hc)) <;> (refine KO_nil ?_))))
    · all_goals (repeat' (first | refine K_seq ?_ | refine k_cond rfl ?_ | (refine K_region (id := 24) ?_; refine mv ?_; (refine cT ?_) <;> (refine KO_nil ?_)) | (refine K_region (id := 25) ?_; refine mv ?_; refine mv ?_; refine mv ?_; refine mv ?_; refine mv ?_; refine KO_nil ?_)))
      refine K_ret ⟨_, rfl, ?_⟩
      have hc9 : chk (lineT (spl 32 lw)) ≠ 0 := by rw [← hck]; exact hc
      have := prs_chk (acc := l) (i := i) hne hP hc9
      rw [← hck] at this
      exact bad _ _ S.drop this hc
    have hcz : chk tt = 0 := Classical.not_not.1 hc
    rw [hcz] at hck
    rw [hcz]
    have hnm := ha.name hT
    have h17 := ha.len
    skip
    all_goals (repeat' (first | refine k_block ?_ | (refine K_region (id := 14) ?_; refine mv ?_; refine lnS S rfl rfl ?_; refine mv ?_; refine KO_nil ?_)))
    refine k_loop (σ := Nat) (fun k h' => Hs h0 h' [.blk bt (eT tt) 25, .rd tt.ov 1 eI tt.opn, .sl vo 25 7 eT l2, .any (OpnA l2)] ∧ k ≤ l2.length ∧ ∀ j, j < k → ¬ (tb l2 j).name = tt.name) (fun k => l2.length - k) (fun k => [(0, str t), (5, vo), (6, .int .i64 0), (7, .int .i64 i), (9, str rst), (11, PT bt), (43, vo), (44, .int .i64 l2.length), (45, .int .i64 k)]) 0 (by repeat (first | exact Ks.le_nil _ | refine Ks.le_cons rfl ?_)) ?_ ?_
    · exact ⟨S, Nat.zero_le _, fun j hj => absurd hj (Nat.not_lt_zero _)⟩
    clear S
    rintro k h ⟨S, hk1, hk2⟩
    all_goals (repeat' (first | refine K_seq ?_ | refine k_cond rfl ?_ | refine K_skip ?_ | refine K_exit ?_ | refine k_block ?_ | (refine K_region (id := 15) ?_; (first | (refine cS ?_ ?_ <;> intro hc)) <;> (refine KO_nil ?_)) | (refine K_region (id := 16) ?_; refine ixS2 S rfl rfl ?_; refine lES2 S rfl rfl ?_; (refine al S ?_; clear S; intro b h S); (first | (refine sB S rfl rfl ?_; clear S; intro h S)); refine KO_nil ?_) | (refine K_region (id := 17) ?_; refine vl ?_; refine lB S rfl rfl ?_; refine vl ?_; refine lB S rfl rfl ?_; (refine tS ?_ ?_ <;> intro hc) <;> (refine KO_nil ?_))))
    · have hk : k < l2.length := by omega
      (try simp only [Int.toNat_natCast] at *)
      all_goals (repeat' (first | refine K_seq ?_ | refine k_cond rfl ?_ | refine K_exit ?_ | (refine K_region (id := 18) ?_; refine mv ?_; refine KO_nil ?_) | (refine K_region (id := 24) ?_; refine mv ?_; (refine cT ?_) <;> (refine KO_nil ?_)) | (refine K_region (id := 25) ?_; refine mv ?_; refine mv ?_; refine mv ?_; refine mv ?_; refine mv ?_; refine KO_nil ?_)))
      refine K_ret ⟨_, rfl, ?_⟩
      exact bad 5 _ S.drop (prs_dup hne hP hck.symm (hnm.1 ⟨k, hk, by assumption⟩)) (by decide)
    · have hk : k < l2.length := by omega
      (try simp only [Int.toNat_natCast] at *)
      all_goals (repeat' (first | (refine K_region (id := 19) ?_; refine ad ?_; refine mv ?_; refine KO_nil ?_)))
      refine ⟨k + 1, ?_, ?_, (by repeat (first | exact Ks.le_nil _ | refine Ks.le_cons rfl ?_))⟩
      · show l2.length - (k + 1) < l2.length - k; omega
      · exact ⟨S.tail, by omega, nxtD hk2 (by assumption)⟩
    have hnd : ¬ ∃ j, j < l.length ∧ (tb l j).name = (lineT (spl 32 lw)).name := fun q => by
      obtain ⟨j, hj, e⟩ := hnm.2 q
      exact hk2 j (by omega) e
    have hll := ha.same.1
    skip
    all_goals (repeat' (first | refine K_seq ?_ | refine k_cond rfl ?_ | refine K_skip ?_ | (refine K_region (id := 20) ?_; refine mv ?_; refine lnS S rfl rfl ?_; (first | (refine cS ?_ ?_ <;> intro hc)) <;> (refine KO_nil ?_))))
    · all_goals (repeat' (first | refine K_seq ?_ | refine k_cond rfl ?_ | refine K_exit ?_ | (refine K_region (id := 21) ?_; refine mv ?_; refine KO_nil ?_) | (refine K_region (id := 24) ?_; refine mv ?_; (refine cT ?_) <;> (refine KO_nil ?_)) | (refine K_region (id := 25) ?_; refine mv ?_; refine mv ?_; refine mv ?_; refine mv ?_; refine mv ?_; refine KO_nil ?_)))
      refine K_ret ⟨_, rfl, ?_⟩
      exact bad 7 _ S.drop (prs_many hne hP hck.symm hnd (by omega)) (by decide)
    · have h16 : l2.length ≠ 16 := by omega
      all_goals (repeat' (first | (refine K_region (id := 22) ?_; refine mv ?_; refine lB S rfl rfl ?_; (refine one 7 S ?_; clear S; intro u h S))))
      refine app (y0 := tt) S rfl rfl ?_; clear S; intro v h S; refine mv ?_; refine KO_nil ?_
      all_goals (repeat' (first | (refine K_region (id := 7) ?_; refine mv ?_; refine ad ?_; refine mv ?_; refine KO_nil ?_) | (refine K_region (id := 23) ?_; refine mv ?_; refine mv ?_; refine KO_nil ?_)))
      refine ⟨(rst, i + 1, l2 ++ [tt], l ++ [lineT (spl 32 lw)], v), ?_, ?_, (by repeat (first | exact Ks.le_nil _ | refine Ks.le_cons rfl ?_))⟩
      · show rst.length < t.length; omega
      · replace S := S.del (.there .here)
        replace S := (S.front (.there (.there .here))).front (.there (.there .here))
        exact ⟨(S.pushOpn).front (.there .here), hp.trans (prs_go hne hP hck.symm hnd (by omega)), (by show rst.length ≤ 65536; omega), ha.push hT hcz h16, (by show i + 1 + rst.length ≤ s.length; omega)⟩
end Go.Proofs.Xx

/-
  HallChecks: for the row.
-/
namespace Go.Proofs.Xx
open Go Go.Proofs
set_option linter.unusedSimpArgs false
set_option linter.unusedVariables false
set_option maxRecDepth 100000

theorem HallA.few {h : AH} {v : Value} {l : List Tab} (A : HallA h v l) (f : FewP l) : HallR h v l :=
  ⟨A.rd, fun i hi => ⟨(A.tab i hi).rd, by have := f.2 i hi; omega, by have := f.2 i hi; omega⟩, by have := f.1; omega, A.cap⟩
end Go.Proofs.Xx
