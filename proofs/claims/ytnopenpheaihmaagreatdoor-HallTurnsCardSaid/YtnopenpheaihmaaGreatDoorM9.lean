/-
  Seats of tables and halls, first seats, tables by name; the program's and the reference's.
-/
import Derived.Test.YtnopenpheaihmaaGreatDoorM8
import Derived.Test.YtnopenpheaihmaaGreatDoorM5
import Derived.Below
import Derived.ChangeSame
import Derived.ChangeArms
import Derived.OpenShut
import Derived.Test.YtnopenpheaihmaaGreatDoorM4
import Derived.Test.YtnopenpheaihmaaGreatDoorM3
import Derived.WideShapes
import Derived.ChangeShapes
import Derived.Test.YtnopenpheaihmaaGreatDoorM6

namespace Go.Proofs.Xx
open Go Go.Proofs
set_option linter.unusedSimpArgs false
set_option linter.unusedVariables false
set_option maxRecDepth 100000

open Classical in
noncomputable def seatsV (t : Tab) : Int := if chk t = 0 then tsize t else 0
open Classical in
noncomputable def firstV (l : List Tab) (t : Int) : Int := if 0 ≤ t ∧ t < l.length ∧ ValidL l then sumT l t.toNat else 0
open Classical in
noncomputable def countV (l : List Tab) : Int := if ValidL l then sumT l l.length else 0
def FindIs (l : List Tab) (nm : List UInt8) (v : Value) : Prop :=
  (∃ k : Nat, v = .tuple #[.int .i64 k, .bool true] ∧ ValidL l ∧ k < l.length ∧ (tb l k).name = nm ∧ ∀ j, j < k → ¬ (tb l j).name = nm) ∨
  (v = .tuple #[.int .i64 0, .bool false] ∧ (¬ ValidL l ∨ ∀ j, j < l.length → ¬ (tb l j).name = nm))
def eSt (p : Nat × Nat) : List Value := [.int .i64 (p.1 : Int), .int .i64 (p.2 : Int)]
/-- The seats of the first n tables, and the first k of the next. -/
def SeatsTo (l : List Tab) (n k : Nat) (out : List (Nat × Nat)) : Prop := (out.length : Int) = sumT l n + k ∧ ∀ x, x < out.length → ((out.getD x default).1 < n ∨ ((out.getD x default).1 = n ∧ (out.getD x default).2 < k)) ∧ ((out.getD x default).2 : Int) < tsize (tb l (out.getD x default).1) ∧ (x : Int) = sumT l (out.getD x default).1 + (out.getD x default).2
end Go.Proofs.Xx

/-
  Swapping within a range of a list; ranges in order.
-/
namespace Go.Proofs.Xx
set_option linter.unusedVariables false
set_option linter.unusedSectionVars false

section
variable {α : Type} [Inhabited α]
theorem getD_set (l : List α) {i : Nat} (x : α) (h : i < l.length) (j : Nat) : (l.set i x).getD j default = if j = i then x else l.getD j default := by
  rw [List.getD_eq_getElem?_getD, List.getD_eq_getElem?_getD, List.getElem?_set]
  by_cases e : i = j
  · subst e; rw [if_pos rfl, if_pos rfl, if_pos h]; rfl
  · rw [if_neg e, if_neg (fun q => e q.symm)]
theorem ext_getD {l m : List α} (h : l.length = m.length) (k : ∀ i, i < l.length → l.getD i default = m.getD i default) : l = m := by
  refine List.ext_getElem h fun i q1 q2 => ?_
  have e := k i q1
  rw [List.getD_eq_getElem?_getD, List.getD_eq_getElem?_getD, List.getElem?_eq_getElem q1, List.getElem?_eq_getElem q2] at e
  exact e

/-- Two elements change places. -/
def swp (l : List α) (i j : Nat) : List α := (l.set i (l.getD j default)).set j (l.getD i default)
theorem swp_len (l : List α) (i j : Nat) : (swp l i j).length = l.length := by simp [swp]
theorem swp_get {l : List α} {i j : Nat} (hi : i < l.length) (hj : j < l.length) (k : Nat) : (swp l i j).getD k default = if k = j then l.getD i default else if k = i then l.getD j default else l.getD k default := by
  unfold swp
  rw [getD_set _ _ (by simpa using hj), getD_set _ _ hi]
theorem swp_perm {l : List α} {i j : Nat} (hi : i < l.length) (hj : j < l.length) : (swp l i j).Perm l := by
  unfold swp
  have e1 : l.getD i default = l[i] := by simp [List.getD_eq_getElem?_getD, List.getElem?_eq_getElem hi]
  have e2 : l.getD j default = l[j] := by simp [List.getD_eq_getElem?_getD, List.getElem?_eq_getElem hj]
  rw [e1, e2]
  exact List.set_set_perm hi hj

/-- l' is l, with elements in [a, b) exchanged. -/
inductive Sw (a b : Nat) : List α → List α → Prop
  | refl (l : List α) : Sw a b l l
  | step {l l' : List α} (i j : Nat) (h : Sw a b l l') (hi : a ≤ i ∧ i < b) (hj : a ≤ j ∧ j < b) (hb : b ≤ l'.length) : Sw a b l (swp l' i j)
theorem Sw.len {a b : Nat} {l l' : List α} (h : Sw a b l l') : l'.length = l.length := by
  induction h with
  | refl => rfl
  | step i j h hi hj hb ih => rw [swp_len, ih]
theorem Sw.perm {a b : Nat} {l l' : List α} (h : Sw a b l l') : l'.Perm l := by
  induction h with
  | refl => exact .refl _
  | step i j h hi hj hb ih => exact (swp_perm (by omega) (by omega)).trans ih
theorem Sw.out {a b : Nat} {l l' : List α} (h : Sw a b l l') {k : Nat} (hk : k < a ∨ b ≤ k) : l'.getD k default = l.getD k default := by
  induction h with
  | refl => rfl
  | step i j h hi hj hb ih => rw [swp_get (by omega) (by omega), if_neg (by omega), if_neg (by omega), ih]
theorem Sw.in_ {a b : Nat} {l l' : List α} (h : Sw a b l l') : ∀ {k : Nat}, a ≤ k → k < b → ∃ m, a ≤ m ∧ m < b ∧ l'.getD k default = l.getD m default := by
  induction h with
  | refl => intro k h1 h2; exact ⟨k, h1, h2, rfl⟩
  | step i j h hi hj hb ih =>
    intro k h1 h2
    rw [swp_get (by omega) (by omega)]
    split
    · exact ih hi.1 hi.2
    · split
      · exact ih hj.1 hj.2
      · exact ih h1 h2
theorem Sw.trans {a b : Nat} {l m n : List α} (h : Sw a b l m) (g : Sw a b m n) : Sw a b l n := by
  induction g with
  | refl => exact h
  | step i j g hi hj hb ih => exact .step i j ih hi hj hb
theorem Sw.mono {a b a' b' : Nat} {l m : List α} (h : Sw a b l m) (ha : a' ≤ a) (hb : b ≤ b') (hl : b' ≤ l.length) : Sw a' b' l m := by
  induction h with
  | refl => exact .refl _
  | step i j g hi hj hbl ih =>
    exact .step i j ih ⟨by omega, by omega⟩ ⟨by omega, by omega⟩ (by rw [g.len]; exact hl)
theorem Sw.one {a b : Nat} {l : List α} (i j : Nat) (hi : a ≤ i ∧ i < b) (hj : a ≤ j ∧ j < b) (hb : b ≤ l.length) : Sw a b l (swp l i j) := .step i j (.refl l) hi hj hb

/-- An order by weight. -/
structure WOrd (lt : α → α → Prop) : Prop where
  irr : ∀ x, ¬ lt x x
  tr : ∀ {x y z}, lt x y → lt y z → lt x z
  ntr : ∀ {x y z}, ¬ lt y x → ¬ lt z y → ¬ lt z x
theorem WOrd.asym {lt : α → α → Prop} (W : WOrd lt) {x y : α} (h : lt x y) : ¬ lt y x := fun g => W.irr x (W.tr h g)

/-- The elements in [a, b) stand in order. -/
def Srt (lt : α → α → Prop) (a b : Nat) (l : List α) : Prop := ∀ i j, a ≤ i → i < j → j < b → ¬ lt (l.getD j default) (l.getD i default)
/-- From neighbours. -/
theorem Srt.adj {lt : α → α → Prop} (W : WOrd lt) {a b : Nat} {l : List α} (h : ∀ i, a ≤ i → i + 1 < b → ¬ lt (l.getD (i + 1) default) (l.getD i default)) : Srt lt a b l := by
  intro i j h1 h2 h3
  induction j with
  | zero => omega
  | succ j ih =>
    rcases Nat.lt_or_ge i j with q | q
    · exact W.ntr (ih q (by omega)) (h j (by omega) h3)
    · have : i = j := by omega
      subst this; exact h i h1 h3

/-! ### insertion -/
/-- [a, i] stands in order but for the element at j, which is on its way down. -/
def InsI (lt : α → α → Prop) (a i j : Nat) (l : List α) : Prop := ∀ p q, a ≤ p → p < q → q ≤ i → q ≠ j → ¬ lt (l.getD q default) (l.getD p default)
theorem InsI.start {lt : α → α → Prop} {a i : Nat} {l : List α} (h : Srt lt a i l) : InsI lt a i i l := fun p q h1 h2 h3 h4 => h p q h1 h2 (by omega)
theorem InsI.next {lt : α → α → Prop} (W : WOrd lt) {a i j : Nat} {l : List α} (h : InsI lt a i j l) (hj : a < j) (hji : j ≤ i) (hl : i < l.length) (hc : lt (l.getD j default) (l.getD (j - 1) default)) : InsI lt a i (j - 1) (swp l j (j - 1)) := by
  intro p q h1 h2 h3 h4
  have g := swp_get (l := l) (i := j) (j := j - 1) (by omega) (by omega)
  rw [g q, g p, if_neg h4]
  by_cases e1 : q = j
  · subst e1
    rw [if_pos rfl]
    by_cases e2 : p = q - 1
    · rw [if_pos e2]; exact W.asym hc
    · rw [if_neg e2, if_neg (by omega)]; exact h p (q - 1) h1 (by omega) (by omega) (by omega)
  · rw [if_neg e1]
    by_cases e2 : p = j - 1
    · rw [if_pos e2]; exact h j q (by omega) (by omega) h3 e1
    · rw [if_neg e2]
      by_cases e3 : p = j
      · rw [if_pos e3]; exact h (j - 1) q (by omega) (by omega) h3 e1
      · rw [if_neg e3]; exact h p q h1 h2 h3 e1
theorem InsI.done {lt : α → α → Prop} (W : WOrd lt) {a i j : Nat} {l : List α} (h : InsI lt a i j l) (hc : j ≤ a ∨ ¬ lt (l.getD j default) (l.getD (j - 1) default)) : Srt lt a (i + 1) l := by
  intro p q h1 h2 h3
  by_cases e : q = j
  · subst e
    rcases hc with hc | hc
    · omega
    · by_cases e2 : p = q - 1
      · rw [e2]; exact hc
      · exact W.ntr (h p (q - 1) h1 (by omega) (by omega) (by omega)) hc
  · exact h p q h1 h2 (by omega) e

/-! ### heaps -/
def HeapAt (lt : α → α → Prop) (f hi k : Nat) (l : List α) : Prop :=
  (2 * k + 1 < hi → ¬ lt (l.getD (f + k) default) (l.getD (f + (2 * k + 1)) default)) ∧ (2 * k + 2 < hi → ¬ lt (l.getD (f + k) default) (l.getD (f + (2 * k + 2)) default))
def Heap (lt : α → α → Prop) (f lo hi : Nat) (l : List α) : Prop := ∀ k, lo ≤ k → HeapAt lt f hi k l
/-- A heap but for the element at root, which is on its way down. -/
def SiftI (lt : α → α → Prop) (f lo hi root : Nat) (l : List α) : Prop :=
  (∀ k, lo ≤ k → k ≠ root → HeapAt lt f hi k l) ∧ ∀ k, lo ≤ k → (root = 2 * k + 1 ∨ root = 2 * k + 2) → ∀ c, (c = 2 * root + 1 ∨ c = 2 * root + 2) → c < hi → ¬ lt (l.getD (f + k) default) (l.getD (f + c) default)
theorem SiftI.start {lt : α → α → Prop} {f lo hi : Nat} {l : List α} (h : Heap lt f (lo + 1) hi l) : SiftI lt f lo hi lo l := ⟨fun k h1 h2 => h k (by omega), fun k h1 h2 => by omega⟩
theorem SiftI.done {lt : α → α → Prop} {f lo hi root : Nat} {l : List α} (h : SiftI lt f lo hi root l) (hc : HeapAt lt f hi root l) : Heap lt f lo hi l := fun k h1 => by
  by_cases e : k = root
  · subst e; exact hc
  · exact h.1 k h1 e
theorem SiftI.next {lt : α → α → Prop} (W : WOrd lt) {f lo hi root c : Nat} {l : List α} (h : SiftI lt f lo hi root l) (hr : lo ≤ root) (hcc : c = 2 * root + 1 ∨ c = 2 * root + 2) (hch : c < hi) (hl : f + hi ≤ l.length)
    (hm : ∀ d, (d = 2 * root + 1 ∨ d = 2 * root + 2) → d < hi → ¬ lt (l.getD (f + c) default) (l.getD (f + d) default)) (hc : lt (l.getD (f + root) default) (l.getD (f + c) default)) :
    SiftI lt f lo hi c (swp l (f + root) (f + c)) := by
  have g := swp_get (l := l) (i := f + root) (j := f + c) (by omega) (by omega)
  -- the element at k, after the exchange
  have at_c : (swp l (f + root) (f + c)).getD (f + c) default = l.getD (f + root) default := by rw [g, if_pos rfl]
  have at_r : (swp l (f + root) (f + c)).getD (f + root) default = l.getD (f + c) default := by rw [g, if_neg (by omega), if_pos rfl]
  have at_o : ∀ k, k ≠ c → k ≠ root → (swp l (f + root) (f + c)).getD (f + k) default = l.getD (f + k) default := fun k h1 h2 => by rw [g, if_neg (by omega), if_neg (by omega)]
  refine ⟨fun k h1 h2 => ?_, fun k h1 h2 d hd hdh => ?_⟩
  · by_cases e : k = root
    · subst e
      refine ⟨fun q => ?_, fun q => ?_⟩
      · rw [at_r]
        by_cases e1 : 2 * k + 1 = c
        · rw [e1, at_c]; exact W.asym hc
        · rw [at_o _ e1 (by omega)]; exact hm _ (.inl rfl) q
      · rw [at_r]
        by_cases e1 : 2 * k + 2 = c
        · rw [e1, at_c]; exact W.asym hc
        · rw [at_o _ e1 (by omega)]; exact hm _ (.inr rfl) q
    · have hk := h.1 k h1 e
      rw [HeapAt, at_o k h2 e]
      refine ⟨fun q => ?_, fun q => ?_⟩
      · by_cases e1 : 2 * k + 1 = root
        · rw [e1, at_r]; exact h.2 k h1 (.inl e1.symm) c hcc hch
        · by_cases e2 : 2 * k + 1 = c
          · omega
          · rw [at_o _ e2 e1]; exact hk.1 q
      · by_cases e1 : 2 * k + 2 = root
        · rw [e1, at_r]; exact h.2 k h1 (.inr e1.symm) c hcc hch
        · by_cases e2 : 2 * k + 2 = c
          · omega
          · rw [at_o _ e2 e1]; exact hk.2 q
  · have e : k = root := by omega
    subst e
    rw [at_r, at_o d (by omega) (by omega)]
    have hk := h.1 c (by omega) (by omega)
    rcases hd with hd | hd
    · subst hd; exact hk.1 hdh
    · subst hd; exact hk.2 hdh
theorem Heap.max {lt : α → α → Prop} (W : WOrd lt) {f hi : Nat} {l : List α} (h : Heap lt f 0 hi l) (k : Nat) (hk : k < hi) : ¬ lt (l.getD (f + 0) default) (l.getD (f + k) default) := by
  induction k using Nat.strongRecOn with
  | _ k ih =>
    rcases Nat.eq_zero_or_pos k with e | e
    · subst e; exact W.irr _
    · have hp := h ((k - 1) / 2) (Nat.zero_le _)
      have hi' := ih ((k - 1) / 2) (by omega) (by omega)
      -- ¬ lt root parent, ¬ lt parent k
      rcases (by omega : k = 2 * ((k - 1) / 2) + 1 ∨ k = 2 * ((k - 1) / 2) + 2) with q | q
      · have := hp.1 (by omega)
        rw [← q] at this
        exact W.ntr this hi'
      · have := hp.2 (by omega)
        rw [← q] at this
        exact W.ntr this hi'
/-- The heap is [f, f + i), behind it the greatest stand in order. -/
def HeapI (lt : α → α → Prop) (f i n : Nat) (l : List α) : Prop := Heap lt f 0 i l ∧ ∀ p q, p < q → i ≤ q → q < n → ¬ lt (l.getD (f + q) default) (l.getD (f + p) default)
theorem HeapI.pop {lt : α → α → Prop} (W : WOrd lt) {f i n : Nat} {l l' : List α} (h : HeapI lt f (i + 1) n l) (hin : i < n) (hl : f + n ≤ l.length) (s : Sw f (f + i) (swp l f (f + i)) l') (hh : Heap lt f 0 i l') : HeapI lt f i n l' := by
  refine ⟨hh, fun p q h1 h2 h3 => ?_⟩
  have g := swp_get (l := l) (i := f) (j := f + i) (by omega) (by omega)
  have hq : l'.getD (f + q) default = if q = i then l.getD f default else l.getD (f + q) default := by
    rw [s.out (by omega), g]
    by_cases e : q = i
    · rw [if_pos (by omega), if_pos e]
    · rw [if_neg (by omega), if_neg (by omega), if_neg e]
  rw [hq]
  -- where the element at p was
  have hp : ∃ m, m < n ∧ (m ≤ i ∨ m = p) ∧ m ≤ q ∧ (m < q ∨ q = i) ∧ l'.getD (f + p) default = l.getD (f + m) default := by
    rcases Nat.lt_or_ge p i with q1 | q1
    · obtain ⟨m, m1, m2, m3⟩ := s.in_ (k := f + p) (by omega) (by omega)
      rw [g] at m3
      rw [if_neg (by omega)] at m3
      by_cases e : m = f
      · rw [if_pos e] at m3
        exact ⟨i, by omega, .inl (Nat.le_refl _), by omega, by omega, m3⟩
      · rw [if_neg e] at m3
        exact ⟨m - f, by omega, .inl (by omega), by omega, by omega, by rw [m3]; congr 1; omega⟩
    · rw [s.out (by omega), g]
      by_cases e : p = i
      · refine ⟨0, by omega, .inl (by omega), by omega, by omega, ?_⟩
        rw [if_pos (by omega)]; rfl
      · exact ⟨p, by omega, .inr rfl, by omega, by omega, by rw [if_neg (by omega), if_neg (by omega)]⟩
  obtain ⟨m, m1, m2, m3, m4, m5⟩ := hp
  rw [m5]
  by_cases e : q = i
  · rw [if_pos e]
    exact Heap.max W h.1 m (by omega)
  · rw [if_neg e]
    exact h.2 m q (by omega) (by omega) h3

/-! ### quicksort -/
/-- All pairs in [a, b) stand in order but those within [a', b'). -/
def DoneI (lt : α → α → Prop) (a b a' b' : Nat) (l : List α) : Prop := ∀ i j, a ≤ i → i < j → j < b → (i < a' ∨ b' ≤ j) → ¬ lt (l.getD j default) (l.getD i default)
theorem DoneI.start {lt : α → α → Prop} {a b : Nat} {l : List α} : DoneI lt a b a b l := fun i j h1 h2 h3 h4 => by omega
theorem DoneI.sw {lt : α → α → Prop} {a b a' b' : Nat} {l l' : List α} (h : DoneI lt a b a' b' l) (s : Sw a' b' l l') (h1 : a ≤ a') (h2 : b' ≤ b) : DoneI lt a b a' b' l' := by
  intro i j q1 q2 q3 q4
  rcases q4 with q4 | q4
  · rw [s.out (k := i) (.inl q4)]
    rcases Nat.lt_or_ge j a' with q5 | q5
    · rw [s.out (.inl q5)]; exact h i j q1 q2 q3 (.inl q4)
    · rcases Nat.lt_or_ge j b' with q6 | q6
      · obtain ⟨m, m1, m2, m3⟩ := s.in_ q5 q6
        rw [m3]; exact h i m q1 (by omega) (by omega) (.inl q4)
      · rw [s.out (.inr q6)]; exact h i j q1 q2 q3 (.inl q4)
  · rw [s.out (k := j) (.inr q4)]
    rcases Nat.lt_or_ge i a' with q5 | q5
    · rw [s.out (.inl q5)]; exact h i j q1 q2 q3 (.inl q5)
    · rcases Nat.lt_or_ge i b' with q6 | q6
      · obtain ⟨m, m1, m2, m3⟩ := s.in_ q5 q6
        rw [m3]; exact h m j (by omega) (by omega) q3 (.inr q4)
      · rw [s.out (.inr q6)]; exact h i j q1 q2 q3 (.inr q4)
theorem DoneI.finish {lt : α → α → Prop} {a b a' b' : Nat} {l : List α} (h : DoneI lt a b a' b' l) (s : Srt lt a' b' l) : Srt lt a b l := by
  intro i j q1 q2 q3
  by_cases e : i < a' ∨ b' ≤ j
  · exact h i j q1 q2 q3 e
  · exact s i j (by omega) q2 (by omega)
/-- [a, b) is parted at m: less before it, not less behind it. -/
def Parted (lt : α → α → Prop) (a b m : Nat) (l : List α) : Prop := (∀ k, a ≤ k → k < m → lt (l.getD k default) (l.getD m default)) ∧ ∀ k, m < k → k < b → ¬ lt (l.getD k default) (l.getD m default)
theorem Parted.across {lt : α → α → Prop} (W : WOrd lt) {a b m : Nat} {l : List α} (h : Parted lt a b m l) {i j : Nat} (h1 : a ≤ i) (h2 : i ≤ m) (h3 : m ≤ j) (h4 : j < b) (h5 : i < j) : ¬ lt (l.getD j default) (l.getD i default) := by
  have e1 : ¬ lt (l.getD m default) (l.getD i default) := by
    rcases Nat.lt_or_ge i m with q | q
    · exact W.asym (h.1 i h1 q)
    · have : i = m := by omega
      subst this; exact W.irr _
  have e2 : ¬ lt (l.getD j default) (l.getD m default) := by
    rcases Nat.lt_or_ge m j with q | q
    · exact h.2 j q h4
    · have : j = m := by omega
      subst this; exact W.irr _
  exact W.ntr e1 e2
/-- The left part is put in order: what is left is the right one. -/
theorem DoneI.left {lt : α → α → Prop} (W : WOrd lt) {a b a' b' m : Nat} {l l' : List α} (h : DoneI lt a b a' b' l) (p : Parted lt a' b' m l) (hm : a' ≤ m ∧ m < b') (hab : a ≤ a' ∧ b' ≤ b) (s : Sw a' m l l') (hs : Srt lt a' m l') (hl : b' ≤ l.length) : DoneI lt a b (m + 1) b' l' := by
  have h' := h.sw (s.mono (Nat.le_refl _) (by omega) hl) hab.1 hab.2
  intro i j q1 q2 q3 q4
  by_cases e : i < a' ∨ b' ≤ j
  · exact h' i j q1 q2 q3 e
  · rcases q4 with q4 | q4
    · rcases Nat.lt_or_ge j m with q5 | q5
      · exact hs i j (by omega) q2 q5
      · rw [s.out (k := j) (.inr q5)]
        rcases Nat.lt_or_ge i m with q6 | q6
        · obtain ⟨k, k1, k2, k3⟩ := s.in_ (k := i) (by omega) q6
          rw [k3]; exact p.across W k1 (by omega) q5 (by omega) (by omega)
        · rw [s.out (.inr q6)]; exact p.across W (by omega) (by omega) q5 (by omega) q2
    · omega
theorem DoneI.right {lt : α → α → Prop} (W : WOrd lt) {a b a' b' m : Nat} {l l' : List α} (h : DoneI lt a b a' b' l) (p : Parted lt a' b' m l) (hm : a' ≤ m ∧ m < b') (hab : a ≤ a' ∧ b' ≤ b) (s : Sw (m + 1) b' l l') (hs : Srt lt (m + 1) b' l') (hl : b' ≤ l.length) : DoneI lt a b a' m l' := by
  have h' := h.sw (s.mono (by omega) (Nat.le_refl _) hl) hab.1 hab.2
  intro i j q1 q2 q3 q4
  by_cases e : i < a' ∨ b' ≤ j
  · exact h' i j q1 q2 q3 e
  · rcases q4 with q4 | q4
    · omega
    · rcases Nat.lt_or_ge m i with q5 | q5
      · exact hs i j (by omega) q2 (by omega)
      · rw [s.out (k := i) (.inl (by omega))]
        rcases Nat.lt_or_ge m j with q6 | q6
        · obtain ⟨k, k1, k2, k3⟩ := s.in_ (k := j) (by omega) (by omega)
          rw [k3]; exact p.across W (by omega) q5 (by omega) k2 (by omega)
        · rw [s.out (.inl (by omega))]; exact p.across W (by omega) q5 (by omega) (by omega) q2
/-- Elements that are not greater than x in front, greater ones behind; none is less than x. -/
theorem DoneI.eq_ {lt : α → α → Prop} (W : WOrd lt) {a b a' b' m : Nat} {l : List α} {x : α} (h : DoneI lt a b a' b' l) (hm : a' ≤ m ∧ m ≤ b') (h1 : ∀ k, a' ≤ k → k < m → ¬ lt x (l.getD k default)) (h2 : ∀ k, m ≤ k → k < b' → lt x (l.getD k default)) (h3 : ∀ k, a' ≤ k → k < b' → ¬ lt (l.getD k default) x) : DoneI lt a b m b' l := by
  intro i j q1 q2 q3 q4
  by_cases e : i < a' ∨ b' ≤ j
  · exact h i j q1 q2 q3 e
  · rcases q4 with q4 | q4
    · exact W.ntr (h1 i (by omega) q4) (h3 j (by omega) (by omega))
    · omega
theorem Sw.all {a b : Nat} {l l' : List α} (s : Sw a b l l') {p : α → Prop} (h : ∀ k, a ≤ k → k < b → p (l.getD k default)) : ∀ k, a ≤ k → k < b → p (l'.getD k default) := fun k h1 h2 => by
  obtain ⟨m, m1, m2, m3⟩ := s.in_ h1 h2
  rw [m3]; exact h m m1 m2
end
end Go.Proofs.Xx

/-
  Merging by symmetric comparisons: two runs become one, rotations.
-/
namespace Go.Proofs.Xx
set_option linter.unusedVariables false
set_option linter.unusedSectionVars false

section
variable {α : Type} [Inhabited α]
/-- n elements from a on and from b on change places. -/
def xch (a b n k : Nat) : Nat := if a ≤ k ∧ k < a + n then k + (b - a) else if b ≤ k ∧ k < b + n then k - (b - a) else k
def IsXch (a b n : Nat) (l l' : List α) : Prop := ∀ k, l'.getD k default = l.getD (xch a b n k) default
theorem IsXch.zero {a b : Nat} {l : List α} : IsXch a b 0 l l := fun k => by
  unfold xch
  rw [if_neg (by omega), if_neg (by omega)]
theorem IsXch.next {a b i : Nat} {l l' : List α} (h : IsXch a b i l l') (hab : a + i < b) (hl : b + i < l'.length) : IsXch a b (i + 1) l (swp l' (a + i) (b + i)) := fun k => by
  rw [swp_get (by omega) hl]
  rw [h, h, h]
  unfold xch
  repeat' split
  all_goals first | omega | rfl | (congr 1 <;> omega)
/-- Two neighbouring parts change places. -/
def rot (a m b k : Nat) : Nat := if k < a then k else if k < a + (b - m) then k + (m - a) else if k < b then k - (b - m) else k
def IsRot (a m b : Nat) (l l' : List α) : Prop := ∀ k, l'.getD k default = l.getD (rot a m b k) default
/-- l, rotated, is c, rotated between i before m and j behind it. -/
def RotI (a m b i j : Nat) (l c : List α) : Prop := ∀ k, l.getD (rot a m b k) default = c.getD (rot (m - i) m (m + j) k) default
theorem RotI.start {a m b : Nat} {l : List α} (h1 : a ≤ m) (h2 : m ≤ b) : RotI a m b (m - a) (b - m) l l := fun k => by
  rw [show m - (m - a) = a by omega, show m + (b - m) = b by omega]
theorem RotI.left {a m b i j : Nat} {l c c' : List α} (h : RotI a m b i j l c) (hi : i ≤ m) (hij : j < i) (x : IsXch (m - i) m j c c') : RotI a m b (i - j) j l c' := fun k => by
  rw [h k, x]
  congr 1
  unfold xch rot
  repeat' split
  all_goals omega
theorem RotI.right {a m b i j : Nat} {l c c' : List α} (h : RotI a m b i j l c) (hi : i ≤ m) (hij : i < j) (x : IsXch (m - i) (m + j - i) i c c') : RotI a m b i (j - i) l c' := fun k => by
  rw [h k, x]
  congr 1
  unfold xch rot
  repeat' split
  all_goals omega
theorem RotI.done {a m b i : Nat} {l c c' : List α} (h : RotI a m b i i l c) (hi : i ≤ m) (x : IsXch (m - i) m i c c') : IsRot a m b l c' := fun k => by
  rw [h k, x]
  congr 1
  unfold xch rot
  repeat' split
  all_goals omega

/-- An element goes up from a to k. -/
def IsUp (a k : Nat) (l l' : List α) : Prop := ∀ x, l'.getD x default = l.getD (if x < a then x else if x < k then x + 1 else if x = k then a else x) default
theorem IsUp.start {a : Nat} {l : List α} : IsUp a a l l := fun x => by
  congr 1
  repeat' split
  all_goals omega
theorem IsUp.next {a k : Nat} {l l' : List α} (h : IsUp a k l l') (hak : a ≤ k) (hl : k + 1 < l'.length) : IsUp a (k + 1) l (swp l' k (k + 1)) := fun x => by
  rw [swp_get (by omega) hl]
  rw [h, h, h]
  repeat' split
  all_goals first | omega | rfl | (congr 1 <;> omega)
/-- An element goes down from m to k. -/
def IsDown (m k : Nat) (l l' : List α) : Prop := ∀ x, l'.getD x default = l.getD (if x < k then x else if x = k then m else if x ≤ m then x - 1 else x) default
theorem IsDown.start {m : Nat} {l : List α} : IsDown m m l l := fun x => by
  congr 1
  repeat' split
  all_goals omega
theorem IsDown.next {m k : Nat} {l l' : List α} (h : IsDown m k l l') (hk : 0 < k ∧ k ≤ m) (hl : m < l'.length) : IsDown m (k - 1) l (swp l' k (k - 1)) := fun x => by
  rw [swp_get (by omega) (by omega)]
  rw [h, h, h]
  repeat' split
  all_goals first | omega | rfl | (congr 1 <;> omega)
end

/-- By a key, and by number where the keys are the same. -/
def lexi (key : Int → Int) (x y : Int) : Prop := key x < key y ∨ (key x = key y ∧ x < y)
theorem lexi_ord (key : Int → Int) : WOrd (lexi key) where
  irr x h := by unfold lexi at h; omega
  tr h1 h2 := by unfold lexi at *; omega
  ntr h1 h2 := by unfold lexi at *; omega
/-- Two runs; what is in the first has the lesser numbers. -/
structure Mrg (key : Int → Int) (a m b : Nat) (l : List Int) : Prop where
  sl : Srt (lexi key) a m l
  sr : Srt (lexi key) m b l
  cr : ∀ p q, a ≤ p → p < m → m ≤ q → q < b → l.getD p default < l.getD q default

theorem Mrg.up {key : Int → Int} {a b i : Nat} {l l' : List Int} (h : Mrg key a (a + 1) b l) (hi : a + 1 ≤ i ∧ i ≤ b) (h1 : ∀ k, a + 1 ≤ k → k < i → lexi key (l.getD k default) (l.getD a default)) (h2 : ∀ k, i ≤ k → k < b → ¬ lexi key (l.getD k default) (l.getD a default)) (u : IsUp a (i - 1) l l') : Srt (lexi key) a b l' := by
  have W := lexi_ord key
  have u1 : ∀ x, a ≤ x → x < i - 1 → l'.getD x default = l.getD (x + 1) default := fun x q1 q2 => by rw [u x, if_neg (by omega), if_pos q2]
  have u2 : l'.getD (i - 1) default = l.getD a default := by
    rw [u, if_neg (by omega), if_neg (by omega), if_pos rfl]
  have u3 : ∀ x, i - 1 < x → l'.getD x default = l.getD x default := fun x q1 => by rw [u x, if_neg (by omega), if_neg (by omega), if_neg (by omega)]
  intro p q q1 q2 q3
  rcases Nat.lt_trichotomy p (i - 1) with e1 | e1 | e1
  · rw [u1 p q1 e1]
    rcases Nat.lt_trichotomy q (i - 1) with e2 | e2 | e2
    · rw [u1 q (by omega) e2]; exact h.sr _ _ (by omega) (by omega) (by omega)
    · rw [e2, u2]; exact W.asym (h1 _ (by omega) (by omega))
    · rw [u3 q e2]; exact h.sr _ _ (by omega) (by omega) (by omega)
  · rw [e1, u2, u3 q (by omega)]; exact h2 _ (by omega) q3
  · rw [u3 p e1, u3 q (by omega)]; exact h.sr _ _ (by omega) (by omega) (by omega)
theorem Mrg.down {key : Int → Int} {a m i : Nat} {l l' : List Int} (h : Mrg key a m (m + 1) l) (hi : a ≤ i ∧ i ≤ m) (h1 : ∀ k, a ≤ k → k < i → ¬ lexi key (l.getD m default) (l.getD k default)) (h2 : ∀ k, i ≤ k → k < m → lexi key (l.getD m default) (l.getD k default)) (u : IsDown m i l l') : Srt (lexi key) a (m + 1) l' := by
  have W := lexi_ord key
  have u1 : ∀ x, x < i → l'.getD x default = l.getD x default := fun x q1 => by rw [u x, if_pos q1]
  have u2 : l'.getD i default = l.getD m default := by
    rw [u, if_neg (by omega), if_pos rfl]
  have u3 : ∀ x, i < x → x ≤ m → l'.getD x default = l.getD (x - 1) default := fun x q1 q2 => by rw [u x, if_neg (by omega), if_neg (by omega), if_pos q2]
  intro p q q1 q2 q3
  rcases Nat.lt_trichotomy p i with e1 | e1 | e1
  · rw [u1 p e1]
    rcases Nat.lt_trichotomy q i with e2 | e2 | e2
    · rw [u1 q e2]; exact h.sl _ _ (by omega) (by omega) (by omega)
    · rw [e2, u2]; exact h1 _ (by omega) (by omega)
    · rw [u3 q e2 (by omega)]; exact h.sl _ _ (by omega) (by omega) (by omega)
  · rw [e1, u2, u3 q (by omega) (by omega)]; exact W.asym (h2 _ (by omega) (by omega))
  · rw [u3 p e1 (by omega), u3 q (by omega) (by omega)]; exact h.sl _ _ (by omega) (by omega) (by omega)

/-- The search: at s the low end, at r the high one. -/
structure SrI (key : Int → Int) (a m b mid s r : Nat) (l : List Int) : Prop where
  lo : (if m > mid then mid + m - b else a) ≤ s
  sr : s ≤ r
  hi : r ≤ (if m > mid then mid else m)
  low : (if m > mid then mid + m - b else a) < s → ¬ lexi key (l.getD (mid + m - s) default) (l.getD (s - 1) default)
  high : r < (if m > mid then mid else m) → lexi key (l.getD (mid + m - 1 - r) default) (l.getD r default)
theorem Mrg.search {key : Int → Int} {a m b mid s : Nat} {l l2 : List Int} (h : Mrg key a m b l) (hm : mid = (a + b) / 2) (hab : a < m ∧ m < b) (I : SrI key a m b mid s s l)
    (hr : IsRot s m (mid + m - s) l l2) : (a ≤ s ∧ s ≤ mid ∧ s ≤ m ∧ m ≤ mid + m - s ∧ mid + m - s ≤ b) ∧ Mrg key a s mid l2 ∧ Mrg key mid (mid + m - s) b l2 ∧ ∀ x y, a ≤ x → x < mid → mid ≤ y → y < b → ¬ lexi key (l2.getD y default) (l2.getD x default) := by
  have W := lexi_ord key
  have lo := I.lo
  have hi := I.hi
  have low := I.low
  have high := I.high
  have hs : a ≤ s ∧ s ≤ mid ∧ s ≤ m ∧ m ≤ mid + m - s ∧ mid + m - s ≤ b := by
    split at lo <;> split at hi <;> omega
  have r1 : ∀ k, k < s → l2.getD k default = l.getD k default := fun k hk => by rw [hr k]; unfold rot; rw [if_pos hk]
  have r2 : ∀ k, s ≤ k → k < mid → l2.getD k default = l.getD (k + (m - s)) default := fun k h1 h2 => by rw [hr k]; unfold rot; rw [if_neg (by omega), if_pos (by omega)]
  have r3 : ∀ k, mid ≤ k → k < mid + m - s → l2.getD k default = l.getD (k - (mid - s)) default := fun k h1 h2 => by
    rw [hr k]; unfold rot; rw [if_neg (by omega), if_neg (by omega), if_pos (by omega)]; congr 1; omega
  have r4 : ∀ k, mid + m - s ≤ k → l2.getD k default = l.getD k default := fun k h1 => by rw [hr k]; unfold rot; rw [if_neg (by omega), if_neg (by omega), if_neg (by omega)]
  refine ⟨hs, ⟨fun i j q1 q2 q3 => ?_, fun i j q1 q2 q3 => ?_, fun p q q1 q2 q3 q4 => ?_⟩, ⟨fun i j q1 q2 q3 => ?_, fun i j q1 q2 q3 => ?_, fun p q q1 q2 q3 q4 => ?_⟩, fun x y q1 q2 q3 q4 => ?_⟩
  · rw [r1 i (by omega), r1 j q3]; exact h.sl i j q1 q2 (by omega)
  · rw [r2 i q1 (by omega), r2 j (by omega) q3]; exact h.sr _ _ (by omega) (by omega) (by omega)
  · rw [r1 p q2, r2 q q3 q4]; exact h.cr _ _ q1 (by omega) (by omega) (by omega)
  · rw [r3 i q1 (by omega), r3 j (by omega) q3]; exact h.sl _ _ (by omega) (by omega) (by omega)
  · rw [r4 i q1, r4 j (by omega)]; exact h.sr _ _ (by omega) q2 q3
  · rw [r3 p q1 q2, r4 q q3]; exact h.cr _ _ (by omega) (by omega) (by omega) q4
  · -- what is behind the middle of the first run, or of the second one
    have le_of : ∀ {i j : Nat}, a ≤ i → i ≤ j → j < m → ¬ lexi key (l.getD j default) (l.getD i default) := fun {i j} g1 g2 g3 => by
      rcases Nat.lt_or_ge i j with q | q
      · exact h.sl i j g1 q g3
      · have : i = j := by omega
        subst this; exact W.irr _
    have le_of2 : ∀ {i j : Nat}, m ≤ i → i ≤ j → j < b → ¬ lexi key (l.getD j default) (l.getD i default) := fun {i j} g1 g2 g3 => by
      rcases Nat.lt_or_ge i j with q | q
      · exact h.sr i j g1 q g3
      · have : i = j := by omega
        subst this; exact W.irr _
    rcases Nat.lt_or_ge x s with e1 | e1
    · rw [r1 x e1]
      rcases Nat.lt_or_ge y (mid + m - s) with e2 | e2
      · rw [r3 y q3 e2]; exact le_of q1 (by omega) (by omega)
      · rw [r4 y e2]
        have g : ¬ lexi key (l.getD (mid + m - s) default) (l.getD (s - 1) default) := low (by split <;> omega)
        have g1 : ¬ lexi key (l.getD (s - 1) default) (l.getD x default) := le_of q1 (by omega) (by omega)
        have g2 : ¬ lexi key (l.getD y default) (l.getD (mid + m - s) default) := le_of2 (by omega) e2 q4
        exact W.ntr (W.ntr g1 g) g2
    · rw [r2 x e1 q2]
      rcases Nat.lt_or_ge y (mid + m - s) with e2 | e2
      · rw [r3 y q3 e2]
        have g : lexi key (l.getD (mid + m - 1 - s) default) (l.getD s default) := high (by split <;> omega)
        have g1 : ¬ lexi key (l.getD (y - (mid - s)) default) (l.getD s default) := le_of (by omega) (by omega) (by omega)
        have g2 : ¬ lexi key (l.getD (mid + m - 1 - s) default) (l.getD (x + (m - s)) default) := le_of2 (by omega) (by omega) (by omega)
        exact W.ntr (W.ntr g2 (W.asym g)) g1
      · rw [r4 y e2]; exact le_of2 (by omega) (by omega) q4
end Go.Proofs.Xx

/-
  Sorting by a key, in place: insertion.
-/
namespace Go.Proofs.Xx
open Go Go.Proofs
set_option linter.unusedSimpArgs false
set_option linter.unusedVariables false
set_option maxRecDepth 100000

/-- The function g compares what p holds for by a key. -/
def KeyFn (h0 : AH) (g : Nat) (cap : List Value) (key : Int → Int) (p : Int → Prop) : Prop :=
  ∀ h x y, Ext h0 h → p x → p y → Fn Tryz.prog Xh g (.int .i64 x :: .int .i64 y :: cap) h (fun v h' => ∃ d, v = .int .i64 d ∧ (d < 0 ↔ key x < key y) ∧ Hs h h' [])
def Inc (a b : Nat) (l : List Int) : Prop := ∀ i j, a ≤ i → i < j → j < b → l.getD i default < l.getD j default
abbrev cvV (g : Nat) (cap : List Value) : Value := .func (.func g) #[] cap.toArray

theorem toNat_pred (j : Nat) : ((j : Int) - 1).toNat = j - 1 := by omega
theorem toNat_succ (j : Nat) : ((j : Int) + 1).toNat = j + 1 := by omega
theorem toNat_sum (i j : Nat) : ((i : Int) + (j : Int)).toNat = i + j := by omega
end Go.Proofs.Xx

/-
  Words: the length of a number, random words.
-/
namespace Go.Proofs.Xx
open Go Go.Proofs
set_option linter.unusedSimpArgs false
set_option linter.unusedVariables false
set_option maxRecDepth 100000

def lenTab : List UInt8 := [0, 1] ++ List.replicate 2 2 ++ List.replicate 4 3 ++ List.replicate 8 4 ++ List.replicate 16 5 ++ List.replicate 32 6 ++ List.replicate 64 7 ++ List.replicate 128 8
theorem lenTab_ok : ∀ n, n < 64 → 0 < n → (lenTab.getD n 0).toNat ≤ 6 ∧ n < 2 ^ (lenTab.getD n 0).toNat ∧ 2 ^ (lenTab.getD n 0).toNat ≤ 2 * n := by decide +kernel
theorem lenTab_len : lenTab.length = 256 := by decide +kernel
theorem len64_ok {h0 : AH} (w : WfH h0) (n : Nat) (hn : n < 64) : Fn Tryz.prog Xh 189 [.int .u64 n] h0 (fun v h' => v = .int .i64 ((lenTab.getD n 0).toNat : Int) ∧ Hs h0 h' []) := by
  have S := Hs.start w
  have hl := lenTab_len
  have hb : (lenTab.getD n 0).toNat < 256 := UInt8.toNat_lt _
  refine Fn_K rfl Tryz.func189 rfl rfl ?_
  all_goals (repeat' (first | refine K_seq ?_ | refine k_cond rfl ?_ | refine K_skip ?_ | refine K_exit ?_ | refine k_block ?_ | refine K_scope ?_ | (refine K_region (id := 0) ?_; refine mv ?_; refine KO_nil ?_) | (refine K_region (id := 1) ?_; refine mv ?_; (first | refine cT ?_ | refine cF ?_ | (refine cS ?_ ?_ <;> intro hc)) <;> (refine KO_nil ?_)) | (refine K_region (id := 4) ?_; refine mv ?_; (first | refine cT ?_ | refine cF ?_ | (refine cS ?_ ?_ <;> intro hc)) <;> (refine KO_nil ?_)) | (refine K_region (id := 7) ?_; refine mv ?_; (first | refine cT ?_ | refine cF ?_ | (refine cS ?_ ?_ <;> intro hc)) <;> (refine KO_nil ?_))))
  refine K_region (id := 10) ?_
  refine mv ?_; refine mv ?_; refine cU ?_
  refine ti (l := lenTab) ?_
  rw [Int.toNat_natCast]
  (first | refine cI ?_ | refine vl ?_); (first | refine ad ?_ | refine vl ?_); refine mv ?_; refine KO_nil ?_
  all_goals (repeat' (first | refine K_seq ?_ | refine k_cond rfl ?_ | refine K_skip ?_ | refine K_exit ?_ | refine k_block ?_ | refine K_scope ?_ | (refine K_region (id := 0) ?_; refine mv ?_; refine KO_nil ?_) | (refine K_region (id := 1) ?_; refine mv ?_; (first | refine cT ?_ | refine cF ?_ | (refine cS ?_ ?_ <;> intro hc)) <;> (refine KO_nil ?_)) | (refine K_region (id := 2) ?_; refine mv ?_; (first | refine sR1 ?_ | refine sR ?_); refine mv ?_; refine KO_nil ?_) | (refine K_region (id := 3) ?_; refine mv ?_; refine KO_nil ?_) | (refine K_region (id := 4) ?_; refine mv ?_; (first | refine cT ?_ | refine cF ?_ | (refine cS ?_ ?_ <;> intro hc)) <;> (refine KO_nil ?_)) | (refine K_region (id := 5) ?_; refine mv ?_; (first | refine sR1 ?_ | refine sR ?_); refine mv ?_; refine KO_nil ?_) | (refine K_region (id := 6) ?_; refine mv ?_; (first | refine ad ?_ | refine vl ?_); refine mv ?_; refine KO_nil ?_) | (refine K_region (id := 7) ?_; refine mv ?_; (first | refine cT ?_ | refine cF ?_ | (refine cS ?_ ?_ <;> intro hc)) <;> (refine KO_nil ?_)) | (refine K_region (id := 8) ?_; refine mv ?_; (first | refine sR1 ?_ | refine sR ?_); refine mv ?_; refine KO_nil ?_) | (refine K_region (id := 9) ?_; refine mv ?_; (first | refine ad ?_ | refine vl ?_); refine mv ?_; refine KO_nil ?_) | (refine K_region (id := 10) ?_; refine mv ?_; refine mv ?_; (first | refine cU ?_ | refine vl ?_); (first | refine ti ?_ | refine vl ?_); (first | refine cI ?_ | refine vl ?_); (first | refine ad ?_ | refine vl ?_); refine mv ?_; refine KO_nil ?_)))
  refine K_ret ⟨_, rfl, ?_⟩
  exact ⟨by show Value.int .i64 (0 + _) = _; rw [Int.zero_add], S⟩
theorem len_ok {h0 : AH} (w : WfH h0) (n : Nat) (hn : n < 64) : Fn Tryz.prog Xh 141 [.int .u64 n] h0 (fun v h' => v = .int .i64 ((lenTab.getD n 0).toNat : Int) ∧ Hs h0 h' []) := by
  have S := Hs.start w
  refine Fn_K rfl Tryz.func141 rfl rfl ?_
  all_goals (repeat' (first | refine K_seq ?_ | refine k_cond rfl ?_ | refine K_skip ?_ | refine K_exit ?_ | refine k_block ?_ | refine K_scope ?_ | (refine K_region (id := 0) ?_; refine mv ?_; refine KO_nil ?_) | (refine K_region (id := 2) ?_; refine mv ?_)))
  (refine KO_fn rfl rfl rfl rfl rfl ((len64_ok S.wf n hn).mono ?_); rintro _ h ⟨rfl, x⟩) <;> (replace S := S.join0 x; clear x; refine mv ?_; refine KO_nil ?_)
  all_goals (repeat' (first | refine K_seq ?_ | refine k_cond rfl ?_ | refine K_skip ?_ | refine K_exit ?_ | refine k_block ?_ | refine K_scope ?_ | (refine K_region (id := 0) ?_; refine mv ?_; refine KO_nil ?_) | (refine K_region (id := 1) ?_; refine mv ?_) | (refine K_region (id := 2) ?_; refine mv ?_)))
  refine K_ret ⟨_, rfl, ?_⟩
  exact ⟨rfl, S⟩
theorem npot_ok {h0 : AH} (w : WfH h0) (n : Nat) (hn : 0 < n ∧ n < 64) : Fn Tryz.prog Xh 219 [.int .i64 n] h0 (fun v h' => ∃ P : Int, v = .int .u64 P ∧ (n : Int) < P ∧ P ≤ 2 * n ∧ Hs h0 h' []) := by
  have S := Hs.start w
  have hk := lenTab_ok n hn.2 hn.1
  refine Fn_K rfl Tryz.func219 rfl rfl ?_
  all_goals (repeat' (first | refine K_seq ?_ | refine k_cond rfl ?_ | refine K_skip ?_ | refine K_exit ?_ | refine k_block ?_ | refine K_scope ?_ | (refine K_region (id := 0) ?_; refine mv ?_; refine KO_nil ?_) | (refine K_region (id := 1) ?_; refine mv ?_; (first | refine cW ?_ | refine vl ?_))))
  (refine KO_fn rfl rfl rfl rfl rfl ((len_ok S.wf n hn.2).mono ?_); rintro _ h ⟨rfl, x⟩) <;> (replace S := S.join0 x; clear x; (first | refine sL ?_ | (refine aW ?_; intro r1 hr1 hr2)); refine mv ?_; refine KO_nil ?_)
  all_goals (repeat' (first | refine K_seq ?_ | refine k_cond rfl ?_ | refine K_skip ?_ | refine K_exit ?_ | refine k_block ?_ | refine K_scope ?_))
  refine K_ret ⟨_, rfl, ?_⟩
  refine ⟨_, rfl, ?_, ?_, S⟩
  · have : (n : Int) < ((2 ^ (lenTab.getD n 0).toNat : Nat) : Int) := by exact_mod_cast hk.2.1
    simpa using this
  · have : ((2 ^ (lenTab.getD n 0).toNat : Nat) : Int) ≤ ((2 * n : Nat) : Int) := by exact_mod_cast hk.2.2
    simpa using this
theorem xnext_ok {h0 h : AH} {rs : List Rs} {bs : Nat} {z : Int} (S : Hs h0 h (.blk bs [.int .u64 z] 188 :: rs)) (hz : 0 ≤ z ∧ z ≤ 18446744073709551615) : Fn Tryz.prog Xh 220 [.pointer (some ⟨bs, 0, none⟩)] h (fun r h' => ∃ y, r = .int .u64 y ∧ (0 ≤ y ∧ y ≤ 18446744073709551615) ∧ Hs h0 h' (.blk bs [.int .u64 y] 188 :: rs)) := by
  refine Fn_K rfl Tryz.func220 rfl rfl ?_
  all_goals (repeat' (first | refine K_seq ?_ | refine k_cond rfl ?_ | refine K_skip ?_ | refine K_exit ?_ | refine k_block ?_ | refine K_scope ?_ | (refine K_region (id := 0) ?_; refine mv ?_; refine KO_nil ?_) | (refine K_draw (id := 1) ?_; refine mv ?_; refine vl ?_; (first | refine lB S rfl rfl ?_ | refine lES2 S rfl rfl ?_ | refine lEB S ?_ | refine lH S ?_); refine mv ?_; refine vl ?_; (first | refine lB S rfl rfl ?_ | refine lES2 S rfl rfl ?_ | refine lEB S ?_ | refine lH S ?_); (first | refine sL ?_ | (refine aW ?_; intro r1 hr1 hr2)); (first | refine sL ?_ | (refine aW ?_; intro r1 hr1 hr2)); refine vl ?_; (first | (refine sB S rfl rfl ?_; clear S; intro h S) | (refine sE2 S rfl rfl ?_; clear S; intro h S)); refine KO_nil ?_) | (refine K_draw (id := 2) ?_; refine mv ?_; refine vl ?_; (first | refine lB S rfl rfl ?_ | refine lES2 S rfl rfl ?_ | refine lEB S ?_ | refine lH S ?_); refine mv ?_; refine vl ?_; (first | refine lB S rfl rfl ?_ | refine lES2 S rfl rfl ?_ | refine lEB S ?_ | refine lH S ?_); (first | refine sR1 ?_ | refine sR ?_); (first | refine sL ?_ | (refine aW ?_; intro r1 hr1 hr2)); refine vl ?_; (first | (refine sB S rfl rfl ?_; clear S; intro h S) | (refine sE2 S rfl rfl ?_; clear S; intro h S)); refine KO_nil ?_) | (refine K_draw (id := 3) ?_; refine mv ?_; refine vl ?_; (first | refine lB S rfl rfl ?_ | refine lES2 S rfl rfl ?_ | refine lEB S ?_ | refine lH S ?_); refine mv ?_; refine vl ?_; (first | refine lB S rfl rfl ?_ | refine lES2 S rfl rfl ?_ | refine lEB S ?_ | refine lH S ?_); (first | refine sL ?_ | (refine aW ?_; intro r1 hr1 hr2)); (first | refine sL ?_ | (refine aW ?_; intro r1 hr1 hr2)); refine vl ?_; (first | (refine sB S rfl rfl ?_; clear S; intro h S) | (refine sE2 S rfl rfl ?_; clear S; intro h S)); refine KO_nil ?_) | (refine K_region (id := 4) ?_; refine mv ?_; refine vl ?_; (first | refine lB S rfl rfl ?_ | refine lES2 S rfl rfl ?_ | refine lEB S ?_ | refine lH S ?_); refine mv ?_; refine KO_nil ?_)))
  refine K_ret ⟨_, rfl, ?_⟩
  exact ⟨_, rfl, by omega, S⟩
end Go.Proofs.Xx

/-
  Parting a range by an element.
-/
namespace Go.Proofs.Xx
set_option linter.unusedVariables false
section
variable {α : Type} [Inhabited α] {lt : α → α → Prop}
/-- What holds for all elements holds for them in another order. -/
theorem Sw.lift {a b : Nat} {l l' : List α} (s : Sw a b l l') {p : α → Prop} (h : ∀ k, k < l.length → p (l.getD k default)) (hb : b ≤ l.length) : ∀ k, k < l'.length → p (l'.getD k default) := fun k hk => by
  rw [s.len] at hk
  by_cases q : a ≤ k ∧ k < b
  · obtain ⟨m, m1, m2, m3⟩ := s.in_ q.1 q.2
    rw [m3]; exact h m (by omega)
  · rw [s.out (by omega)]; exact h k hk
/-- Heaps do not see what is outside. -/
theorem Heap.pop {f i : Nat} {l : List α} (h : Heap lt f 0 (i + 1) l) (hl : f + i < l.length) : Heap lt f 1 i (swp l f (f + i)) := by
  intro k hk
  have g := swp_get (l := l) (i := f) (j := f + i) (by omega) (by omega)
  have hh := h k (Nat.zero_le _)
  refine ⟨fun q => ?_, fun q => ?_⟩
  · rw [g, g, if_neg (by omega), if_neg (by omega), if_neg (by omega), if_neg (by omega)]; exact hh.1 (by omega)
  · rw [g, g, if_neg (by omega), if_neg (by omega), if_neg (by omega), if_neg (by omega)]; exact hh.2 (by omega)
theorem HeapI.done {f n b : Nat} {l : List α} (h : HeapI lt f 0 n l) (hb : b = f + n) : Srt lt f b l := fun i j h1 h2 h3 => by
  have := h.2 (i - f) (j - f) (by omega) (Nat.zero_le _) (by omega)
  rwa [show f + (j - f) = j by omega, show f + (i - f) = i by omega] at this

/-- [a, b), x at its front, is being parted: before i less than x, behind j not less. -/
structure PartI (lt : α → α → Prop) (a b : Nat) (x : α) (i j : Nat) (m : List α) : Prop where
  bi : a < i ∧ i ≤ j + 1 ∧ j < b
  lo : ∀ k, a < k → k < i → lt (m.getD k default) x
  hi : ∀ k, j < k → k < b → ¬ lt (m.getD k default) x
  x : m.getD a default = x
theorem PartI.swap {a b : Nat} {x : α} {i j : Nat} {m : List α} (h : PartI lt a b x i j m) (hb : b ≤ m.length) (hij : i ≤ j) (h1 : ¬ lt (m.getD i default) x) (h2 : lt (m.getD j default) x) : i < j ∧ PartI lt a b x (i + 1) (j - 1) (swp m i j) := by
  have hbi := h.bi
  have hne : i ≠ j := fun q => by subst q; exact h1 h2
  have g := swp_get (l := m) (i := i) (j := j) (by omega) (by omega)
  refine ⟨by omega, ⟨by omega, fun k q1 q2 => ?_, fun k q1 q2 => ?_, ?_⟩⟩
  · rw [g, if_neg (by omega)]
    split
    · exact h2
    · exact h.lo k q1 (by omega)
  · rw [g]
    split
    · exact h1
    · rw [if_neg (by omega)]; exact h.hi k (by omega) q2
  · rw [g, if_neg (by omega), if_neg (by omega)]; exact h.x
theorem PartI.done (W : WOrd lt) {a b : Nat} {x : α} {i j : Nat} {m : List α} (h : PartI lt a b x i j m) (hb : b ≤ m.length) (hij : j < i) : Parted lt a b j (swp m j a) := by
  have hbi := h.bi
  have g := swp_get (l := m) (i := j) (j := a) (by omega) (by omega)
  have gj : (swp m j a).getD j default = x := by
    rw [g]
    split
    · rename_i e; rw [e]; exact h.x
    · rw [if_pos rfl]; exact h.x
  refine ⟨fun k q1 q2 => ?_, fun k q1 q2 => ?_⟩
  · rw [gj, g]
    split
    · exact h.lo j (by omega) (by omega)
    · rw [if_neg (by omega)]; exact h.lo k (by omega) (by omega)
  · rw [gj, g, if_neg (by omega), if_neg (by omega)]; exact h.hi k q1 q2
/-- [a, b), x at its front, is being parted: before i not greater than x, behind j greater. -/
structure EqI (lt : α → α → Prop) (a b : Nat) (x : α) (i j : Nat) (m : List α) : Prop where
  bi : a < i ∧ i ≤ j + 1 ∧ j < b
  lo : ∀ k, a < k → k < i → ¬ lt x (m.getD k default)
  hi : ∀ k, j < k → k < b → lt x (m.getD k default)
  x : m.getD a default = x
theorem EqI.swap {a b : Nat} {x : α} {i j : Nat} {m : List α} (h : EqI lt a b x i j m) (hb : b ≤ m.length) (hij : i ≤ j) (h1 : lt x (m.getD i default)) (h2 : ¬ lt x (m.getD j default)) : i < j ∧ EqI lt a b x (i + 1) (j - 1) (swp m i j) := by
  have hbi := h.bi
  have hne : i ≠ j := fun q => by subst q; exact h2 h1
  have g := swp_get (l := m) (i := i) (j := j) (by omega) (by omega)
  refine ⟨by omega, ⟨by omega, fun k q1 q2 => ?_, fun k q1 q2 => ?_, ?_⟩⟩
  · rw [g, if_neg (by omega)]
    split
    · exact h2
    · exact h.lo k q1 (by omega)
  · rw [g]
    split
    · exact h1
    · rw [if_neg (by omega)]; exact h.hi k (by omega) q2
  · rw [g, if_neg (by omega), if_neg (by omega)]; exact h.x
/-- A step of quicksort's loop, all elements before a' and behind b' in order. -/
theorem DoneI.low {a b a' b' : Nat} {l : List α} (h : DoneI lt a b a' b' l) (h1 : a < a') (h2 : b' ≤ b) : ∀ k, a' ≤ k → k < b' → ¬ lt (l.getD k default) (l.getD (a' - 1) default) := fun k q1 q2 => h (a' - 1) k (by omega) (by omega) (by omega) (.inl (by omega))
end
end Go.Proofs.Xx

/-
  Sorting in place, by the order of ints.
-/
namespace Go.Proofs.Xx
open Go Go.Proofs
set_option linter.unusedSimpArgs false
set_option linter.unusedVariables false
set_option maxRecDepth 100000

abbrev ltI (x y : Int) : Prop := x < y
theorem isNaN_ok {h0 : AH} (w : WfH h0) (x : Int) : Fn Tryz.prog Xh 142 [.int .i64 x] h0 (fun v h' => v = .bool false ∧ Hs h0 h' []) := by
  have S := Hs.start w
  refine Fn_K rfl Tryz.func142 rfl rfl ?_
  all_goals (repeat' (first | refine K_seq ?_ | refine k_cond rfl ?_ | refine K_skip ?_ | refine K_exit ?_ | refine k_block ?_ | refine K_scope ?_ | (refine K_region (id := 0) ?_; refine mv ?_; refine KO_nil ?_) | (refine K_region (id := 1) ?_; refine mv ?_; refine mv ?_; (first | refine cT ?_ | refine cF ?_ | (refine cS ?_ ?_ <;> intro hc)) <;> (refine mv ?_; refine KO_nil ?_))))
  refine K_ret ⟨_, rfl, ?_⟩
  exact ⟨rfl, S⟩
end Go.Proofs.Xx

/-
  Quicksort.
-/
namespace Go.Proofs.Xx
open Go Go.Proofs
set_option linter.unusedSimpArgs false
set_option linter.unusedVariables false
set_option maxRecDepth 100000

end Go.Proofs.Xx

/-
  What the arguments read as is kept in every world whose old blocks are the same.
-/
namespace Go.Proofs.Xx
open Go Go.RowKit
set_option linter.unusedSimpArgs false
set_option linter.unusedVariables false

section
variable {H : Type} {enc : TypeId × Value → H} {P : Program} {W W' : World}

theorem mapM_keep {α β : Type} {f g : α → Option β} : ∀ {l : List α} {r : List β}, l.mapM f = some r → (∀ a b, a ∈ l → b ∈ r → f a = some b → g a = some b) → l.mapM g = some r := by
  intro l
  induction l with
  | nil => intro r h _; simpa using h
  | cons a l ih =>
    intro r h hk
    rw [List.mapM_cons] at h ⊢
    cases hf : f a with
    | none => rw [hf] at h; cases h
    | some b =>
      rw [hf] at h
      cases hm : l.mapM f with
      | none => rw [hm] at h; cases h
      | some r' =>
        rw [hm] at h
        simp at h
        subst h
        rw [hk a b (by simp) (by simp) hf, ih hm fun x y hx hy => hk x y (by simp [hx]) (by simp [hy])]
        rfl

theorem cells_keep (hb : ∀ k, k < W.heap.size → W'.heap[k]? = W.heap[k]?) {base n : Nat} {a : Addr} {cs : List Value} (h : W.cells? base a n = some cs) : W'.cells? base a n = some cs := by
  unfold World.cells? at h ⊢
  split at h
  · rename_i hba
    rw [if_pos hba]
    refine mapM_keep h fun i v _ _ hv => ?_
    have hlt : (a.add i).block < W.heap.size := by
      rcases Nat.lt_or_ge (a.add i).block W.heap.size with q | q
      · exact q
      · have : W.cell? (a.add i) = none := by
          unfold World.cell?
          rw [Array.getElem?_eq_none q]
        rw [this] at hv; cases hv
    rw [← hv]
    exact World.cell?_of_block (w := W) (hb _ hlt)
  · cases h

/-! ### arguments of any plain type -/
def tiles (P : Program) : List Field → Nat → Nat → Bool
  | [], at_, n => Nat.beq at_ n
  | f :: r, at_, n => Nat.beq f.offset at_ && tiles P r (at_ + P.cellsOf f.type) n
def plainT (P : Program) : Nat → TypeId → Bool
  | 0, _ => false
  | m + 1, t => match P.underlying t with
    | some .bool | some .string => Nat.beq (P.cellsOf t) 1
    | some (.int _) => Nat.beq (P.cellsOf t) 1
    | some (.slice e) => Nat.beq (P.cellsOf t) 1 && (plainT P m e && !Nat.beq (P.cellsOf e) 0)
    | some (.struct fs) => fs.toList.all (fun f => plainT P m f.type) && tiles P fs.toList 0 (P.cellsOf t)
    | some (.array n e) => plainT P m e && Nat.beq (P.cellsOf t) (n * P.cellsOf e)
    | _ => false


theorem trod_keep (hb : ∀ k, k < W.heap.size → W'.heap[k]? = W.heap[k]?) {base : Nat} {sp : Nat → Bool} {held : Bool} : ∀ (fuel m : Nat) (t : TypeId) (cs : List Value) (x : DataW H × List MemPlace), plainT P m t = true →
    DataW.trod enc P W base (fun _ => true) held fuel t cs = some x → (∀ p ∈ x.2, sp p.block = true) → DataW.trod enc P W' base sp held fuel t cs = some x := by
  intro fuel
  induction fuel with
  | zero => intro m t cs x _ h _; cases h
  | succ fuel ih =>
    intro m t cs x hp h hsp
    cases m with
    | zero => cases hp
    | succ m =>
    unfold plainT at hp
    cases hu : P.underlying t with
    | none => rw [hu] at hp; cases hp
    | some u =>
      rw [hu] at hp
      cases u with
      | bool => obtain ⟨b, rfl, rfl⟩ := DataW.trod_bool hu h; unfold DataW.trod; rw [hu]
      | int k =>
        obtain ⟨b, rfl, rfl, hwf⟩ := DataW.trod_int hu h
        unfold DataW.trod; rw [hu]
        simp [hwf]
      | string =>
        obtain ⟨b, rfl, rfl, hs⟩ := DataW.trod_string hu h
        unfold DataW.trod; rw [hu]
        simp [hs]
      | struct fs =>
        simp only [Bool.and_eq_true, List.all_eq_true] at hp
        unfold DataW.trod at h ⊢
        rw [hu] at h ⊢
        simp only at h ⊢
        split at h
        · rename_i hc
          rw [if_pos hc]
          simp only [Option.map_eq_some_iff] at h ⊢
          obtain ⟨xs, h1, rfl⟩ := h
          refine ⟨xs, mapM_keep h1 fun f y hf hy hq => ih m _ _ _ (hp.1 f hf) hq fun p hp => hsp p ?_, rfl⟩
          simp only [List.mem_flatMap]
          exact ⟨y, hy, hp⟩
        · cases h
      | array n e =>
        simp only [Bool.and_eq_true] at hp
        unfold DataW.trod at h ⊢
        rw [hu] at h ⊢
        simp only at h ⊢
        split at h
        · rename_i hc
          rw [if_pos hc]
          simp only [Option.map_eq_some_iff] at h ⊢
          obtain ⟨xs, h1, rfl⟩ := h
          refine ⟨xs, mapM_keep h1 fun f y hf hy hq => ih m _ _ _ hp.1 hq fun p hp => hsp p ?_, rfl⟩
          simp only [List.mem_flatMap]
          exact ⟨y, hy, hp⟩
        · cases h
      | slice e =>
        simp only [Bool.and_eq_true, Bool.not_eq_true'] at hp
        have hz : P.cellsOf e ≠ 0 := fun q => by have := hp.2.2; rw [q] at this; simp at this
        rcases DataW.trod_slice hu h with ⟨rfl, rfl⟩ | ⟨a, len, cap, -, -, -, -, rfl, -⟩
        · unfold DataW.trod; rw [hu]; rfl
        · unfold DataW.trod at h ⊢
          rw [hu] at h ⊢
          simp only at h ⊢
          split at h
          · rename_i hc
            rw [if_pos hc]
            simp only [if_true, Option.map_eq_some_iff, Option.bind_eq_some_iff] at h ⊢
            obtain ⟨elems, h1, rest, h2, rfl⟩ := h
            have key : ∀ i y, y ∈ elems ++ rest → (W.cells? base (a.add (i * P.cellsOf e)) (P.cellsOf e)).bind (DataW.trod enc P W base (fun _ => true) held fuel e) = some y →
                (W'.cells? base (a.add (i * P.cellsOf e)) (P.cellsOf e)).bind (DataW.trod enc P W' base sp held fuel e) = some y := by
              intro i y hy hq
              rw [Option.bind_eq_some_iff] at hq ⊢
              obtain ⟨cs', q1, q2⟩ := hq
              refine ⟨cs', cells_keep hb q1, ih m _ _ _ hp.2.1 q2 fun p hp => hsp p ?_⟩
              simp only [List.mem_append, List.mem_flatMap]
              exact .inr ⟨y, by simpa using hy, hp⟩
            refine ⟨elems, mapM_keep h1 fun i y _ hy hq => key i y (by simp [hy]) hq, rest, ?_, rfl⟩
            cases hs : sp a.block with
            | true =>
              simp only [if_true]
              exact mapM_keep h2 fun i y _ hy hq => key (len + i) y (by simp [hy]) hq
            | false =>
              simp only [Bool.false_eq_true, if_false]
              cases rest with
              | nil => rfl
              | cons y rest =>
                have hp' : sp a.block = true := by
                  refine hsp (.cell a.block (a.off + 0)) ?_
                  simp only [List.mem_append]
                  refine .inl ?_
                  unfold MemPlace.row
                  rw [List.mem_map]
                  exact ⟨0, List.mem_range.2 (Nat.mul_pos (by simp only [List.length_cons]; omega) (by omega)), rfl⟩
                rw [hs] at hp'; cases hp'
          · cases h
      | _ => cases hp
theorem trodAll_keep (hb : ∀ k, k < W.heap.size → W'.heap[k]? = W.heap[k]?) {base : Nat} {sp : Nat → Bool} {held : Bool} : ∀ (ts : List TypeId) (vs : List Value) (ds : List (DataW H)) (ps : List MemPlace), ts.all (plainT P 20) = true →
    DataW.TrodAll enc P W base (fun _ => true) held ts vs ds ps → (∀ p ∈ ps, sp p.block = true) → DataW.TrodAll enc P W' base sp held ts vs ds ps
  | [], [], [], ps, _, h, _ => h
  | t :: ts, v :: vs, d :: ds, ps, hp, h, hsp => by
    simp only [List.all_cons, Bool.and_eq_true] at hp
    obtain ⟨p, q, ⟨fuel, h1⟩, h2, rfl⟩ := h
    exact ⟨p, q, ⟨fuel, trod_keep hb fuel 20 t _ _ hp.1 h1 fun x hx => hsp x (by simp [hx])⟩, trodAll_keep hb ts vs ds q hp.2 h2 fun x hx => hsp x (by simp [hx]), rfl⟩
  | [], [], _ :: _, _, _, h, _ => h.elim
  | [], _ :: _, _, _, _, h, _ => h.elim
  | _ :: _, [], _, _, _, h, _ => h.elim
  | _ :: _, _ :: _, [], _, _, h, _ => h.elim
end
end Go.Proofs.Xx

/-
  The arguments of a call, as read-only blocks of the abstract memory.
-/
namespace Go.Proofs.Xx
open Go Go.RowKit
set_option linter.unusedSimpArgs false
set_option linter.unusedVariables false

section
variable {P : Program}

/-- A window of a block, to be read alone. -/
theorem Rel.addRo [Glob] {B : Bs} {e : Emb} {h : AH} {w : World} (r : Rel B e h w) {k sh : Nat} {cc : Array Value} {el : TypeId} {fr : Nat × Nat} {c : List Value} (hkB : k < B.lo) (hk : w.heap[k]? = some (.cells cc el fr)) (hsz : sh + c.length ≤ cc.size)
    (hc : ∀ i v, c[i]? = some v → ∃ v', cc[sh + i]? = some v' ∧ VR (e.put h.next ⟨k, sh, 0⟩) v v') :
    Rel B (e.put h.next ⟨k, sh, 0⟩) (h.add (.cells c el none true)) w ∧ e.le (e.put h.next ⟨k, sh, 0⟩) := by
  have hle := r.le_put ⟨k, sh, 0⟩
  have hlt : k < w.heap.size := (Array.getElem?_eq_some_iff.1 hk).1
  refine ⟨⟨fun b M q => ?_, fun b hb => ?_, fun b M q => ?_, fun b M p q1 q2 => ?_, fun b M p b' M' p' e1 e2 e3 e4 e5 e6 e7 => ?_, fun b M p q1 q2 q3 => ?_, r.base, r.keep, r.glob⟩, hle⟩
  · by_cases hb : b = h.next
    · subst hb; exact Nat.lt_succ_self _
    · rw [Emb.put_ne _ _ hb] at q; exact Nat.lt_succ_of_lt (r.dom b M q)
  · have hb' : h.next + 1 ≤ b := hb
    rw [AH.get_add, if_neg (by omega)]; exact r.wf b (by omega)
  · by_cases hb : b = h.next
    · subst hb; rw [Emb.put_same] at q; cases q; exact hlt
    · rw [Emb.put_ne _ _ hb] at q; exact r.rng b M q
  · rw [AH.get_add] at q2
    by_cases hb : b = h.next
    · subst hb; rw [Emb.put_same] at q1; cases q1; rw [if_pos rfl] at q2; cases q2
      exact ⟨cc, fr, hk, hsz, hc, (fun _ => ⟨rfl, fun q => by cases q⟩), (fun _ q => by cases q), (fun q => by cases q)⟩
    · rw [Emb.put_ne _ _ hb] at q1; rw [if_neg hb] at q2
      exact (r.obj b M p q1 q2).mono hle
  · rw [AH.get_add] at e2 e4
    by_cases hb' : b' = h.next
    · subst hb'; rw [if_pos rfl] at e4; cases e4; cases e7
    · rw [Emb.put_ne _ _ hb'] at e3; rw [if_neg hb'] at e4
      by_cases hb : b = h.next
      · subst hb
        rw [Emb.put_same] at e1; cases e1
        rw [if_pos rfl] at e2; cases e2
        have := r.own b' M' p' e3 e4 e7
        simp only at e5; omega
      · rw [Emb.put_ne _ _ hb] at e1; rw [if_neg hb] at e2
        exact r.inj b M p b' M' p' e1 e2 e3 e4 e5 e6 e7
  · rw [AH.get_add] at q2
    by_cases hb : b = h.next
    · subst hb; rw [if_pos rfl] at q2; cases q2; cases q3
    · rw [Emb.put_ne _ _ hb] at q1; rw [if_neg hb] at q2
      exact r.own b M p q1 q2 q3


/-- The world's own blocks stay as they are. -/
def Bs.of (w : World) : Bs := ⟨w.heap.size, w.heap⟩
def RoH (h : AH) : Prop := ∀ b o, h.get b = some o → writable o = false
/-- h is made of windows of w's blocks, to be read alone. -/
structure WRel [Glob] (w : World) (e : Emb) (h : AH) : Prop where
  rel : Rel (Bs.of w) e h w
  ro : RoH h
theorem WRel.empty [Glob] {w : World} (hg : Glob.ok w.heap.size w.heap) : WRel w (fun _ => none) ⟨.e, 0, 0⟩ :=
  ⟨⟨fun b L q => (by cases q), fun b _ => Tr.get_e b, fun b L q => (by cases q), fun b L o q => (by cases q), fun b L o b' L' o' q => (by cases q), fun b L o q => (by cases q), Nat.le_refl _, fun _ _ => rfl, hg⟩,
    fun b o q => by rw [show (⟨.e, 0, 0⟩ : AH).get b = none from Tr.get_e b] at q; cases q⟩
theorem WRel.wfH [Glob] {w : World} {e : Emb} {h : AH} (r : WRel w e h) : WfH h := r.rel.wf

theorem WRel.addRo [Glob] {e : Emb} {h : AH} {w : World} (r : WRel w e h) {k sh : Nat} {cc : Array Value} {el : TypeId} {fr : Nat × Nat} {c : List Value} (hk : w.heap[k]? = some (.cells cc el fr)) (hsz : sh + c.length ≤ cc.size)
    (hc : ∀ i v, c[i]? = some v → ∃ v', cc[sh + i]? = some v' ∧ VR e v v') :
    ∃ e', WRel w e' (h.add (.cells c el none true)) ∧ e.le e' ∧ Ext h (h.add (.cells c el none true)) ∧ e' h.next = some ⟨k, sh, 0⟩ := by
  have hle := r.rel.le_put ⟨k, sh, 0⟩
  obtain ⟨r1, r2⟩ := Rel.addRo (sh := sh) (c := c) r.rel (show k < w.heap.size from (Array.getElem?_eq_some_iff.1 hk).1) hk hsz (fun i v hi => by obtain ⟨v', h1, h2⟩ := hc i v hi; exact ⟨v', h1, h2.mono hle⟩)
  refine ⟨_, ⟨r1, fun b o q => ?_⟩, r2, (Ext.refl r.wfH).add _, Emb.put_same _ _ _⟩
  rw [AH.get_add] at q
  split at q
  · cases q; rfl
  · exact r.ro b o q

/-- The cells cs, of type t, read well in h. -/
def AR (P : Program) (h : AH) : Nat → TypeId → List Value → Prop
  | 0, _, _ => False
  | f + 1, t, cs =>
    match P.underlying t, cs with
    | some .bool, [.bool _] => True
    | some (.int k), [.int k' n] => k' = k ∧ (Lit.int k n).wf = true
    | some .string, [.string s] => s.size ≤ maxLen
    | some (.slice e), [v] => ∃ n c, Rd h v (P.cellsOf e) n c ∧ n ≤ maxLen ∧ CapOk v ∧ ∀ i, i < n → AR P h f e ((c.drop (i * P.cellsOf e)).take (P.cellsOf e))
    | some (.struct fs), cs => cs.length = P.cellsOf t ∧ ∀ fd ∈ fs.toList, AR P h f fd.type ((cs.drop fd.offset).take (P.cellsOf fd.type))
    | some (.array n e), cs => cs.length = P.cellsOf t ∧ ∀ i, i < n → AR P h f e ((cs.drop (i * P.cellsOf e)).take (P.cellsOf e))
    | _, _ => False
theorem AR.ext {h h' : AH} (w : WfH h) (x : Ext h h') : ∀ (f : Nat) (t : TypeId) (cs : List Value), AR P h f t cs → AR P h' f t cs
  | 0, _, _, q => q
  | f + 1, t, cs, q => by
    unfold AR at q ⊢
    split at q
    · exact q
    · exact q
    · exact q
    · obtain ⟨n, c, h1, h2, hc, h3⟩ := q
      exact ⟨n, c, h1.ext w x, h2, hc, fun i hi => AR.ext w x f _ _ (h3 i hi)⟩
    · exact ⟨q.1, fun fd hf => AR.ext w x f _ _ (q.2 fd hf)⟩
    · exact ⟨q.1, fun i hi => AR.ext w x f _ _ (q.2 i hi)⟩
    · exact q


section
variable {H : Type} {enc : TypeId × Value → H}
theorem tiles_le : ∀ (fs : List Field) (a n : Nat), tiles P fs a n = true → a ≤ n
  | [], a, n, h => by have := Nat.eq_of_beq_eq_true h; omega
  | f :: r, a, n, h => by
    simp only [tiles, Bool.and_eq_true] at h
    have := tiles_le r _ n h.2
    omega
/-- cells of type t that read in w may be taken into h. -/
def Takes [Glob] (enc : TypeId × Value → H) (P : Program) (w : World) (base : Nat) (sp : Nat → Bool) (held : Bool) (n : Nat) (t : TypeId) (cs : List Value) : Prop := ∀ e h, WRel w e h → ∃ e' h' r, WRel w e' h' ∧ e.le e' ∧ Ext h h' ∧ VRs e' r cs ∧ AR P h' n t r

theorem embedFields [Glob] {w : World} {base n : Nat} {sp : Nat → Bool} {held : Bool} {cs : List Value} : ∀ (fs : List Field) (a : Nat), tiles P fs a cs.length = true →
    (∀ fd ∈ fs, Takes enc P w base sp held n fd.type ((cs.drop fd.offset).take (P.cellsOf fd.type))) → ∀ e h, WRel w e h →
    ∃ e' h' r, WRel w e' h' ∧ e.le e' ∧ Ext h h' ∧ VRs e' r (cs.drop a) ∧ ∀ fd ∈ fs, a ≤ fd.offset ∧ AR P h' n fd.type ((r.drop (fd.offset - a)).take (P.cellsOf fd.type))
  | [], a, ht, _, e, h, r => by
    have := Nat.eq_of_beq_eq_true ht
    exact ⟨e, h, [], r, e.le_refl, Ext.refl r.wfH, by rw [this, List.drop_length]; exact .nil, fun fd q => by cases q⟩
  | f :: fs, a, ht, hk, e, h, r => by
    simp only [tiles, Bool.and_eq_true] at ht
    have hoff := Nat.eq_of_beq_eq_true ht.1
    have hle := tiles_le fs _ _ ht.2
    obtain ⟨e1, h1, c1, r1, l1, x1, v1, a1⟩ := hk f (by simp) e h r
    obtain ⟨e2, h2, c2, r2, l2, x2, v2, a2⟩ := embedFields fs _ ht.2 (fun fd q => hk fd (by simp [q])) e1 h1 r1
    have hc1 : c1.length = P.cellsOf f.type := by
      have := v1.length
      rw [List.length_take, List.length_drop, hoff] at this
      omega
    refine ⟨e2, h2, c1 ++ c2, r2, Emb.le_trans l1 l2, x1.trans x2, ?_, ?_⟩
    · have := (v1.mono l2).append v2
      rw [hoff, ← List.drop_drop, List.take_append_drop] at this
      exact this
    · intro fd q
      rcases List.mem_cons.1 q with rfl | q
      · refine ⟨by omega, ?_⟩
        rw [hoff, Nat.sub_self, List.drop_zero, List.take_append_of_le_length (by omega), List.take_of_length_le (by omega)]
        exact a1.ext r1.wfH x2 _ _ _
      · obtain ⟨q1, q2⟩ := a2 fd q
        refine ⟨by omega, ?_⟩
        rw [show fd.offset - a = c1.length + (fd.offset - (a + P.cellsOf f.type)) by omega, ← List.drop_drop, List.drop_left]
        exact q2
theorem embedRow [Glob] {w : World} {base n : Nat} {sp : Nat → Bool} {held : Bool} {ty : TypeId} {z : Nat} {cs : List Value} : ∀ (k : Nat), k * z ≤ cs.length →
    (∀ i, i < k → Takes enc P w base sp held n ty ((cs.drop (i * z)).take z)) → ∀ e h, WRel w e h →
    ∃ e' h' r, WRel w e' h' ∧ e.le e' ∧ Ext h h' ∧ VRs e' r (cs.take (k * z)) ∧ ∀ i, i < k → AR P h' n ty ((r.drop (i * z)).take z)
  | 0, _, _, e, h, r => ⟨e, h, [], r, e.le_refl, Ext.refl r.wfH, by simp; exact .nil, fun i q => by omega⟩
  | k + 1, hk, ht, e, h, r => by
    rw [Nat.add_mul, Nat.one_mul] at hk
    obtain ⟨e1, h1, c1, r1, l1, x1, v1, a1⟩ := embedRow k (by omega) (fun i q => ht i (by omega)) e h r
    obtain ⟨e2, h2, c2, r2, l2, x2, v2, a2⟩ := ht k (by omega) e1 h1 r1
    have hc1 : c1.length = k * z := by
      have := v1.length
      rw [List.length_take] at this; omega
    have hc2 : c2.length = z := by
      have := v2.length
      rw [List.length_take, List.length_drop] at this; omega
    refine ⟨e2, h2, c1 ++ c2, r2, Emb.le_trans l1 l2, x1.trans x2, ?_, fun i hi => ?_⟩
    · have := (v1.mono l2).append v2
      rw [Nat.add_mul, Nat.one_mul, List.take_add]
      exact this
    · by_cases hik : i < k
      · have : (i + 1) * z ≤ k * z := Nat.mul_le_mul_right z hik
        rw [Nat.add_mul, Nat.one_mul] at this
        rw [List.drop_append_of_le_length (by omega), List.take_append_of_le_length (by rw [List.length_drop]; omega)]
        exact (a1 i hik).ext r1.wfH x2 _ _ _
      · obtain rfl : i = k := by omega
        rw [← hc1, List.drop_left, List.take_of_length_le (by omega)]
        exact a2

theorem embed [Glob] {w : World} {base : Nat} {sp : Nat → Bool} (hsp : ∀ b, sp b = true) {held : Bool} (hw : ∃ (k : Nat) (cc : Array Value) (el : TypeId) (fr : Nat × Nat), w.heap[k]? = some (.cells cc el fr)) : ∀ (n m : Nat) (t : TypeId) (cs : List Value) (x : DataW H × List MemPlace), plainT P m t = true →
    DataW.trod enc P w base sp held n t cs = some x → Takes enc P w base sp held n t cs
  | 0, _, _, _, _, _, h => by simp [DataW.trod] at h
  | _ + 1, 0, _, _, _, h, _ => by cases h
  | n + 1, m + 1, t, cs, x, hp, h => by
    intro e h0 r
    unfold plainT at hp
    cases hu : P.underlying t with
    | none => rw [hu] at hp; cases hp
    | some u =>
      rw [hu] at hp
      cases u with
      | bool =>
        obtain ⟨b, rfl, -⟩ := DataW.trod_bool hu h
        exact ⟨e, h0, [.bool b], r, e.le_refl, Ext.refl r.wfH, .one (.bool b), by unfold AR; rw [hu]; trivial⟩
      | int k =>
        obtain ⟨b, rfl, -, hwf⟩ := DataW.trod_int hu h
        exact ⟨e, h0, [.int k b], r, e.le_refl, Ext.refl r.wfH, .one (.int k b), by unfold AR; rw [hu]; exact ⟨rfl, hwf⟩⟩
      | string =>
        obtain ⟨s, rfl, -, hs⟩ := DataW.trod_string hu h
        exact ⟨e, h0, [.string s], r, e.le_refl, Ext.refl r.wfH, .one (.string s), by unfold AR; rw [hu]; exact hs⟩
      | struct fs =>
        simp only [Bool.and_eq_true, List.all_eq_true] at hp
        obtain ⟨xs, n', hn, -, hlen, hxl, hf⟩ := DataW.trod_struct hu h
        obtain rfl : n' = n := by omega
        obtain ⟨e1, h1, c1, r1, l1, x1, v1, a1⟩ := embedFields fs.toList 0 (by rw [hlen]; exact hp.2) (fun fd hfd => by
          obtain ⟨i, hi, rfl⟩ := List.getElem_of_mem hfd
          have hg : fs[i]? = some fs.toList[i] := by rw [← Array.getElem?_toList]; exact List.getElem?_eq_getElem hi
          have h2 := hf i _ hg
          have hix : i < xs.length := by rw [hxl]; simpa using hi
          rw [List.getElem?_eq_getElem hix] at h2
          exact embed hsp hw n' m _ _ _ (hp.1 _ (List.getElem_mem hi)) h2) e h0 r
        refine ⟨e1, h1, c1, r1, l1, x1, by simpa using v1, ?_⟩
        unfold AR; rw [hu]
        have hl1 := v1.length
        simp only [List.drop_zero] at hl1
        exact ⟨by omega, fun fd hfd => by have := (a1 fd hfd).2; simpa using this⟩
      | array k el =>
        simp only [Bool.and_eq_true] at hp
        have hsz := Nat.eq_of_beq_eq_true hp.2
        obtain ⟨xs, n', hn, -, hlen, hxl, hf⟩ := DataW.trod_array hu h
        obtain rfl : n' = n := by omega
        obtain ⟨e1, h1, c1, r1, l1, x1, v1, a1⟩ := embedRow (z := P.cellsOf el) (ty := el) (cs := cs) k (by omega) (fun i hi => by
          have h2 := hf i hi
          have hix : i < xs.length := by omega
          rw [List.getElem?_eq_getElem hix] at h2
          exact embed hsp hw n' m _ _ _ hp.1 h2) e h0 r
        rw [List.take_of_length_le (by omega)] at v1
        refine ⟨e1, h1, c1, r1, l1, x1, v1, ?_⟩
        unfold AR; rw [hu]
        exact ⟨by have := v1.length; omega, a1⟩
      | slice el =>
        simp only [Bool.and_eq_true, Bool.not_eq_true'] at hp
        have hz : P.cellsOf el ≠ 0 := fun q => by have := hp.2.2; rw [q] at this; simp at this
        rcases DataW.trod_slice hu h with ⟨rfl, -⟩ | ⟨a, len, cap, elems, rest, n', hn, rfl, -, hb, hl, hm, hlen, hel, hrest, -⟩
        · refine ⟨e, h0, [.slice none 0 0], r, e.le_refl, Ext.refl r.wfH, .one .nilSlice, ?_⟩
          unfold AR; rw [hu]
          exact ⟨0, [], Rd.none_ _ _, Nat.zero_le _, Nat.le_refl _, fun i hi => by omega⟩
        · obtain rfl : n' = n := by omega
          obtain ⟨hr1, hr2⟩ := hrest (hsp _)
          rcases Nat.eq_zero_or_pos cap with hc0 | hc0
          · subst hc0
            obtain rfl : len = 0 := by omega
            obtain ⟨k, cc, el0, fr, hk⟩ := hw
            obtain ⟨e1, r1, l1, x1, q1⟩ := r.addRo (sh := 0) (c := []) hk (by simp) (fun i v hi => by simp at hi)
            refine ⟨e1, _, [.slice (some ⟨h0.next, 0, none⟩) 0 0], r1, l1, x1, .one (.slice h0.next 0 a 0 0 ⟨k, 0, 0⟩ q1 (Nat.le_refl _) (.inr ⟨rfl, rfl⟩)), ?_⟩
            unfold AR; rw [hu]
            exact ⟨0, [], .inr ⟨h0.next, 0, 0, [], el0, none, true, rfl, by rw [AH.get_add, if_pos rfl], by simp [takeAt]⟩, Nat.zero_le _, Nat.le_refl _, fun i hi => by omega⟩
          · -- the first cell is there
            have hfirst : ∃ cs0 y, w.cells? base a (P.cellsOf el) = some cs0 ∧ DataW.trod enc P w base sp held n' el cs0 = some y := by
              rcases Nat.eq_zero_or_pos len with h0' | h0'
              · have h2 := hr2 0 (by omega)
                have hix : 0 < rest.length := by omega
                rw [List.getElem?_eq_getElem hix, h0', Option.bind_eq_some_iff] at h2
                obtain ⟨cs0, q1, q2⟩ := h2
                exact ⟨cs0, _, by simpa [Addr.add] using q1, q2⟩
              · have h2 := hel 0 h0'
                have hix : 0 < elems.length := by omega
                rw [List.getElem?_eq_getElem hix, Option.bind_eq_some_iff] at h2
                obtain ⟨cs0, q1, q2⟩ := h2
                exact ⟨cs0, _, by simpa [Addr.add] using q1, q2⟩
            obtain ⟨cs0, y0, g1, -⟩ := hfirst
            obtain ⟨-, g2, g3⟩ := World.cells?_some g1
            have g4 := g3 0 (by omega)
            rw [List.getElem?_eq_getElem (by omega)] at g4
            obtain ⟨ab, ao, asp⟩ := a
            simp only [Addr.add, if_true] at g4
            unfold World.cell? at g4
            simp only at g4
            cases hblk : w.heap[ab]? with
            | none => rw [hblk] at g4; cases g4
            | some ob =>
              rw [hblk] at g4
              cases ob with
              | cells cc el0 fr =>
                simp only at g4
                cases asp with
                | some s => simp at g4
                | none =>
                  simp only [Option.isSome_none, Bool.false_eq_true, if_false] at g4
                  have hao : ao < cc.size := (Array.getElem?_eq_some_iff.1 g4).1
                  have hcell : ∀ (i : Nat) (v : Value), w.cell? ⟨ab, ao + i, none⟩ = some v ↔ cc[ao + i]? = some v := fun i v => by
                    unfold World.cell?
                    simp [hblk]
                  -- each element's cells
                  have helem : ∀ i, i < len → ∃ y, DataW.trod enc P w base sp held n' el (((cc.toList.drop ao).drop (i * P.cellsOf el)).take (P.cellsOf el)) = some y ∧ ao + i * P.cellsOf el + P.cellsOf el ≤ cc.size := by
                    intro i hi
                    have h2 := hel i hi
                    have hix : i < elems.length := by omega
                    rw [List.getElem?_eq_getElem hix, Option.bind_eq_some_iff] at h2
                    obtain ⟨ci, q1, q2⟩ := h2
                    obtain ⟨-, q3, q4⟩ := World.cells?_some q1
                    have hadd : ∀ j, ((⟨ab, ao, none⟩ : Addr).add (i * P.cellsOf el)).add j = ⟨ab, ao + (i * P.cellsOf el + j), none⟩ := fun j => by rw [add_none, add_none, Nat.add_assoc]
                    have hlast : ao + i * P.cellsOf el + P.cellsOf el ≤ cc.size := by
                      have q5 := q4 (P.cellsOf el - 1) (by omega)
                      rw [List.getElem?_eq_getElem (by omega), hadd, hcell] at q5
                      have := (Array.getElem?_eq_some_iff.1 q5).1
                      omega
                    refine ⟨elems[i], ?_, hlast⟩
                    rw [← q2]
                    congr 1
                    refine List.ext_getElem? fun j => ?_
                    by_cases hj : j < P.cellsOf el
                    · rw [List.getElem?_take, if_pos hj, List.getElem?_drop, List.getElem?_drop]
                      have q5 := q4 j hj
                      have e2 : ci[j]? = some (ci[j]'(by omega)) := List.getElem?_eq_getElem (by omega)
                      rw [e2, hadd, hcell] at q5
                      rw [e2, Array.getElem?_toList]
                      exact q5
                    · rw [List.getElem?_eq_none (by rw [List.length_take]; omega), List.getElem?_eq_none (by omega)]
                  have hfit : ao + len * P.cellsOf el ≤ cc.size := by
                    rcases Nat.eq_zero_or_pos len with h0' | h0'
                    · rw [h0', Nat.zero_mul]; omega
                    · obtain ⟨-, -, q⟩ := helem (len - 1) (by omega)
                      have : (len - 1) * P.cellsOf el + P.cellsOf el = len * P.cellsOf el := by
                        rw [← Nat.succ_mul]; congr 1; omega
                      omega
                  obtain ⟨e1, h1, c1, r1, l1, x1, v1, a1⟩ := embedRow (z := P.cellsOf el) (ty := el) (cs := cc.toList.drop ao) len (by simp; omega) (fun i hi => by
                    obtain ⟨y, q1, -⟩ := helem i hi
                    exact embed hsp hw n' m _ _ _ hp.2.1 q1) e h0 r
                  have hc1 : c1.length = len * P.cellsOf el := by
                    have := v1.length
                    rw [List.length_take, List.length_drop, Array.length_toList] at this; omega
                  obtain ⟨e2, r2, l2, x2, q2⟩ := r1.addRo (sh := ao) (c := c1) hblk (by omega) (fun i v hi => by
                    obtain ⟨v', q1, q2⟩ := v1.get i v hi
                    refine ⟨v', ?_, q2⟩
                    rw [List.getElem?_take, List.getElem?_drop, Array.getElem?_toList] at q1
                    split at q1
                    · exact q1
                    · cases q1)
                  refine ⟨e2, _, [.slice (some ⟨h1.next, 0, none⟩) len cap], r2, Emb.le_trans l1 l2, x1.trans x2, .one (.slice h1.next 0 ⟨ab, ao, none⟩ len cap ⟨ab, ao, 0⟩ q2 hl (.inl rfl)), ?_⟩
                  unfold AR; rw [hu]
                  refine ⟨len, c1, .inr ⟨h1.next, 0, cap, c1, el0, none, true, rfl, by rw [AH.get_add, if_pos rfl], by rw [← hc1]; exact takeAt_all c1⟩, by omega, hl, fun i hi => (a1 i hi).ext r1.wfH x2 _ _ _⟩
              | _ => cases g4
      | _ => cases hp
end
end
end Go.Proofs.Xx

/-
  From a law's contract over the checked run to the machine's call.
-/
namespace Go.Proofs.Xx
open Go Go.RowKit Go.WideShapes Go.ChangeShapes
set_option linter.unusedSimpArgs false
set_option linter.unusedVariables false

theorem VRs.one_inv {e : Emb} {r : List Value} {v : Value} (h : VRs e r [v]) : ∃ u, r = [u] ∧ VR e u v := by
  cases h with
  | cons u v' s s' h1 h2 => cases h2; exact ⟨u, rfl, h1⟩
section
variable {P : Program}
/-- A value of type t, by its cells. -/
def absV (P : Program) (t : TypeId) (r : List Value) : Value :=
  match P.underlying t with
  | some (.struct _) | some (.array _ _) => .agg r.toArray
  | _ => r.headD .nilFunc
theorem absV_ok {w : World} {rc : Reach} {b0 m : Nat} {t : TypeId} {v : Value} {e : Emb} {r : List Value} (hp : plainT P m t = true) (hval : Value.okWide P w rc b0 t v) (hv : VRs e r v.cells.toList) : VR e (absV P t r) v := by
  cases m with
  | zero => cases hp
  | succ m =>
    unfold plainT at hp
    unfold absV
    unfold Value.okWide at hval
    cases hu : P.underlying t with
    | none => rw [hu] at hp; cases hp
    | some u =>
      rw [hu] at hp hval
      cases u with
      | struct fs =>
        obtain ⟨cs, rfl, -⟩ := hval
        exact VR.agg (f := e) r cs.toList (by simpa [Value.cells] using hv)
      | array n el =>
        obtain ⟨cs, rfl, -⟩ := hval
        exact VR.agg (f := e) r cs.toList (by simpa [Value.cells] using hv)
      | bool =>
        have : ∃ b, v = .bool b := by cases v <;> simp_all [Cell.okWide, Cell.ok]
        obtain ⟨b, rfl⟩ := this
        obtain ⟨x, rfl, h1⟩ := VRs.one_inv (show VRs e r [.bool b] from hv)
        exact h1
      | int k =>
        have : ∃ k' b, v = .int k' b := by cases v <;> simp_all [Cell.okWide, Cell.ok]
        obtain ⟨k', b, rfl⟩ := this
        obtain ⟨x, rfl, h1⟩ := VRs.one_inv (show VRs e r [.int k' b] from hv)
        exact h1
      | string =>
        have : ∃ b, v = .string b := by cases v <;> simp_all [Cell.okWide, Cell.ok]
        obtain ⟨b, rfl⟩ := this
        obtain ⟨x, rfl, h1⟩ := VRs.one_inv (show VRs e r [.string b] from hv)
        exact h1
      | slice el =>
        have : ∃ a l c, v = .slice a l c := by cases v <;> simp_all [Cell.okWide, Cell.ok]
        obtain ⟨a, l, c, rfl⟩ := this
        obtain ⟨x, rfl, h1⟩ := VRs.one_inv (show VRs e r [.slice a l c] from hv)
        exact h1
      | _ => cases hp

/-- The values us, of types ts, read well in h. -/
def ArgsR (P : Program) (h : AH) : List TypeId → List Value → Prop
  | [], [] => True
  | t :: ts, u :: us => (∃ n r, AR P h n t r ∧ u = absV P t r) ∧ ArgsR P h ts us
  | _, _ => False
theorem ArgsR.ext {h h' : AH} (w : WfH h) (x : Ext h h') : ∀ (ts : List TypeId) (us : List Value), ArgsR P h ts us → ArgsR P h' ts us
  | [], [], q => q
  | t :: ts, u :: us, q => ⟨let ⟨n, r, h1, h2⟩ := q.1; ⟨n, r, h1.ext w x _ _ _, h2⟩, ArgsR.ext w x ts us q.2⟩
  | [], _ :: _, q => q.elim
  | _ :: _, [], q => q.elim

theorem ArgsR.cons_inv {h : AH} {t : TypeId} {ts : List TypeId} {us : List Value} (a : ArgsR P h (t :: ts) us) : ∃ n r us', us = absV P t r :: us' ∧ AR P h n t r ∧ ArgsR P h ts us' := by
  cases us with
  | nil => exact a.elim
  | cons u us =>
    obtain ⟨⟨n, r, h1, rfl⟩, h2⟩ := a
    exact ⟨n, r, us, rfl, h1, h2⟩
theorem ArgsR.nil_inv {h : AH} {us : List Value} (a : ArgsR P h [] us) : us = [] := by
  cases us with
  | nil => rfl
  | cons u us => exact a.elim

section
variable {H : Type} {enc : TypeId × Value → H}
theorem embedArgs [Glob] {w : World} {rc : Reach} {b0 base : Nat} {held : Bool} (hw : ∃ (k : Nat) (cc : Array Value) (el : TypeId) (fr : Nat × Nat), w.heap[k]? = some (.cells cc el fr)) : ∀ (ts : List TypeId) (vs : List Value) (ds : List (DataW H)) (ps : List MemPlace),
    ts.all (plainT P 20) = true → (∀ (j : Nat) t v, ts[j]? = some t → vs[j]? = some v → Value.okWide P w rc b0 t v) → DataW.TrodAll enc P w base (fun _ => true) held ts vs ds ps → ∀ e h, WRel w e h →
    ∃ e' h' us, WRel w e' h' ∧ e.le e' ∧ Ext h h' ∧ VRs e' us vs ∧ ArgsR P h' ts us
  | [], [], [], _, _, _, _, e, h, r => ⟨e, h, [], r, e.le_refl, Ext.refl r.wfH, .nil, trivial⟩
  | t :: ts, v :: vs, d :: ds, ps, hp, hval, hA, e, h, r => by
    simp only [List.all_cons, Bool.and_eq_true] at hp
    obtain ⟨p, q, ⟨fuel, h1⟩, h2, rfl⟩ := hA
    obtain ⟨e1, g1, r1, w1, l1, x1, v1, a1⟩ := embed (fun _ => rfl) hw fuel 20 t _ _ hp.1 h1 e h r
    obtain ⟨e2, g2, us, w2, l2, x2, v2, a2⟩ := embedArgs hw ts vs ds q hp.2 (fun j t v q1 q2 => hval (j + 1) t v (by simpa using q1) (by simpa using q2)) h2 e1 g1 w1
    exact ⟨e2, g2, absV P t r1 :: us, w2, Emb.le_trans l1 l2, x1.trans x2, .cons _ _ _ _ (absV_ok hp.1 (hval 0 t v rfl rfl) (v1.mono l2)) v2, ⟨fuel, r1, a1.ext w1.wfH x2 _ _ _, rfl⟩, a2⟩
  | [], [], _ :: _, _, _, _, h, _, _, _ => h.elim
  | [], _ :: _, _, _, _, _, h, _, _, _ => h.elim
  | _ :: _, [], _, _, _, _, h, _, _, _ => h.elim
  | _ :: _, _ :: _, [], _, _, _, h, _, _, _ => h.elim

/-- A LAW'S CALL: what its contract gives. -/
theorem law_calls [Glob] {X : Extern} (hm : P.follows .mixedOrders = true) (hX : XOk P X) (hN : ∀ (f : FuncId) (fn : Func), P.funcs[f]? = some fn → fn.body.isSome = true → (fn.name == "runtime.NumGoroutine") = false)
    {f : FuncId} {fn : Func} {body : Code} (hfn : P.funcs[f]? = some fn) (hb : fn.body = some body) (hXn : ∀ us h, X f us h = none) (hpl : fn.params.toList.all (plainT P 20) = true)
    (core : ∀ h us, WfH h → ArgsR P h fn.params.toList us → Fn P X f us h (fun x _ => x = .bool true))
    {w : World} {rc : Reach} {b0 : Nat} {args : Array Value} {ds : List (DataW H)} {ps : List MemPlace} (hg : Glob.ok w.heap.size w.heap) (hw : ∃ (k : Nat) (cc : Array Value) (el : TypeId) (fr : Nat × Nat), w.heap[k]? = some (.cells cc el fr))
    (hval : ∀ (j : Nat) t v, fn.params[j]? = some t → args[j]? = some v → Value.okWide P w rc b0 t v) (hA : DataW.TrodAll enc P w 0 (fun _ => true) true fn.params.toList args.toList ds ps) :
    Calls P f args w fun e w' => e = .returned (.bool true) ∧ Below w.heap.size w w' := by
  obtain ⟨e, h, us, r, -, -, v1, a1⟩ := embedArgs (P := P) hw fn.params.toList args.toList ds ps hpl (fun j t v q1 q2 => hval j t v (by simpa using q1) (by simpa using q2)) hA _ _ (WRel.empty hg)
  obtain ⟨n, v, h', hc, rfl⟩ := core h us r.wfH a1
  obtain ⟨e', v', w', r1, t1, hv, hcalls⟩ := callA_calls (exec_sound hm hX hN n) hc (hXn us h) hfn hb r.rel v1
  cases hv
  rw [Array.toArray_toList] at hcalls
  refine hcalls.mono fun en w'' ⟨q1, q2⟩ => ?_
  subst q2
  exact ⟨q1, t1.os, t1.tape, t1.output, t1.size, fun k hk => r1.keep k hk⟩
end
end
end Go.Proofs.Xx

/-
  Small lemmas for the rows.
-/
namespace Go.Proofs.Xx
open Go Go.RowKit Go.WideShapes Go.ChangeShapes
set_option linter.unusedSimpArgs false
set_option linter.unusedVariables false

section
variable {H : Type} {enc : TypeId × Value → H} {P : Program}
theorem trodAll_length {W : World} {base : Nat} {sp : Nat → Bool} {held : Bool} : ∀ {ts : List TypeId} {vs : List Value} {ds : List (DataW H)} {ps : List MemPlace}, DataW.TrodAll enc P W base sp held ts vs ds ps → ds.length = ts.length
  | [], [], [], _, _ => rfl
  | t :: ts, v :: vs, d :: ds, ps, h => by
    obtain ⟨p, q, _, h2, _⟩ := h
    simp [trodAll_length h2]
  | [], [], _ :: _, _, h => h.elim
  | [], _ :: _, _, _, h => h.elim
  | _ :: _, [], _, _, h => h.elim
  | _ :: _, _ :: _, [], _, h => h.elim

theorem post_of_below {f : Func} {s : ChangeSpec} {apart fresh handsOn again : Bool} {W W' : World} {args : Array Value} {v : Value} {ds gs : List (DataW H)} {before pa pv : List MemPlace}
    (hW : DataW.Whole enc P f.params.toList s.vars apart W args.toList ds gs before)
    (hres : ∀ (b : Nat) (sp : Nat → Bool) (hd : Bool), DataW.TrodAll enc P W' b sp hd f.resultTypes.toList (v.resultList f.resultTypes.size) (s.fn H (ds ++ gs)).results [])
    (hargs : ∀ sp : Nat → Bool, (∀ p ∈ before, sp p.block = true) → DataW.TrodAll enc P W' 0 sp true f.params.toList args.toList (s.fn H (ds ++ gs)).args pa)
    (hvars : ∀ sp : Nat → Bool, (∀ p ∈ before, sp p.block = true) → DataW.TrodVars enc P W' sp s.vars (s.fn H (ds ++ gs)).vars pv)
    (hps : before = pa ++ pv) (hb : Below W.heap.size W W')
    (hok : ∀ (j : Nat) (t : TypeId) (r : Value), f.resultTypes[j]? = some t → (v.resultList f.resultTypes.size)[j]? = some r → Value.okWide P W' .any 0 t r) :
    s.post enc P f apart fresh handsOn again W args v W' := by
  have hlt : ∀ p ∈ before, p.block < W.heap.size := fun p hp => hW.lt p hp
  have hold : ∀ p ∈ before, (fun b => decide (b < W.heap.size)) p.block = true := fun p hp => by simpa using hlt p hp
  refine ⟨ds, gs, before, [], pa, pv, hW, hres _ _ _, hargs _ hold, hvars _ hold, World.keptBut_mono (fun p hp => ⟨hp, ?_⟩) (hb.frame (· ∈ before)), fun _ => ?_⟩
  · rw [hps, List.mem_append] at hp
    exact Or.inr hp
  · obtain ⟨_, _, _, _, _, hz, hn⟩ := hW
    refine ⟨hok, _, _, ([] ++ pa) ++ pv, ⟨[] ++ pa, pv, trodAll_append (hargs _ (fun _ _ => rfl)) (hres _ _ _), hvars _ (fun _ _ => rfl), rfl, ?_, ?_⟩, ?_⟩
    · intro b off hp
      have hin : MemPlace.cell b off ∈ before := by rw [hps]; simpa using hp
      rw [hb.frozen (hlt _ hin)]
      exact hz b off hin
    · intro ha
      have := hn ha
      rw [hps] at this
      simpa using this
    · intro p hp _
      rw [hps]
      simpa using hp
end
end Go.Proofs.Xx

/-
  Arguments of a law, opened by their types.
-/
namespace Go.Proofs.Xx
open Go
set_option linter.unusedSimpArgs false
set_option linter.unusedVariables false

section
variable {P : Program} {h : AH}
theorem AR.str1 {n : Nat} {t : TypeId} {r : List Value} (a : AR P h n t r) (hu : P.underlying t = some .string) : ∃ s : List UInt8, r = [str s] ∧ s.length ≤ maxLen := by
  cases n with
  | zero => exact a.elim
  | succ n =>
    unfold AR at a
    rw [hu] at a
    split at a
    all_goals (first | exact a.elim | (rename_i q _; cases q; done) | (rename_i q; cases q; done) | skip)
    rename_i s q
    exact ⟨s.data.toList, by rw [str_self], by simpa using a⟩
theorem AR.int1 {n : Nat} {t : TypeId} {r : List Value} {k : IntKind} (a : AR P h n t r) (hu : P.underlying t = some (.int k)) : ∃ x : Int, r = [.int k x] ∧ (Lit.int k x).wf = true := by
  cases n with
  | zero => exact a.elim
  | succ n =>
    unfold AR at a
    rw [hu] at a
    split at a
    all_goals (first | exact a.elim | (rename_i q _; cases q; done) | (rename_i q; cases q; done) | skip)
    rename_i k0 k' x q
    cases q
    obtain ⟨rfl, h2⟩ := a
    exact ⟨x, rfl, h2⟩
theorem AR.struct1 {n : Nat} {t : TypeId} {r : List Value} {fs : Array Field} {m : List (Nat × TypeId)} {z : Nat} (a : AR P h n t r) (hu : P.underlying t = some (.struct fs)) (hm : fs.toList.map (fun f => (f.offset, f.type)) = m) (hz : P.cellsOf t = z) :
    ∃ n', r.length = z ∧ ∀ p ∈ m, AR P h n' p.2 ((r.drop p.1).take (P.cellsOf p.2)) := by
  cases n with
  | zero => exact a.elim
  | succ n =>
    unfold AR at a
    rw [hu] at a
    replace a : r.length = P.cellsOf t ∧ ∀ fd ∈ fs.toList, AR P h n fd.type ((r.drop fd.offset).take (P.cellsOf fd.type)) := a
    refine ⟨n, by rw [a.1, hz], fun p hp => ?_⟩
    rw [← hm, List.mem_map] at hp
    obtain ⟨fd, hf, rfl⟩ := hp
    exact a.2 fd hf
theorem pieces {α : Type} {z : Nat} {enc : α → List Value} {good : α → Prop} : ∀ (n : Nat) (c : List Value), c.length = n * z → (∀ i, i < n → ∃ y, (c.drop (i * z)).take z = enc y ∧ good y) → ∃ l : List α, l.length = n ∧ c = l.flatMap enc ∧ ∀ y ∈ l, good y
  | 0, c, hc, _ => ⟨[], rfl, by rw [Nat.zero_mul] at hc; rw [List.length_eq_zero_iff.1 hc]; rfl, fun y q => by cases q⟩
  | n + 1, c, hc, hk => by
    rw [Nat.add_mul, Nat.one_mul] at hc
    obtain ⟨y, h1, h2⟩ := hk 0 (by omega)
    obtain ⟨l, l1, l2, l3⟩ := pieces (z := z) (enc := enc) (good := good) n (c.drop z) (by rw [List.length_drop, hc]; omega) (fun i hi => by
      obtain ⟨y, q1, q2⟩ := hk (i + 1) (by omega)
      refine ⟨y, ?_, q2⟩
      rw [List.drop_drop, ← q1, Nat.add_mul, Nat.one_mul, Nat.add_comm z])
    rw [Nat.zero_mul, List.drop_zero] at h1
    refine ⟨y :: l, by simp [l1], ?_, fun x q => ?_⟩
    · rw [List.flatMap_cons, ← h1, ← l2, List.take_append_drop]
    · rcases List.mem_cons.1 q with rfl | q
      · exact h2
      · exact l3 x q
theorem AR.slice1 {α : Type} [Inhabited α] {n : Nat} {t e : TypeId} {r : List Value} {z : Nat} (enc : α → List Value) (good : α → Prop) (a : AR P h n t r) (hu : P.underlying t = some (.slice e)) (hz : P.cellsOf e = z) (hk : ∀ n cs, AR P h n e cs → ∃ y, cs = enc y ∧ good y) :
    ∃ v l, r = [v] ∧ RdL h v z enc l ∧ l.length ≤ maxLen ∧ CapOk v ∧ ∀ i, i < l.length → good (l.getD i default) := by
  cases n with
  | zero => exact a.elim
  | succ n =>
    unfold AR at a
    rw [hu] at a
    split at a
    all_goals (first | exact a.elim | (rename_i q _; cases q; done) | (rename_i q; cases q; done) | skip)
    rename_i e' v q
    cases q
    obtain ⟨k, c, h1, h2, hc, h3⟩ := a
    rw [hz] at h1 h3
    obtain ⟨l, l1, l2, l3⟩ := pieces (enc := enc) (good := good) k c h1.length (fun i hi => hk n _ (h3 i hi))
    subst l1 l2
    refine ⟨v, l, rfl, h1, h2, hc, fun i hi => ?_⟩
    rw [List.getD_eq_getElem?_getD, List.getElem?_eq_getElem hi]
    exact l3 _ (List.getElem_mem hi)
theorem AR.ints1 {n : Nat} {t e : TypeId} {r : List Value} (a : AR P h n t r) (hu : P.underlying t = some (.slice e)) (he : P.underlying e = some (.int .i64)) (hc : P.cellsOf e = 1) :
    ∃ v l, r = [v] ∧ RdL h v 1 eI l ∧ l.length ≤ maxLen ∧ CapOk v := by
  obtain ⟨v, l, h1, h2, h3, h4, -⟩ := AR.slice1 eI (fun _ => True) a hu hc (fun n cs q => by
    obtain ⟨x, hx, -⟩ := q.int1 he
    exact ⟨x, hx, trivial⟩)
  exact ⟨v, l, h1, h2, h3, h4⟩
end
end Go.Proofs.Xx

/-
  Tables and lists of tables among the arguments.
-/
namespace Go.Proofs.Xx
open Go Go.Proofs
set_option linter.unusedSimpArgs false
set_option linter.unusedVariables false
set_option maxRecDepth 100000

/-- What a table among the arguments reads as: any lengths. -/
structure TabA (h : AH) (t : Tab) : Prop where
  rd : RdL h t.ov 1 eI t.opn
  cap : CapOk t.ov
  name : t.name.length ≤ maxLen
  opn : t.opn.length ≤ maxLen
theorem TabA.ext {h h' : AH} {t : Tab} (a : TabA h t) (w : WfH h) (x : Ext h h') : TabA h' t := ⟨a.rd.ext w x, a.cap, a.name, a.opn⟩
theorem AR.tab1 {h : AH} {n : Nat} {r : List Value} (a : AR Tryz.prog h n 25 r) : ∃ t, r = eT t ∧ TabA h t := by
  obtain ⟨n', hl, hk⟩ := a.struct1 (m := [(0, 9), (1, 22), (2, 3), (3, 3), (4, 23), (5, 3), (6, 3)]) (z := 7) rfl (by kernel_rfl) (by kernel_rfl)
  match r, hl with
  | [x0, x1, x2, x3, x4, x5, x6], _ =>
    obtain ⟨s, e0, h0⟩ := AR.str1 (show AR Tryz.prog h n' 9 [x0] from hk (0, 9) (by simp)) (by kernel_rfl)
    obtain ⟨y1, e1, -⟩ := AR.int1 (k := .u8) (show AR Tryz.prog h n' 22 [x1] from hk (1, 22) (by simp)) (by kernel_rfl)
    obtain ⟨y2, e2, -⟩ := AR.int1 (k := .i64) (show AR Tryz.prog h n' 3 [x2] from hk (2, 3) (by simp)) (by kernel_rfl)
    obtain ⟨y3, e3, -⟩ := AR.int1 (k := .i64) (show AR Tryz.prog h n' 3 [x3] from hk (3, 3) (by simp)) (by kernel_rfl)
    obtain ⟨v, l, e4, h1, h2, h3⟩ := AR.ints1 (e := 3) (show AR Tryz.prog h n' 23 [x4] from hk (4, 23) (by simp)) (by kernel_rfl) (by kernel_rfl) (by kernel_rfl)
    obtain ⟨y5, e5, -⟩ := AR.int1 (k := .i64) (show AR Tryz.prog h n' 3 [x5] from hk (5, 3) (by simp)) (by kernel_rfl)
    obtain ⟨y6, e6, -⟩ := AR.int1 (k := .i64) (show AR Tryz.prog h n' 3 [x6] from hk (6, 3) (by simp)) (by kernel_rfl)
    cases e0; cases e1; cases e2; cases e3; cases e5; cases e6
    obtain ⟨sv, rfl⟩ := h1.isSl
    cases e4
    exact ⟨⟨s, y1, y2, y3, sv, l, y5, y6⟩, rfl, h1, h3, h0, h2⟩
/-- A hall among the arguments. -/
structure HallA (h : AH) (v : Value) (l : List Tab) : Prop where
  rd : RdL h v 7 eT l
  cap : CapOk v
  len : l.length ≤ maxLen
  tab : ∀ i, i < l.length → TabA h (tb l i)
theorem HallA.ext {h h' : AH} {v : Value} {l : List Tab} (a : HallA h v l) (w : WfH h) (x : Ext h h') : HallA h' v l := ⟨a.rd.ext w x, a.cap, a.len, fun i hi => (a.tab i hi).ext w x⟩
end Go.Proofs.Xx

/-
  Codes of tables among the arguments.
-/
namespace Go.Proofs.Xx
open Go Go.Proofs
set_option linter.unusedSimpArgs false
set_option linter.unusedVariables false
set_option maxRecDepth 100000

/-- A code of a table. -/
structure Cod where
  s : Nat
  a : Nat
  b : Nat
  os : SlV
  opn : List Nat
instance : Inhabited Cod := ⟨⟨0, 0, 0, ⟨none, 0, 0⟩, []⟩⟩
def eC (c : Cod) : List Value := [.int .u8 c.s, .int .u8 c.a, .int .u8 c.b, c.os.val]
abbrev codV (c : Cod) : Value := .agg (eC c).toArray
structure CodA (h : AH) (c : Cod) : Prop where
  rd : RdL h c.os.val 1 eU c.opn
  cap : CapOk c.os.val
  len : c.opn.length ≤ maxLen
  b1 : c.s < 256 ∧ c.a < 256 ∧ c.b < 256
  b2 : ∀ i, i < c.opn.length → c.opn.getD i default < 256
theorem CodA.ext {h h' : AH} {c : Cod} (a : CodA h c) (w : WfH h) (x : Ext h h') : CodA h' c := ⟨a.rd.ext w x, a.cap, a.len, a.b1, a.b2⟩
abbrev cd (l : List Cod) (i : Nat) : Cod := l.getD i default
structure CodesA (h : AH) (v : Value) (l : List Cod) : Prop where
  rd : RdL h v 4 eC l
  cap : CapOk v
  len : l.length ≤ maxLen
  cod : ∀ i, i < l.length → CodA h (cd l i)
theorem CodesA.ext {h h' : AH} {v : Value} {l : List Cod} (a : CodesA h v l) (w : WfH h) (x : Ext h h') : CodesA h' v l := ⟨a.rd.ext w x, a.cap, a.len, fun i hi => (a.cod i hi).ext w x⟩
end Go.Proofs.Xx

/-
  Compact; valid tables and halls that are made of codes.
-/
namespace Go.Proofs.Xx
open Go Go.Proofs
set_option linter.unusedSimpArgs false
set_option linter.unusedVariables false
set_option maxRecDepth 100000

/-- In strict order. -/
def StrictI (l : List Int) : Prop := ∀ i, 0 < i → i < l.length → l.getD (i - 1) default < l.getD i default
def SubI (l m : List Int) : Prop := ∀ i, i < l.length → ∃ j, j < m.length ∧ l.getD i default = m.getD j default
end Go.Proofs.Xx
