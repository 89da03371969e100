/-
  The lists of a table's moves; the turns that keep given seats.
-/
import Derived.Test.YtnopenpheaihmaaGreatDoorM12
import Derived.Test.YtnopenpheaihmaaGreatDoorM11
import Derived.Test.YtnopenpheaihmaaGreatDoorM8
import Derived.Test.YtnopenpheaihmaaGreatDoorM4
import Derived.Test.YtnopenpheaihmaaGreatDoorM10
import Derived.Test.YtnopenpheaihmaaGreatDoorM9

namespace Go.Proofs.Xx
open Go Go.Proofs
set_option linter.unusedSimpArgs false
set_option linter.unusedVariables false

def cand (t : Tab) (j : Nat) : List Int := (List.range (tsize t).toNat).map fun k => mvg t j (k : Nat)
theorem cand_len (t : Tab) (j : Nat) : (cand t j).length = (tsize t).toNat := by simp [cand]
theorem cand_at {t : Tab} {j k : Nat} (h : k < (tsize t).toNat) : pAt (cand t j) k = mvg t j k := by
  simp [cand, pAt, List.getD_eq_getElem?_getD, h]
theorem ext_pAt {a b : List Int} (h : a.length = b.length) (e : ∀ k, k < a.length → pAt a k = pAt b k) : a = b := by
  refine List.ext_getElem h fun k h1 h2 => ?_
  have := e k h1
  simpa [pAt, List.getD_eq_getElem?_getD, h1, h2] using this
theorem pAt_setV (p : List Int) {k : Nat} (hk : k < p.length) (x : Int) (j : Nat) : pAt (p.set k x) j = if j = k then x else pAt p j := by
  simp only [pAt, List.getD_eq_getElem?_getD, List.getElem?_set]
  by_cases q : k = j
  · subst q; simp [hk]
  · rw [if_neg q, if_neg (fun z => q z.symm)]
theorem cand_is {t : Tab} {j : Nat} {l : List Int} (h : l.length = (tsize t).toNat) (e : ∀ k, k < (tsize t).toNat → pAt l k = mvg t j k) : l = cand t j :=
  ext_pAt (by rw [h, cand_len]) fun k hk => by rw [e k (by omega), cand_at (by omega)]
def lng (a b : Int) : Nat → Int → Int
  | 0, k => k
  | 1, k => sdF a b k
  | 2, k => enF a b k
  | _ + 3, k => sdF a b (enF a b k)
def shg (n : Int) : Nat → Int → Int
  | 0, k => k
  | _ + 1, k => n - 1 - k
section
variable {t : Tab}
theorem mvg1 (q : t.shape = 1) (j : Nat) (k : Int) : mvg t j k = rgv t.A j k := by unfold mvg; rw [if_pos q]
theorem mvg2 (q : t.shape = 2) (j : Nat) (k : Int) : mvg t j k = lng t.A t.B j k := by
  unfold mvg; rw [if_neg (by omega), if_pos q]
  match j with
  | 0 => rfl
  | 1 => rfl
  | 2 => rfl
  | n + 3 => rfl
theorem mvg3 (q : 3 ≤ t.shape) (j : Nat) (k : Int) : mvg t j k = shg (tsize t) j k := by
  unfold mvg; rw [if_neg (by omega), if_neg (by omega)]
  match j with
  | 0 => rfl
  | n + 1 => rfl
theorem mvg20 (q : t.shape = 2) (k : Int) : mvg t 0 k = k := by rw [mvg2 q]; rfl
theorem mvg30 (q : 3 ≤ t.shape) (k : Int) : mvg t 0 k = k := by rw [mvg3 q]; rfl
theorem mvn1 (q : t.shape = 1) : mvn t = (2 * t.A).toNat := by unfold mvn; rw [if_pos q]
theorem mvn2 (q : t.shape = 2) : mvn t = if t.B = 1 then 2 else 4 := by unfold mvn; rw [if_neg (by omega), if_pos q]
theorem mvn3 (q : 3 ≤ t.shape) : mvn t = 2 := by unfold mvn; rw [if_neg (by omega), if_neg (by omega)]
theorem TabS.cases3 (hs : TabS t) : t.shape = 1 ∨ t.shape = 2 ∨ 3 ≤ t.shape := by have := hs.shape; omega
theorem mvn_le (hs : TabS t) : mvn t ≤ 48 := by
  rcases hs.cases3 with q | q | q
  · have := hs.s1 q; rw [mvn1 q]; omega
  · rw [mvn2 q]; split <;> omega
  · rw [mvn3 q]; omega
theorem mvn_pos (hs : TabS t) : 2 ≤ mvn t := by
  rcases hs.cases3 with q | q | q
  · have := hs.s1 q; rw [mvn1 q]; omega
  · rw [mvn2 q]; split <;> omega
  · rw [mvn3 q]; omega
/-- A long table's move is one of four; with one head seat one of two. -/
theorem TabS.l2 (hs : TabS t) (q : t.shape = 2) {j : Nat} (hj : j < mvn t) : j = 0 ∨ j = 1 ∨ ((j = 2 ∨ j = 3) ∧ (t.B = 0 ∨ t.B = 2)) := by
  have := hs.s2 q
  rw [mvn2 q] at hj
  split at hj <;> omega
theorem mvg_b (hs : TabS t) {j : Nat} (hj : j < mvn t) {k : Int} (hk : 0 ≤ k ∧ k < tsize t) : 0 ≤ mvg t j k ∧ mvg t j k < tsize t := by
  rcases hs.cases3 with q | q | q
  · have := hs.s1 q
    rw [mvg1 q, this.2.2.2]
    rw [mvn1 q] at hj
    exact rgv_b hj ⟨hk.1, by omega⟩
  · have s := hs.s2 q
    have hk2 : 0 ≤ k ∧ k < 2 * t.A + t.B := by omega
    rcases hs.l2 q hj with rfl | rfl | ⟨rfl | rfl, hb⟩
    · rw [mvg2 q]; exact hk
    · rw [mvg2 q, s.2.2.2.2]; exact (sd_sd s.1 ⟨s.2.2.1, s.2.2.2.1⟩ hk2).2
    · rw [mvg2 q, s.2.2.2.2]; exact (en_en s.1 hb hk2).2
    · rw [mvg2 q, s.2.2.2.2]; exact (sd_sd s.1 ⟨s.2.2.1, s.2.2.2.1⟩ (en_en s.1 hb hk2).2).2
  · rw [mvn3 q] at hj
    match j, hj with
    | 0, _ => rw [mvg3 q]; exact hk
    | 1, _ => rw [mvg3 q]; show 0 ≤ tsize t - 1 - k ∧ tsize t - 1 - k < tsize t; omega
theorem mvg_one (hs : TabS t) {k : Int} (hk : 0 ≤ k ∧ k < tsize t) : mvg t 0 k = k := by
  rcases hs.cases3 with q | q | q
  · have := hs.s1 q
    rw [mvg1 q]; exact rgv_one ⟨hk.1, by omega⟩
  · exact mvg20 q k
  · exact mvg30 q k
theorem mvg_mul (hs : TabS t) {i j : Nat} (hi : i < mvn t) (hj : j < mvn t) : ∃ m, m < mvn t ∧ ∀ k, 0 ≤ k → k < tsize t → mvg t i (mvg t j k) = mvg t m k := by
  rcases hs.cases3 with q | q | q
  · have s := hs.s1 q
    rw [mvn1 q] at hi hj
    obtain ⟨m, h1, h2⟩ := rgv_mul hi hj
    refine ⟨m, by rw [mvn1 q]; exact h1, fun k k1 k2 => ?_⟩
    rw [mvg1 q, mvg1 q, mvg1 q]
    exact h2 k k1 (by omega)
  · have s := hs.s2 q
    have ss : ∀ k, 0 ≤ k → k < tsize t → sdF t.A t.B (sdF t.A t.B k) = k := fun k k1 k2 => (sd_sd s.1 ⟨s.2.2.1, s.2.2.2.1⟩ ⟨k1, by omega⟩).1
    have bs : ∀ k, 0 ≤ k → k < tsize t → 0 ≤ sdF t.A t.B k ∧ sdF t.A t.B k < tsize t := fun k k1 k2 => by
      have := (sd_sd (b := t.B) s.1 ⟨s.2.2.1, s.2.2.2.1⟩ (k := k) ⟨k1, by omega⟩).2
      omega
    rcases hs.l2 q hi with rfl | rfl | ⟨ei, hb⟩
    · exact ⟨j, hj, fun k k1 k2 => by rw [mvg20 q]⟩
    · rcases hs.l2 q hj with rfl | rfl | ⟨ej, hb⟩
      · exact ⟨1, hi, fun k k1 k2 => by rw [mvg20 q]⟩
      · exact ⟨0, by omega, fun k k1 k2 => by simp only [mvg2 q, lng]; exact ss k k1 k2⟩
      · have be : ∀ k, 0 ≤ k → k < tsize t → 0 ≤ enF t.A t.B k ∧ enF t.A t.B k < tsize t := fun k k1 k2 => by
          have := (en_en s.1 hb (k := k) ⟨k1, by omega⟩).2
          omega
        have hn : mvn t = 4 := by rw [mvn2 q, if_neg (by omega)]
        rcases ej with rfl | rfl
        · exact ⟨3, by omega, fun k k1 k2 => by simp only [mvg2 q, lng]⟩
        · exact ⟨2, by omega, fun k k1 k2 => by simp only [mvg2 q, lng]; exact ss _ (be k k1 k2).1 (be k k1 k2).2⟩
    · have hn : mvn t = 4 := by rw [mvn2 q, if_neg (by omega)]
      have ee : ∀ k, 0 ≤ k → k < tsize t → enF t.A t.B (enF t.A t.B k) = k := fun k k1 k2 => (en_en s.1 hb ⟨k1, by omega⟩).1
      have be : ∀ k, 0 ≤ k → k < tsize t → 0 ≤ enF t.A t.B k ∧ enF t.A t.B k < tsize t := fun k k1 k2 => by
        have := (en_en s.1 hb (k := k) ⟨k1, by omega⟩).2
        omega
      have es : ∀ k, 0 ≤ k → k < tsize t → enF t.A t.B (sdF t.A t.B k) = sdF t.A t.B (enF t.A t.B k) := fun k k1 k2 => en_sd s.1 hb ⟨k1, by omega⟩
      rcases ei with rfl | rfl
      · rcases hs.l2 q hj with rfl | rfl | ⟨rfl | rfl, -⟩
        · exact ⟨2, hi, fun k k1 k2 => by rw [mvg20 q]⟩
        · exact ⟨3, by omega, fun k k1 k2 => by simp only [mvg2 q, lng]; exact es k k1 k2⟩
        · exact ⟨0, by omega, fun k k1 k2 => by simp only [mvg2 q, lng]; exact ee k k1 k2⟩
        · exact ⟨1, by omega, fun k k1 k2 => by simp only [mvg2 q, lng]; rw [es _ (be k k1 k2).1 (be k k1 k2).2, ee k k1 k2]⟩
      · rcases hs.l2 q hj with rfl | rfl | ⟨rfl | rfl, -⟩
        · exact ⟨3, hi, fun k k1 k2 => by rw [mvg20 q]⟩
        · exact ⟨2, by omega, fun k k1 k2 => by simp only [mvg2 q, lng]; rw [es k k1 k2, ss _ (be k k1 k2).1 (be k k1 k2).2]⟩
        · exact ⟨1, by omega, fun k k1 k2 => by simp only [mvg2 q, lng]; rw [ee k k1 k2]⟩
        · exact ⟨0, by omega, fun k k1 k2 => by simp only [mvg2 q, lng]; rw [es _ (be k k1 k2).1 (be k k1 k2).2, ee k k1 k2, ss k k1 k2]⟩
  · rw [mvn3 q] at hi hj
    match i, hi, j, hj with
    | 0, _, j, hj => exact ⟨j, by rw [mvn3 q]; exact hj, fun k k1 k2 => by rw [mvg30 q]⟩
    | 1, _, 0, _ => exact ⟨1, by rw [mvn3 q]; omega, fun k k1 k2 => by rw [mvg30 q]⟩
    | 1, _, 1, _ => exact ⟨0, by rw [mvn3 q]; omega, fun k k1 k2 => by simp only [mvg3 q, shg]; omega⟩
theorem mvg_inv (hs : TabS t) {i : Nat} (hi : i < mvn t) : ∃ m, m < mvn t ∧ ∀ k, 0 ≤ k → k < tsize t → mvg t i (mvg t m k) = k ∧ mvg t m (mvg t i k) = k := by
  rcases hs.cases3 with q | q | q
  · have s := hs.s1 q
    rw [mvn1 q] at hi
    obtain ⟨m, h1, h2⟩ := rgv_inv hi
    refine ⟨m, by rw [mvn1 q]; exact h1, fun k k1 k2 => ?_⟩
    rw [mvg1 q, mvg1 q, mvg1 q, mvg1 q]
    exact h2 k k1 (by omega)
  · have s := hs.s2 q
    have ss : ∀ k, 0 ≤ k → k < tsize t → sdF t.A t.B (sdF t.A t.B k) = k := fun k k1 k2 => (sd_sd s.1 ⟨s.2.2.1, s.2.2.2.1⟩ ⟨k1, by omega⟩).1
    refine ⟨i, hi, fun k k1 k2 => ?_⟩
    rcases hs.l2 q hi with rfl | rfl | ⟨ei, hb⟩
    · simp only [mvg2 q, lng]; exact ⟨trivial, trivial⟩
    · simp only [mvg2 q, lng]; exact ⟨ss k k1 k2, ss k k1 k2⟩
    · have ee : ∀ k, 0 ≤ k → k < tsize t → enF t.A t.B (enF t.A t.B k) = k := fun k k1 k2 => (en_en s.1 hb ⟨k1, by omega⟩).1
      have be : ∀ k, 0 ≤ k → k < tsize t → 0 ≤ enF t.A t.B k ∧ enF t.A t.B k < tsize t := fun k k1 k2 => by
        have := (en_en s.1 hb (k := k) ⟨k1, by omega⟩).2
        omega
      have es : ∀ k, 0 ≤ k → k < tsize t → enF t.A t.B (sdF t.A t.B k) = sdF t.A t.B (enF t.A t.B k) := fun k k1 k2 => en_sd s.1 hb ⟨k1, by omega⟩
      have z : sdF t.A t.B (enF t.A t.B (sdF t.A t.B (enF t.A t.B k))) = k := by rw [es _ (be k k1 k2).1 (be k k1 k2).2, ee k k1 k2, ss k k1 k2]
      rcases ei with rfl | rfl
      · simp only [mvg2 q, lng]; exact ⟨ee k k1 k2, ee k k1 k2⟩
      · simp only [mvg2 q, lng]; exact ⟨z, z⟩
  · rw [mvn3 q] at hi
    refine ⟨i, by rw [mvn3 q]; exact hi, fun k k1 k2 => ?_⟩
    match i, hi with
    | 0, _ => simp only [mvg3 q, shg]; exact ⟨trivial, trivial⟩
    | 1, _ => simp only [mvg3 q, shg]; omega
theorem cand_b (hs : TabS t) {j k : Nat} (hj : j < mvn t) (hk : k < (tsize t).toNat) : 0 ≤ pAt (cand t j) k ∧ pAt (cand t j) k < tsize t := by
  rw [cand_at hk]
  exact mvg_b hs hj ⟨by omega, by omega⟩
end
/-- The j-th move keeps the table and the seats st. -/
def acc (t : Tab) (st : List Int) (j : Nat) : Prop := KeepP t (cand t j) ∧ ∀ x, x ∈ st → pAt (cand t j) x.toNat = x
/-- The turns of a table that keep the seats st, in order. -/
structure TurnL (t : Tab) (st : List Int) (ls : List (List Int)) : Prop where
  srt : ls.Pairwise ltL
  mem : ∀ p, p ∈ ls ↔ ∃ j, j < mvn t ∧ acc t st j ∧ p = cand t j
def StOk (t : Tab) (st : List Int) : Prop := ∀ x, x ∈ st → 0 ≤ x ∧ x < tsize t
def StayL (t : Tab) (st : List Int) (ls : List (List Int)) : Prop := (chk t = 0 ∧ StOk t st ∧ TurnL t st ls) ∨ (¬ (chk t = 0 ∧ StOk t st) ∧ ls = [])
/-- What the program's list gives: no repetitions, sorted. -/
theorem strict_pw {l : List PL} (h : StrictL l) : (l.map (·.2)).Pairwise ltL := by
  have H : ∀ d i, i + d + 1 < l.length → ltL (l.getD i default).2 (l.getD (i + d + 1) default).2 := by
    intro d
    induction d with
    | zero => intro i hi; exact h (i + 1) (by omega) (by omega)
    | succ d ih => intro i hi; exact ltL_trans (ih i (by omega)) (h (i + d + 2) (by omega) (by omega))
  rw [List.pairwise_iff_getElem]
  intro i j hi hj hij
  rw [List.length_map] at hi hj
  have := H (j - i - 1) i (by omega)
  rw [show i + (j - i - 1) + 1 = j by omega] at this
  simpa [List.getD_eq_getElem?_getD, hi, hj] using this
theorem tabS_chk {t : Tab} (h : chk t = 0) : TabS t := by
  refine TabS.of t ?_
  have := tsize_le t
  unfold chk at h
  repeat' split at h
  all_goals first | omega | skip
end Go.Proofs.Xx

/-
  Sorted lists of lists: putting in, looking up.
-/
namespace Go.Proofs.Xx
open Go Go.Proofs
set_option linter.unusedSimpArgs false
set_option linter.unusedVariables false

abbrev lAt (ls : List (List Int)) (i : Nat) : List Int := ls.getD i default
theorem lAt_mem {ls : List (List Int)} {p : List Int} : p ∈ ls ↔ ∃ i, i < ls.length ∧ lAt ls i = p := by
  rw [List.mem_iff_getElem]
  constructor
  · rintro ⟨k, hk, rfl⟩; exact ⟨k, hk, by simp [lAt, List.getD_eq_getElem?_getD, hk]⟩
  · rintro ⟨k, hk, rfl⟩; exact ⟨k, hk, by simp [lAt, List.getD_eq_getElem?_getD, hk]⟩
theorem pw_at {ls : List (List Int)} (h : ls.Pairwise ltL) {i j : Nat} (hij : i < j) (hj : j < ls.length) : ltL (lAt ls i) (lAt ls j) := by
  have := List.pairwise_iff_getElem.1 h i j (by omega) hj hij
  simpa [lAt, List.getD_eq_getElem?_getD, hj, show i < ls.length by omega] using this
/-- A list put in where it belongs. -/
theorem ins_mem {ls : List (List Int)} {p x : List Int} {at_ : Nat} : x ∈ ls.take at_ ++ [p] ++ ls.drop at_ ↔ x = p ∨ x ∈ ls := by
  have e : x ∈ ls ↔ x ∈ ls.take at_ ∨ x ∈ ls.drop at_ := by rw [← List.mem_append, List.take_append_drop]
  rw [e]
  simp only [List.mem_append, List.mem_singleton]
  constructor
  · rintro ((h | h) | h)
    · exact .inr (.inl h)
    · exact .inl h
    · exact .inr (.inr h)
  · rintro (h | h | h)
    · exact .inl (.inr h)
    · exact .inl (.inl h)
    · exact .inr h
theorem ins_pw {ls : List (List Int)} {p : List Int} {at_ : Nat} (h : ls.Pairwise ltL) (lo : ∀ i, i < at_ → i < ls.length → ltL (lAt ls i) p) (hi : at_ < ls.length → ltL p (lAt ls at_)) : (ls.take at_ ++ [p] ++ ls.drop at_).Pairwise ltL := by
  have e : ls.Pairwise ltL ↔ (ls.take at_ ++ ls.drop at_).Pairwise ltL := by rw [List.take_append_drop]
  have h' := List.pairwise_append.1 (e.1 h)
  have L : ∀ x, x ∈ ls.take at_ → ltL x p := fun x hx => by
    obtain ⟨i, hi, rfl⟩ := List.mem_iff_getElem.1 hx
    rw [List.length_take] at hi
    have := lo i (by omega) (by omega)
    simpa [lAt, List.getD_eq_getElem?_getD, show i < ls.length by omega] using this
  have R : ∀ x, x ∈ ls.drop at_ → ltL p x := fun x hx => by
    obtain ⟨i, hi', rfl⟩ := List.mem_iff_getElem.1 hx
    rw [List.length_drop] at hi'
    have h1 := hi (by omega)
    rcases Nat.eq_zero_or_pos i with rfl | z
    · simpa [lAt, List.getD_eq_getElem?_getD, show at_ < ls.length by omega] using h1
    · have := ltL_trans h1 (pw_at h (i := at_) (j := at_ + i) (by omega) (by omega))
      simpa [lAt, List.getD_eq_getElem?_getD, show at_ + i < ls.length by omega] using this
  rw [List.append_assoc]
  refine List.pairwise_append.2 ⟨h'.1, ?_, ?_⟩
  · rw [List.singleton_append, List.pairwise_cons]
    exact ⟨R, h'.2.1⟩
  · intro x hx y hy
    rw [List.singleton_append] at hy
    rcases List.mem_cons.1 hy with rfl | hy
    · exact L x hx
    · exact h'.2.2 x hx y hy
/-- What a binary search finds. -/
theorem found {ls : List (List Int)} {p : List Int} (h : ls.Pairwise ltL) {i : Nat} (lo : ∀ j, j < i → ltL (lAt ls j) p) (hi : ∀ j, i ≤ j → j < ls.length → ¬ ltL (lAt ls j) p) : (i < ls.length ∧ lAt ls i = p) ↔ p ∈ ls := by
  rw [lAt_mem]
  constructor
  · exact fun h => ⟨i, h.1, h.2⟩
  · rintro ⟨j, hj, rfl⟩
    rcases Nat.lt_trichotomy j i with q | rfl | q
    · exact absurd (lo j q) (ltL_irr _)
    · exact ⟨hj, rfl⟩
    · exact absurd (pw_at h q hj) (hi i (Nat.le_refl _) (by omega))
end Go.Proofs.Xx

/-
  The walk through a table's candidates: each move's list is yielded.
-/
namespace Go.Proofs.Xx
open Go Go.Proofs
set_option linter.unusedSimpArgs false
set_option linter.unusedVariables false
set_option maxRecDepth 100000

section
variable {P : Program} {X : Extern} {inR : Bool} {sz : Nat} {L : Ks} {h h0 : AH} {rs : List Rs} {ops : Array Oper} {os : List Oper} {o : Oper} {R : Ks → AH → Prop} {Q : KQ}
theorem K_seqm {a b : Code} {Q1 : KQ} (w : K P X inR sz a L h Q1) (e1 : ∀ L' h', Q1 .norm L' h' → K P X inR sz b L' h' Q) (e2 : ∀ x L' h', x ≠ .norm → Q1 x L' h' → Q x L' h') : K P X inR sz (.seq a b) L h Q :=
  K_seq (w.mono fun x L' h' q => by
    cases x with
    | norm => exact e1 _ _ q
    | exit id => exact e2 _ _ _ (by intro z; cases z) q
    | ret => exact e2 _ _ _ (by intro z; cases z) q)
/-- What holds behind the first three statements. -/
theorem K_cut3 {σ : Type} {a b c d : Code} (I : σ → AH → Prop) (sl : σ → Ks) (w1 : K P X inR sz a L h (thenK P X inR sz b (thenK P X inR sz c (cutB I sl Q)))) (w2 : ∀ s h', I s h' → K P X inR sz d (sl s) h' Q) : K P X inR sz (.seq a (.seq b (.seq c d))) L h Q :=
  K_seqm w1 (fun L' h' q => K_seqm q (fun L' h' q => K_cut I sl q w2) fun x L' h' hx q => by
    cases x with
    | norm => exact absurd rfl hx
    | exit id => exact q
    | ret => exact q) fun x L' h' hx q => by
    cases x with
    | norm => exact absurd rfl hx
    | exit id => exact q
    | ret => exact q
end
theorem Sep.perm {lo : Nat} {h : AH} {rs rs' : List Rs} (p : rs.Perm rs') : ∀ {U : Fp}, Sep lo h rs U → Sep lo h rs' U := by
  induction p with
  | nil => intro U k; exact k
  | cons x p ih => intro U ⟨fp, h1, h2, h3⟩; exact ⟨fp, h1, h2, ih h3⟩
  | swap x y l =>
    intro U ⟨fy, h1, h2, fx, g1, g2, g3⟩
    exact ⟨fx, g1, fun b hb => ⟨(g2 b hb).1, (g2 b hb).2.1, (g2 b hb).2.2.1⟩, fy, h1, fun b hb => ⟨(h2 b hb).1, (h2 b hb).2.1, (h2 b hb).2.2, fun q => (g2 b q).2.2.2 hb⟩, g3.mono fun b hb => ⟨⟨hb.1.1, hb.2⟩, hb.1.2⟩⟩
  | trans p q ih1 ih2 => intro U k; exact ih2 (ih1 k)
theorem Hs.perm {h0 h : AH} {rs rs' : List Rs} (S : Hs h0 h rs) (p : rs.Perm rs') : Hs h0 h rs' := ⟨S.ext, S.sep.perm p⟩
/-- A move's function, called. -/
theorem mv_fn {h0 h : AH} {rs : List Rs} {t : Tab} {fs : List FV} (S : Hs h0 h rs) (a : At rs (.any (MovR t fs))) {j : Nat} (hj : j < mvn t) (k : Int) (h1 : 0 ≤ k) (h2 : k < tsize t) : Fn Tryz.prog Xh (fs.getD j default).1 (.int .i64 k :: (fs.getD j default).2.toList) h (fun r h3 => r = .int .i64 (mvg t j k) ∧ Hs h h3 []) := by
  obtain ⟨fp, m⟩ := S.anyP a
  exact m.2 j hj h S.wf (fun _ _ => rfl) k h1 h2
theorem mv_len {h0 h : AH} {rs : List Rs} {t : Tab} {fs : List FV} (S : Hs h0 h rs) (a : At rs (.any (MovR t fs))) : fs.length = mvn t := by
  obtain ⟨fp, m⟩ := S.anyP a
  exact m.1
/-- What the yield has to give for the k-th candidate. -/
def YSpec (h0 : AH) (l : Nat) (t : Tab) (RS : Nat → List Rs → Prop) : Prop :=
  ∀ k rs own v h, k < mvn t → RS k rs → Hs h0 h (.sl v 3 1 eI (cand t k) :: (rs ++ own)) → Yd Tryz.prog Xh l [v] h (fun r h' => r = .bool true ∧ ∃ rs', RS (k + 1) rs' ∧ Hs h0 h' (rs' ++ own))
theorem cands_ok {h0 h : AH} {rs : List Rs} {bt l : Nat} (t : Tab) (hs : TabS t) (S : Hs h0 h (.blk bt (eT t) 25 :: rs)) (RS : Nat → List Rs → Prop) (hr : RS 0 rs) (Y : YSpec h0 l t RS) :
    Fn Tryz.prog Xh 139 [yv l, PT bt] h (fun _ h' => ∃ rs', RS (mvn t) rs' ∧ Hs h0 h' (.blk bt (eT t) 25 :: rs')) := by
  have hsp := hs.shape
  have hsz := tsize_le t
  have hpos := hs.pos
  obtain ⟨n, hn⟩ := Int.eq_ofNat_of_zero_le hsz.1
  refine Fn_K rfl Tryz.func139 rfl rfl ?_
  refine K_cut3 (σ := Value × List FV) (fun (vf, fs) h' => Hs h0 h' (.sl vf 152 1 eF fs :: .any (MovR t fs) :: .blk bt (eT t) 25 :: rs)) (fun (vf, fs) => [(0, yv l), (5, .int .i64 n), (24, vf), (25, .int .i64 fs.length), (26, .int .i64 0)]) ?_ ?_
  · all_goals (repeat' (first | (refine K_region (id := 0) ?_; refine vl ?_; refine lB S rfl rfl ?_)))
    (refine KO_fn rfl rfl rfl rfl rfl ((layoutOf_ok S.wf _).mono ?_); rintro _ h ⟨⟨rfl, hq⟩ | ⟨rfl, hq⟩ | ⟨rfl, hq⟩ | ⟨rfl, hq⟩ | ⟨rfl, hq⟩, x⟩) <;> (replace S := S.join0 x; clear x; refine mv ?_; refine vl ?_; refine vl ?_; (refine al S ?_; clear S; intro b h S); (first | (refine sB S rfl rfl ?_; clear S; intro h S)); refine mv ?_; refine KO_nil ?_)
    all_goals (try (exfalso; omega))
    all_goals (all_goals (repeat' (first | (refine K_region (id := 1) ?_; refine lB S rfl rfl ?_))))
    all_goals ((refine KO_fn rfl rfl rfl rfl rfl ((size_ok S.wf t).mono ?_); rintro _ h ⟨rfl, x⟩) <;> (replace S := S.join0 x; clear x; rw [hn]; refine mv ?_; refine KO_nil ?_))
    all_goals (all_goals (repeat' (first | (refine K_region (id := 2) ?_; refine vl ?_; refine lB S rfl rfl ?_; refine vl ?_; refine lB S rfl rfl ?_; refine vl ?_; refine lB S rfl rfl ?_))))
    · (refine KO_call rfl rfl rfl rfl ((roundMoves_okT S.wf t hs hq).mono ?_); rintro vf h ⟨fs, x⟩) <;> (replace S := S.join2 x; clear x; refine lnS S rfl rfl ?_; refine mv ?_; refine KO_nil ?_)
      all_goals (repeat' (fail))
      exact ⟨(vf, fs), S.del (.there (.there .here)), ((by repeat (first | exact Ks.le_nil _ | refine Ks.le_cons rfl ?_)))⟩
    · (refine KO_call rfl rfl rfl rfl ((longMoves_okT S.wf t hs hq).mono ?_); rintro vf h ⟨fs, x⟩) <;> (replace S := S.join2 x; clear x; refine lnS S rfl rfl ?_; refine mv ?_; refine KO_nil ?_)
      all_goals (repeat' (fail))
      exact ⟨(vf, fs), S.del (.there (.there .here)), ((by repeat (first | exact Ks.le_nil _ | refine Ks.le_cons rfl ?_)))⟩
    · (refine KO_call rfl rfl rfl rfl ((shoeMoves_okT S.wf t hs hq).mono ?_); rintro vf h ⟨fs, x⟩) <;> (replace S := S.join2 x; clear x; refine lnS S rfl rfl ?_; refine mv ?_; refine KO_nil ?_)
      all_goals (repeat' (fail))
      exact ⟨(vf, fs), S.del (.there (.there .here)), ((by repeat (first | exact Ks.le_nil _ | refine Ks.le_cons rfl ?_)))⟩
    · (refine KO_call rfl rfl rfl rfl ((rowMoves_okT S.wf t hs hq).mono ?_); rintro vf h ⟨fs, x⟩) <;> (replace S := S.join2 x; clear x; refine lnS S rfl rfl ?_; refine mv ?_; refine KO_nil ?_)
      all_goals (repeat' (fail))
      exact ⟨(vf, fs), S.del (.there (.there .here)), ((by repeat (first | exact Ks.le_nil _ | refine Ks.le_cons rfl ?_)))⟩
  clear S
  rintro ⟨vf, fs⟩ h S
  have hfl := mv_len S (.there .here)
  have hmv := mvn_le hs
  skip
  all_goals (repeat' (refine k_block ?_))
  refine k_loop (σ := Nat) (fun j h' => j ≤ mvn t ∧ ∃ rs', RS j rs' ∧ Hs h0 h' (.sl vf 152 1 eF fs :: .any (MovR t fs) :: .blk bt (eT t) 25 :: rs')) (fun j => mvn t - j) (fun j => [(0, yv l), (5, .int .i64 n), (24, vf), (25, .int .i64 fs.length), (26, .int .i64 j)]) 0 (by repeat (first | exact Ks.le_nil _ | refine Ks.le_cons rfl ?_)) ?_ ?_
  · exact ⟨Nat.zero_le _, rs, hr, S⟩
  clear S hr
  rintro j h ⟨hj, rs, hr, S⟩
  all_goals (repeat' (first | refine K_seq ?_ | refine k_cond rfl ?_ | refine K_skip ?_ | refine K_exit ?_ | refine k_block ?_ | (refine K_region (id := 3) ?_; (first | (refine cS ?_ ?_ <;> intro hc)) <;> (refine KO_nil ?_)) | (refine K_region (id := 4) ?_; refine ixS2 S rfl rfl ?_; refine lES2 S rfl rfl ?_; refine mv ?_; refine KO_nil ?_) | (refine K_region (id := 5) ?_; refine mv ?_)))
  · have hj' : j < mvn t := by omega
    simp only [Int.toNat_natCast]
    refine m_make (z := 1) (by_ := 8) (enc := eI) (y0 := 0) S rfl rfl rfl rfl rfl rfl rfl rfl rfl (by intro _; rfl) (by first | omega) rfl rfl ?_; clear S; intro v h S; refine mv ?_; refine KO_nil ?_
    simp only [Int.toNat_natCast] at S
    all_goals (repeat' (first | refine K_seq ?_ | refine k_block ?_ | (refine K_region (id := 6) ?_; refine mv ?_; refine lnS S rfl rfl ?_; refine mv ?_; refine KO_nil ?_)))
    refine k_loop (σ := Nat × List Int) (fun (k, p) h' => Hs h0 h' (.sl v 3 1 eI p :: .sl vf 152 1 eF fs :: .any (MovR t fs) :: .blk bt (eT t) 25 :: rs) ∧ p.length = n ∧ k ≤ n ∧ ∀ i, i < k → pAt p i = mvg t j i) (fun (k, p) => n - k) (fun (k, p) => [(0, yv l), (5, .int .i64 n), (7, .func (.func (fs.getD j default).1) #[] (fs.getD j default).2), (8, v), (24, vf), (25, .int .i64 fs.length), (26, .int .i64 j), (32, v), (33, .int .i64 n), (34, .int .i64 k)]) (0, List.replicate n 0) (by repeat (first | exact Ks.le_nil _ | refine Ks.le_cons rfl ?_ | refine Ks.le_int ?_)) ?_ ?_
    · exact ⟨S, by simp, Nat.zero_le _, fun i hi => by omega⟩
    clear S
    rintro ⟨k, p⟩ h ⟨S, h1, h2, h3⟩
    all_goals (repeat' (first | refine K_seq ?_ | refine k_cond rfl ?_ | refine K_skip ?_ | refine K_exit ?_ | refine k_block ?_ | (refine K_region (id := 7) ?_; (first | (refine cS ?_ ?_ <;> intro hc)) <;> (refine KO_nil ?_)) | (refine K_region (id := 8) ?_; refine mv ?_; refine mv ?_; refine KO_nil ?_) | (refine K_region (id := 9) ?_; refine mv ?_; refine mv ?_; refine mv ?_; refine mv ?_; skip) | (refine K_region (id := 11) ?_; refine mv ?_; refine mv ?_)))
    · have hk : k < n := by omega
      (refine KO_call rfl rfl rfl rfl ((mv_fn S (.there (.there .here)) hj' k (by omega) (by omega)).mono ?_); rintro _ h ⟨rfl, x⟩) <;> (replace S := S.join0 x; clear x; refine ixS2 S rfl rfl ?_; (first | (refine sE2 S rfl rfl ?_; clear S; intro h S)); refine KO_nil ?_)
      all_goals (repeat' (first | (refine K_region (id := 10) ?_; refine ad ?_; refine mv ?_; refine KO_nil ?_)))
      refine ⟨(k + 1, p.set k (mvg t j k)), ?_, ?_, (by repeat (first | exact Ks.le_nil _ | refine Ks.le_cons rfl ?_))⟩
      · show n - (k + 1) < n - k; omega
      · (try simp only [Int.toNat_natCast] at S)
        refine ⟨S, by simpa using h1, by omega, nxt (fun i hi => ?_) ?_⟩
        · rw [pAt_setV _ (by omega), if_neg (by omega)]; exact h3 i hi
        · rw [pAt_setV _ (by omega), if_pos rfl]
    · have hk : k = n := by omega
      subst hk
      have ep : p = cand t j := cand_is (by omega) fun i hi => h3 i (by omega)
      subst ep
      all_goals (repeat' (fail))
      have pm : (Rs.sl vf 152 1 eF fs :: .any (MovR t fs) :: .blk bt (eT t) 25 :: rs).Perm (rs ++ [Rs.sl vf 152 1 eF fs, .any (MovR t fs), .blk bt (eT t) 25]) := List.perm_append_comm (l₁ := [Rs.sl vf 152 1 eF fs, .any (MovR t fs), .blk bt (eT t) 25]) (l₂ := rs)
      refine KO_yield rfl rfl rfl rfl ((Y j rs _ v h hj' hr (S.perm (pm.cons _))).mono ?_)
      clear S hr
      rintro _ h ⟨rfl, rs', hr, S⟩
      replace S := S.perm (List.perm_append_comm (l₁ := rs') (l₂ := [Rs.sl vf 152 1 eF fs, .any (MovR t fs), .blk bt (eT t) 25]))
      refine vl ?_; refine KO_nil ?_
      all_goals (repeat' (first | refine k_cond rfl ?_ | refine K_skip ?_ | (refine K_region (id := 12) ?_; refine ad ?_; refine mv ?_; refine KO_nil ?_)))
      refine ⟨j + 1, ?_, ?_, (by repeat (first | exact Ks.le_nil _ | refine Ks.le_cons rfl ?_))⟩
      · show mvn t - (j + 1) < mvn t - j; omega
      · exact ⟨by omega, rs', hr, S⟩
  · have e : j = mvn t := by omega
    subst e
    all_goals (repeat' (fail))
    refine ⟨_, rfl, ?_⟩
    exact ⟨rs, hr, (S.del .here).del .here⟩
theorem candf_ok {h0 : AH} (w : WfH h0) (t : Tab) : Fn Tryz.prog Xh 95 [tabV t] h0 (fun v h' => ∃ b, v = .func (.func 139) #[] #[PT b] ∧ Hs h0 h' [.blk b (eT t) 25]) := by
  have S := Hs.start w
  refine Fn_K rfl Tryz.func95 rfl rfl ?_
  all_goals (repeat' (first | refine K_seq ?_ | (refine K_region (id := 0) ?_; (refine bx S ?_; clear S; intro b h S); refine mv ?_; refine KO_nil ?_) | (refine K_region (id := 1) ?_; refine vl ?_; refine mv ?_; refine KO_nil ?_)))
  refine K_ret ⟨_, rfl, ?_⟩
  exact ⟨_, rfl, S⟩
end Go.Proofs.Xx

/-
  The turns of a table that keep given seats: the program's Stay and Turns.
-/
namespace Go.Proofs.Xx
open Go Go.Proofs
set_option linter.unusedSimpArgs false
set_option linter.unusedVariables false
set_option maxRecDepth 100000

/-- Every list of LL is read from a slice of one's own. -/
def LLp (LL : List PL) (h : AH) (fp : Fp) : Prop := ∀ x, x ∈ LL → ∃ f : Fp, (∀ b, f b → fp b) ∧ (Rs.sl x.1.val 3 1 eI x.2).ok h f
theorem LLp.ok {LL : List PL} {h : AH} {fp : Fp} (k : LLp LL h fp) : (Rs.any (LLp LL)).ok h fp := fun h' q x hx => by
  obtain ⟨f, f1, f2⟩ := k x hx
  exact ⟨f, f1, f2.local fun b hb => q b (f1 b hb)⟩
theorem LLp.sub {LL MM : List PL} {h : AH} {fp : Fp} (k : LLp LL h fp) (s : ∀ x, x ∈ MM → x ∈ LL) : LLp MM h fp := fun x hx => k x (s x hx)
theorem LLp.rd {LL : List PL} {h : AH} {fp : Fp} (k : LLp LL h fp) {x : PL} (hx : x ∈ LL) : RdL h x.1.val 1 eI x.2 := by
  obtain ⟨f, -, k⟩ := k x hx
  rcases k with ⟨q1, q2⟩ | ⟨b, o, cc, slk, h1, h2, h3, h4, h5⟩
  · rw [q1, q2]; exact Rd.none_ h 1
  · exact .inr ⟨b, o, _, cc, _, slk, false, h1, h2, h4⟩
theorem Hs.pushP {h0 h : AH} {rs : List Rs} {x : PL} {LL : List PL} (S : Hs h0 h (.sl x.1.val 3 1 eI x.2 :: .any (LLp LL) :: rs)) : Hs h0 h (.any (LLp (LL ++ [x])) :: rs) :=
  S.merge fun f1 f2 k1 k2 => LLp.ok fun y hy => by
    rcases List.mem_append.1 hy with hy | hy
    · obtain ⟨f, q1, q2⟩ := k2 h (fun _ _ => rfl) y hy
      exact ⟨f, fun b hb => .inr (q1 b hb), q2⟩
    · obtain rfl : y = x := by simpa using hy
      exact ⟨f1, fun b hb => .inl hb, k1⟩
theorem Hs.subP {h0 h : AH} {rs : List Rs} {LL MM : List PL} (S : Hs h0 h (.any (LLp LL) :: rs)) (s : ∀ x, x ∈ MM → x ∈ LL) : Hs h0 h (.any (LLp MM) :: rs) :=
  S.conv fun fp k => LLp.ok ((k h fun _ _ => rfl).sub s)
theorem Hs.nilP {h0 h : AH} {rs : List Rs} (S : Hs h0 h rs) : Hs h0 h (.any (LLp []) :: rs) := S.anyS fun h' x hx => by cases hx
theorem Hs.nilRd {h0 h : AH} {rs : List Rs} {α : Type} {z : Nat} {enc : α → List Value} (S : Hs h0 h rs) : Hs h0 h (.rd (.slice none 0 0) z enc [] :: rs) :=
  S.grow (fp := fun _ => False) (Ext.refl S.wf) (.inl ⟨rfl, rfl⟩) fun b hb => hb.elim
theorem stay1_ok {h0 : AH} (w : WfH h0) (t : Tab) {b : Nat} (hb : h0.get b = some (.cells (eT t) 25 none false)) (k : Int) : Fn Tryz.prog Xh 94 [.int .i64 k, PT b] h0 (fun v h' => BoolIs v (k < 0 ∨ tsize t ≤ k) ∧ Hs h0 h' []) := by
  have S := Hs.start w
  refine Fn_K rfl Tryz.func94 rfl rfl ?_
  all_goals (repeat' (first | refine K_seq ?_ | refine k_cond rfl ?_ | refine K_skip ?_ | refine K_exit ?_ | refine k_block ?_ | refine K_scope ?_ | (refine K_region (id := 0) ?_; refine mv ?_; refine KO_nil ?_) | (refine K_region (id := 1) ?_; refine mv ?_; (first | refine cT ?_ | refine cF ?_ | (refine cS ?_ ?_ <;> intro hc)) <;> (refine mv ?_; (first | refine off ?_ | refine mv ?_); (first | refine off ?_ | (first | refine lB S rfl rfl ?_ | refine lES2 S rfl rfl ?_ | refine lEB S ?_ | refine lH S ?_)); (first | (refine off ?_; (first | refine off ?_ | (first | refine cT ?_ | refine cF ?_ | (refine cS ?_ ?_ <;> intro hc))) <;> (refine vl ?_; refine mv ?_; refine KO_nil ?_)) | skip)))))
  · refine K_ret ⟨_, rfl, ?_⟩
    exact ⟨.inl ⟨rfl, .inl hc⟩, S⟩
  · (refine KO_fn rfl rfl rfl rfl rfl ((size_ok S.wf t).mono ?_); rintro _ h ⟨rfl, x⟩) <;> (replace S := S.join0 x; clear x; (first | refine off ?_ | (first | refine cT ?_ | refine cF ?_ | (refine cS ?_ ?_ <;> intro hc))) <;> (refine vl ?_; refine mv ?_; refine KO_nil ?_))
    all_goals (repeat' (first | refine K_seq ?_ | refine k_cond rfl ?_ | refine K_skip ?_ | refine K_exit ?_ | refine k_block ?_ | refine K_scope ?_))
    all_goals (refine K_ret ⟨_, rfl, ?_⟩)
    · exact ⟨.inl ⟨rfl, .inr (by omega)⟩, S⟩
    · exact ⟨.inr ⟨rfl, by omega⟩, S⟩
theorem stay2_ok {h0 : AH} (w : WfH h0) {b : Nat} {pv : Value} {p : List Int} (hb : h0.get b = some (.cells [pv] 23 none false)) (hp : RdL h0 pv 1 eI p) (x : Int) (hx : 0 ≤ x ∧ x < p.length) : Fn Tryz.prog Xh 97 [.int .i64 x, PT b] h0 (fun v h' => BoolIs v (pAt p x.toNat ≠ x) ∧ Hs h0 h' []) := by
  have S := Hs.start w
  refine Fn_K rfl Tryz.func97 rfl rfl ?_
  all_goals (repeat' (first | refine K_seq ?_ | refine k_cond rfl ?_ | refine K_skip ?_ | refine K_exit ?_ | refine k_block ?_ | refine K_scope ?_ | (refine K_region (id := 0) ?_; refine mv ?_; refine KO_nil ?_) | (refine K_region (id := 1) ?_; (first | refine lB S rfl rfl ?_ | refine lES2 S rfl rfl ?_ | refine lEB S ?_ | refine lH S ?_); refine mv ?_; (first | refine ixB S ?_ | refine ixS2 S rfl rfl ?_); (first | refine lB S rfl rfl ?_ | refine lES2 S rfl rfl ?_ | refine lEB S ?_ | refine lH S ?_); refine mv ?_; (first | refine cT ?_ | refine cF ?_ | (refine cS ?_ ?_ <;> intro hc)) <;> (refine mv ?_; refine KO_nil ?_))))
  all_goals (refine K_ret ⟨_, rfl, ?_⟩)
  · exact ⟨.inl ⟨rfl, hc⟩, S⟩
  · exact ⟨.inr ⟨rfl, hc⟩, S⟩
theorem ltP_ord : WOrd (fun x y : PL => ltL x.2 y.2) where
  irr x := ltL_irr _
  tr := ltL_trans
  ntr := fun {x y z} h1 h2 h3 => by
    rcases ltL_tri x.2 y.2 with q | q | q
    · exact h2 (ltL_trans h3 q)
    · exact h2 (by rw [← q]; exact h3)
    · exact h1 q
/-- The candidates among the first k that are taken. -/
structure Took (t : Tab) (st : List Int) (k : Nat) (LL : List PL) : Prop where
  mem : ∀ p, p ∈ LL.map (·.2) ↔ ∃ j, j < k ∧ acc t st j ∧ p = cand t j
  len : LL.length ≤ k
theorem Took.zero {t : Tab} {st : List Int} : Took t st 0 [] := ⟨fun p => ⟨fun h => (List.not_mem_nil h).elim, fun ⟨j, h, _⟩ => by omega⟩, Nat.le_refl _⟩
theorem Took.yes {t : Tab} {st : List Int} {k : Nat} {LL : List PL} (T : Took t st k LL) (a : acc t st k) (s : SlV) : Took t st (k + 1) (LL ++ [(s, cand t k)]) := by
  refine ⟨fun p => ?_, by have := T.len; simp; omega⟩
  rw [List.map_append, List.mem_append, T.mem]
  constructor
  · rintro (⟨j, h1, h2⟩ | h)
    · exact ⟨j, by omega, h2⟩
    · exact ⟨k, by omega, a, by simpa using h⟩
  · rintro ⟨j, h1, h2, rfl⟩
    rcases Nat.lt_or_ge j k with q | q
    · exact .inl ⟨j, q, h2, rfl⟩
    · obtain rfl : j = k := by omega
      exact .inr (by simp)
theorem Took.no {t : Tab} {st : List Int} {k : Nat} {LL : List PL} (T : Took t st k LL) (a : ¬ acc t st k) : Took t st (k + 1) LL := by
  refine ⟨fun p => ?_, by have := T.len; omega⟩
  rw [T.mem]
  constructor
  · rintro ⟨j, h1, h2⟩
    exact ⟨j, by omega, h2⟩
  · rintro ⟨j, h1, h2⟩
    rcases Nat.lt_or_ge j k with q | q
    · exact ⟨j, q, h2⟩
    · obtain rfl : j = k := by omega
      exact absurd h2.1 a
theorem Took.lens {t : Tab} {st : List Int} {k : Nat} {LL : List PL} (T : Took t st k LL) {x : PL} (hx : x ∈ LL) : x.2.length = (tsize t).toNat := by
  obtain ⟨j, -, -, e⟩ := (T.mem x.2).1 (List.mem_map_of_mem hx)
  rw [e, cand_len]
theorem mem_getD {α : Type} [Inhabited α] {l : List α} {x : α} : x ∈ l ↔ ∃ i, i < l.length ∧ l.getD i default = x := by
  rw [List.mem_iff_getElem]
  constructor
  · rintro ⟨k, hk, rfl⟩; exact ⟨k, hk, by simp [List.getD_eq_getElem?_getD, hk]⟩
  · rintro ⟨k, hk, rfl⟩; exact ⟨k, hk, by simp [List.getD_eq_getElem?_getD, hk]⟩
theorem Took.fin {t : Tab} {st : List Int} {LL MM out : List PL} (T : Took t st (mvn t) LL) (pm : MM.Perm LL) (h1 : StrictL out) (h2 : SubP out MM) (h3 : CovP out MM) : TurnL t st (out.map (·.2)) ∧ ∀ x, x ∈ out → x ∈ LL := by
  have sub : ∀ x, x ∈ out → x ∈ LL := fun x hx => by
    obtain ⟨i, hi, rfl⟩ := mem_getD.1 hx
    obtain ⟨j, hj, e⟩ := h2 i hi
    rw [e]
    exact pm.mem_iff.1 (mem_getD.2 ⟨j, hj, rfl⟩)
  refine ⟨⟨strict_pw h1, fun p => ?_⟩, sub⟩
  rw [← T.mem]
  constructor
  · intro h
    obtain ⟨x, hx, rfl⟩ := List.mem_map.1 h
    exact List.mem_map_of_mem (sub x hx)
  · intro h
    obtain ⟨x, hx, rfl⟩ := List.mem_map.1 h
    obtain ⟨j, hj, rfl⟩ := mem_getD.1 (pm.mem_iff.2 hx)
    obtain ⟨i, hi, e⟩ := h3 j hj
    rw [← e]
    exact List.mem_map_of_mem (mem_getD.2 ⟨i, hi, rfl⟩)
/-- What the range over the candidates has of its own. -/
def StR (o : AObj) (l b5 b3 b2 : Nat) (sv : Value) (t : Tab) (st : List Int) (k : Nat) (rs : List Rs) : Prop :=
  ∃ (vs : SlV) (LL : List PL), Took t st k LL ∧ rs = [lpR l o, .blk b5 [vs.val] 53, .sl vs.val 23 1 eP LL, .any (LLp LL), .blk b3 [sv] 23, .blk b2 (eT t) 25]
theorem stay_ok {h0 : AH} (w : WfH h0) (t : Tab) (r : TabR h0 t) (sv : Value) (st : List Int) (hsv : RdL h0 sv 1 eI st) (hst : st.length ≤ 1000000) :
    Fn Tryz.prog Xh 40 [tabV t, sv] h0 (fun v h' => ∃ out : List PL, StayL t st (out.map (·.2)) ∧ Hs h0 h' [.rd v 1 eP out, .any (LLp out)]) := by
  obtain ⟨s0, rfl⟩ := hsv.isSl
  have S := Hs.start w
  refine Fn_K rfl Tryz.func40 rfl rfl ?_
  all_goals (repeat' (first | refine K_seq ?_ | refine k_cond rfl ?_ | refine K_skip ?_ | refine K_exit ?_ | refine k_block ?_ | refine K_scope ?_ | (refine K_region (id := 0) ?_; (refine bx S ?_; clear S; intro b h S); (refine bx S ?_; clear S; intro b h S); refine mv ?_; refine KO_nil ?_) | (refine K_region (id := 1) ?_; (first | refine lB S rfl rfl ?_ | refine lES2 S rfl rfl ?_ | refine lEB S ?_ | refine lH S ?_))))
  obtain ⟨b3, hnm⟩ : ∃ x, x = b := ⟨_, rfl⟩; subst hnm
  obtain ⟨b2, hnm⟩ : ∃ x, x = b := ⟨_, rfl⟩; subst hnm
  (refine KO_fn rfl rfl rfl rfl rfl ((check_ok S.wf t ⟨r.1.ext w S.ext, r.2⟩).mono ?_); rintro _ h ⟨rfl, x⟩) <;> (replace S := S.join0 x; clear x; (first | refine cT ?_ | refine cF ?_ | (refine cS ?_ ?_ <;> intro hc)) <;> (refine mv ?_; (first | refine off ?_ | (first | refine lB S rfl rfl ?_ | refine lES2 S rfl rfl ?_ | refine lEB S ?_ | refine lH S ?_)); (first | refine off ?_ | refine vl ?_); (first | (refine off ?_; refine vl ?_; refine KO_nil ?_) | skip)))
  · refine k_cond rfl ?_
    skip
    all_goals (repeat' (first | refine K_seq ?_ | refine k_cond rfl ?_ | refine K_skip ?_ | refine K_exit ?_ | refine k_block ?_ | refine K_scope ?_ | (refine K_region (id := 2) ?_; refine mv ?_; refine KO_nil ?_)))
    refine K_ret ⟨_, rfl, ?_⟩
    exact ⟨[], .inr ⟨fun q => hc q.1, rfl⟩, S.drop.nilP.nilRd⟩
  have hchk : chk t = 0 := by omega
  have hs := tabS_chk hchk
  (refine KO_fn rfl rfl rfl rfl rfl ((containsFunc_ok S.wf s0.val st (hsv.ext w S.ext) hst (94, #[PT b2]) (fun x => x < 0 ∨ tsize t ≤ x) (fun h1 i x _ _ => stay1_ok x.wf t (x.get S.wf (blk_get S (.there .here))) _)).mono ?_); rintro _ h ⟨⟨rfl, hq⟩ | ⟨rfl, hq⟩, x⟩) <;> (replace S := S.join0 x; clear x; refine vl ?_; refine KO_nil ?_)
  · all_goals (repeat' (first | refine K_seq ?_ | refine k_cond rfl ?_ | refine K_skip ?_ | refine K_exit ?_ | refine k_block ?_ | refine K_scope ?_ | (refine K_region (id := 2) ?_; refine mv ?_; refine KO_nil ?_) | (refine K_region (id := 3) ?_; (refine al S ?_; clear S; intro b h S); refine KO_nil ?_) | (refine K_region (id := 4) ?_; (first | refine lB S rfl rfl ?_ | refine lES2 S rfl rfl ?_ | refine lEB S ?_ | refine lH S ?_))))
    refine K_ret ⟨_, rfl, ?_⟩
    refine ⟨[], .inr ⟨fun q => ?_, rfl⟩, S.drop.nilP.nilRd⟩
    obtain ⟨i, hi, hq⟩ := hq
    have := q.2 _ (mem_getD.2 ⟨i, hi, rfl⟩)
    omega
  have hso : StOk t st := fun x hx => by
    obtain ⟨i, hi, rfl⟩ := mem_getD.1 hx
    have : ¬ (st.getD i default < 0 ∨ tsize t ≤ st.getD i default) := fun q => hq ⟨i, hi, q⟩
    omega
  clear hq
  all_goals (repeat' (first | refine K_seq ?_ | refine k_cond rfl ?_ | refine K_skip ?_ | refine K_exit ?_ | refine k_block ?_ | refine K_scope ?_ | (refine K_region (id := 2) ?_; refine mv ?_; refine KO_nil ?_) | (refine K_region (id := 3) ?_; (refine al S ?_; clear S; intro b h S); refine KO_nil ?_) | (refine K_region (id := 4) ?_; (first | refine lB S rfl rfl ?_ | refine lES2 S rfl rfl ?_ | refine lEB S ?_ | refine lH S ?_))))
  obtain ⟨b5, hnm⟩ : ∃ x, x = b := ⟨_, rfl⟩; subst hnm
  (refine KO_fn rfl rfl rfl rfl rfl ((candf_ok S.wf t).mono ?_); rintro _ h ⟨bt, rfl, x⟩) <;> (replace S := S.join1 x; clear x; refine KO_nil ?_)
  all_goals (repeat' (first | refine K_seq ?_ | refine k_cond rfl ?_ | refine K_skip ?_ | refine K_exit ?_ | refine k_block ?_ | refine K_scope ?_))
  refine K_range S rfl ?_
  intro l tt h1 hk S1
  clear S
  replace S1 := S1.nilP.nilS (α := PL) (e := 23) (z := 1) (enc := eP)
  have S := ((S1.front (.there (.there (.there (.there .here))))).front (.there (.there (.there .here)))).front (.there (.there (.there (.there .here))))
  refine (cands_ok t hs S (StR _ l b5 b3 b2 s0.val t st) ⟨⟨none, 0, 0⟩, [], .zero, rfl⟩ ?_).mono ?_
  · clear S S1
    rintro k rs own v h hk' ⟨vs, LL, T, rfl⟩ S
    simp only [List.cons_append, List.nil_append] at S
    have hll := T.len
    have hmn := mvn_le hs
    have htl := tsize_le t
    have hbd : ∀ i, i < st.length → 0 ≤ st.getD i default ∧ st.getD i default < ((cand t k).length : Int) := fun i hi => by
      have := hso _ (mem_getD.2 ⟨i, hi, rfl⟩)
      rw [cand_len]; omega
    have hcl : ((cand t k).length : Int) = tsize t := by rw [cand_len]; omega
    have hcb : ∀ i, i < (cand t k).length → 0 ≤ pAt (cand t k) i ∧ pAt (cand t k) i < tsize t := fun i hi => cand_b hs hk' (by rw [cand_len] at hi; exact hi)
    obtain ⟨pv, rfl⟩ := (Rd.of_sl S .here).isSl
    replace S := S.front (.there .here)
    refine Yd_S hk S rfl ?_
    skip
    all_goals (repeat' (first | refine K_seq ?_ | refine k_cond rfl ?_ | refine K_skip ?_ | refine K_exit ?_ | refine k_block ?_ | refine K_scope ?_ | (refine K_region (id := 5) ?_; (refine al S ?_; clear S; intro b h S); (first | (refine sB S rfl rfl ?_; clear S; intro h S) | (refine sE2 S rfl rfl ?_; clear S; intro h S)); refine KO_nil ?_)))
    obtain ⟨b6, hnm⟩ : ∃ x, x = b := ⟨_, rfl⟩; subst hnm
    refine ⟨rfl, _, S.front (.there .here), ?_⟩
    clear S
    intro h S
    skip
    all_goals (repeat' (first | refine K_seq ?_ | refine k_cond rfl ?_ | refine K_skip ?_ | refine K_exit ?_ | refine k_block ?_ | refine K_scope ?_ | (refine K_region (id := 6) ?_; (first | refine lB S rfl rfl ?_ | refine lES2 S rfl rfl ?_ | refine lEB S ?_ | refine lH S ?_); (first | refine lB S rfl rfl ?_ | refine lES2 S rfl rfl ?_ | refine lEB S ?_ | refine lH S ?_))))
    (refine KO_fn rfl rfl rfl rfl rfl ((keeps_ok S.wf t ⟨r.1.ext w S.ext, r.2⟩ hs pv.val (cand t k) (Rd.of_sl S (.there (.there .here))) hcl hcb).mono ?_); rintro _ h ⟨⟨rfl, hq⟩ | ⟨rfl, hq⟩, x⟩) <;> (replace S := S.join0 x; clear x; refine mv ?_; (first | refine off ?_ | (first | refine lB S rfl rfl ?_ | refine lES2 S rfl rfl ?_ | refine lEB S ?_ | refine lH S ?_)); (first | refine off ?_ | refine vl ?_); (first | (refine off ?_; (first | refine off ?_ | refine vl ?_); refine vl ?_; refine KO_nil ?_) | skip))
    · (refine KO_fn rfl rfl rfl rfl rfl ((containsFunc_ok S.wf s0.val st (hsv.ext w S.ext) hst (97, #[PT b6]) (fun x => pAt (cand t k) x.toNat ≠ x) (fun h1 i x hi _ => stay2_ok x.wf (x.get S.wf (blk_get S (.there .here))) ((Rd.of_sl S (.there (.there .here))).ext S.wf x) _ (hbd i hi))).mono ?_); rintro _ h ⟨⟨rfl, hq2⟩ | ⟨rfl, hq2⟩, x⟩) <;> (replace S := S.join0 x; clear x; (first | refine off ?_ | refine vl ?_); refine vl ?_; refine KO_nil ?_)
      · all_goals (repeat' (first | refine K_seq ?_ | refine k_cond rfl ?_ | refine K_skip ?_ | refine K_exit ?_ | refine k_block ?_ | refine K_scope ?_ | (refine K_region (id := 6) ?_; (first | refine lB S rfl rfl ?_ | refine lES2 S rfl rfl ?_ | refine lEB S ?_ | refine lH S ?_); (first | refine lB S rfl rfl ?_ | refine lES2 S rfl rfl ?_ | refine lEB S ?_ | refine lH S ?_))))
        replace S := (S.del (.there .here)).del (.there .here)
        refine ⟨rfl, _, S, fun h4 S => ⟨rfl, _, ⟨vs, _, T.no fun a => ?_, rfl⟩, S⟩⟩
        obtain ⟨i, hi, hq2⟩ := hq2
        exact hq2 (a.2 _ (mem_getD.2 ⟨i, hi, rfl⟩))
      · all_goals (repeat' (first | refine K_seq ?_ | refine k_cond rfl ?_ | refine K_skip ?_ | refine K_exit ?_ | refine k_block ?_ | refine K_scope ?_ | (refine K_region (id := 6) ?_; (first | refine lB S rfl rfl ?_ | refine lES2 S rfl rfl ?_ | refine lEB S ?_ | refine lH S ?_); (first | refine lB S rfl rfl ?_ | refine lES2 S rfl rfl ?_ | refine lEB S ?_ | refine lH S ?_)) | (refine K_region (id := 7) ?_; (first | refine lB S rfl rfl ?_ | refine lES2 S rfl rfl ?_ | refine lEB S ?_ | refine lH S ?_); (first | refine lB S rfl rfl ?_ | refine lES2 S rfl rfl ?_ | refine lEB S ?_ | refine lH S ?_); (refine one 1 S ?_; clear S; intro u h S))))
        refine app (y0 := (pv, cand t k)) S rfl rfl ?_; clear S; intro v h S; obtain ⟨v2, rfl⟩ := (Rd.of_sl S .here).isSl; (first | (refine sB S rfl rfl ?_; clear S; intro h S) | (refine sE2 S rfl rfl ?_; clear S; intro h S)); refine KO_nil ?_
        all_goals (repeat' (first | refine K_seq ?_ | refine k_cond rfl ?_ | refine K_skip ?_ | refine K_exit ?_ | refine k_block ?_ | refine K_scope ?_ | (refine K_region (id := 6) ?_; (first | refine lB S rfl rfl ?_ | refine lES2 S rfl rfl ?_ | refine lEB S ?_ | refine lH S ?_); (first | refine lB S rfl rfl ?_ | refine lES2 S rfl rfl ?_ | refine lEB S ?_ | refine lH S ?_)) | (refine K_region (id := 7) ?_; (first | refine lB S rfl rfl ?_ | refine lES2 S rfl rfl ?_ | refine lEB S ?_ | refine lH S ?_); (first | refine lB S rfl rfl ?_ | refine lES2 S rfl rfl ?_ | refine lEB S ?_ | refine lH S ?_); (refine one 1 S ?_; clear S; intro u h S))))
        replace S := (S.front (.there (.there (.there (.there (.there .here)))))).front (.there (.there (.there (.there .here))))
        replace S := Hs.pushP (x := (pv, cand t k)) S
        replace S := ((S.front (.there .here)).front (.there (.there (.there (.there .here))))).front (.there (.there (.there .here)))
        replace S := S.del (.there (.there (.there (.there .here))))
        refine ⟨rfl, _, S, fun h4 S => ⟨rfl, _, ⟨v2, _, T.yes ⟨hq, fun x hx => ?_⟩ pv, rfl⟩, S⟩⟩
        obtain ⟨i, hi, rfl⟩ := mem_getD.1 hx
        exact Classical.not_not.1 fun z => hq2 ⟨i, hi, z⟩
    · all_goals (repeat' (first | refine K_seq ?_ | refine k_cond rfl ?_ | refine K_skip ?_ | refine K_exit ?_ | refine k_block ?_ | refine K_scope ?_ | (refine K_region (id := 6) ?_; (first | refine lB S rfl rfl ?_ | refine lES2 S rfl rfl ?_ | refine lEB S ?_ | refine lH S ?_); (first | refine lB S rfl rfl ?_ | refine lES2 S rfl rfl ?_ | refine lEB S ?_ | refine lH S ?_))))
      replace S := (S.del (.there .here)).del (.there .here)
      exact ⟨rfl, _, S, fun h4 S => ⟨rfl, _, ⟨vs, _, T.no fun a => hq a.1, rfl⟩, S⟩⟩
  · clear S S1
    rintro _ h ⟨rs', ⟨vs, LL, T, rfl⟩, S⟩
    refine ⟨_, S.front (.there .here), ?_⟩
    clear S
    intro h S
    have hll := T.len
    have hmn := mvn_le hs
    have htl := tsize_le t
    skip
    all_goals (repeat' (first | refine K_seq ?_ | refine k_cond rfl ?_ | refine K_skip ?_ | refine K_exit ?_ | refine k_block ?_ | refine K_scope ?_ | (refine K_region (id := 8) ?_; (first | refine lB S rfl rfl ?_ | refine lES2 S rfl rfl ?_ | refine lEB S ?_ | refine lH S ?_))))
    replace S := S.front (.there (.there .here))
    have C : CmpFn h0 vs.val [.blk bt (eT t) 25, .blk b5 [vs.val] 53, .any (LLp LL), .blk b3 [s0.val] 23, .blk b2 (eT t) 25] 57 [] (fun x y => ltL x.2 y.2) (fun x => x ∈ LL) := fun h l x y S hx hy => by
      obtain ⟨fp, k⟩ := S.anyP (.there (.there (.there .here)))
      refine (compare_ok S.wf _ _ x.2 y.2 (k.rd hx) (k.rd hy) (by rw [T.lens hx]; omega) (by rw [T.lens hy]; omega)).mono ?_
      rintro v h' ⟨d, rfl, c, xx⟩
      refine ⟨d, rfl, ?_, xx⟩
      rcases c with ⟨c1, c2⟩ | ⟨c1, c2⟩ | ⟨c1, c2⟩
      · exact .inl ⟨c1, c2⟩
      · exact .inr ⟨by omega, fun q => by
          have q : ltL x.2 y.2 := q
          rw [c2] at q
          exact ltL_irr _ q⟩
      · exact .inr ⟨by omega, fun q => ltL_asym q c2⟩
    have E : EqFn h0 vs.val [.blk bt (eT t) 25, .blk b5 [vs.val] 53, .any (LLp LL), .blk b3 [s0.val] 23, .blk b2 (eT t) 25] (fun x => x ∈ LL) := fun h l x y S hx hy => by
      obtain ⟨fp, k⟩ := S.anyP (.there (.there (.there .here)))
      exact equal_ok S.wf _ _ x.2 y.2 (k.rd hx) (k.rd hy) (by rw [T.lens hx]; omega) (by rw [T.lens hy]; omega)
    (refine KO_fn rfl rfl rfl rfl rfl ((sort_c S C (fun k hk => mem_getD.2 ⟨k, hk, rfl⟩) ltP_ord (by omega)).mono ?_); rintro _ h ⟨MM, sw, srt, S2⟩) <;> (replace S := S2; clear S2; refine KO_nil ?_)
    have pm := sw.perm
    have pl := pm.length_eq
    all_goals (repeat' (first | refine K_seq ?_ | refine k_cond rfl ?_ | refine K_skip ?_ | refine K_exit ?_ | refine k_block ?_ | refine K_scope ?_ | (refine K_region (id := 8) ?_; (first | refine lB S rfl rfl ?_ | refine lES2 S rfl rfl ?_ | refine lEB S ?_ | refine lH S ?_)) | (refine K_region (id := 9) ?_; (first | refine lB S rfl rfl ?_ | refine lES2 S rfl rfl ?_ | refine lEB S ?_ | refine lH S ?_))))
    (refine KO_fn rfl rfl rfl rfl rfl ((compactF_ok S (by omega) E (fun k hk => pm.mem_iff.1 (mem_getD.2 ⟨k, hk, rfl⟩)) (fun i j q1 q2 => (Nat.eq_or_lt_of_le q1).elim (fun e => e ▸ ltL_irr _) fun q => srt i j (Nat.zero_le _) q (by omega))).mono ?_); rintro rv h ⟨out, o1, o2, o3, o4, S2⟩) <;> (replace S := S2; clear S2; refine mv ?_; refine KO_nil ?_)
    all_goals (repeat' (first | refine K_seq ?_ | refine k_cond rfl ?_ | refine K_skip ?_ | refine K_exit ?_ | refine k_block ?_ | refine K_scope ?_))
    refine K_ret ⟨_, rfl, ?_⟩
    have F := T.fin pm o1 o2 o3
    replace S := ((S.front (.there (.there (.there .here)))).subP F.2).front (.there .here)
    iterate 4 replace S := S.del (.there (.there .here))
    exact ⟨out, .inl ⟨hchk, hso, F.1⟩, S⟩
theorem turns_ok {h0 : AH} (w : WfH h0) (t : Tab) (r : TabR h0 t) : Fn Tryz.prog Xh 39 [tabV t] h0 (fun v h' => ∃ out : List PL, StayL t [] (out.map (·.2)) ∧ Hs h0 h' [.rd v 1 eP out, .any (LLp out)]) := by
  have S := Hs.start w
  refine Fn_K rfl Tryz.func39 rfl rfl ?_
  all_goals (repeat' (first | refine K_seq ?_ | refine k_cond rfl ?_ | refine K_skip ?_ | refine K_exit ?_ | refine k_block ?_ | refine K_scope ?_ | (refine K_region (id := 0) ?_; (refine bx S ?_; clear S; intro b h S); refine mv ?_; refine KO_nil ?_) | (refine K_region (id := 1) ?_; (first | refine lB S rfl rfl ?_ | refine lES2 S rfl rfl ?_ | refine lEB S ?_ | refine lH S ?_))))
  (refine KO_fn rfl rfl rfl rfl rfl ((stay_ok S.wf t ⟨r.1.ext w S.ext, r.2⟩ (.slice none 0 0) [] (Rd.none_ _ 1) (Nat.zero_le _)).mono ?_); rintro v h ⟨out, ho, x⟩) <;> (replace S := S.join2 x; clear x; refine mv ?_; refine KO_nil ?_)
  all_goals (repeat' (first | refine K_seq ?_ | refine k_cond rfl ?_ | refine K_skip ?_ | refine K_exit ?_ | refine k_block ?_ | refine K_scope ?_))
  refine K_ret ⟨_, rfl, ?_⟩
  exact ⟨out, ho, S.del (.there (.there .here))⟩
end Go.Proofs.Xx

/-
  Lists of lists: read as such; written to.
-/
namespace Go.Proofs.Xx
open Go Go.Proofs
set_option linter.unusedSimpArgs false
set_option linter.unusedVariables false
set_option maxRecDepth 100000

theorem RLL.ofP {h : AH} {v : Value} {LL : List PL} {fp : Fp} (hr : RdL h v 1 eP LL) (k : LLp LL h fp) : RLL h v (LL.map (·.2)) := by
  refine ⟨LL.map (·.1.val), ?_, by simp, fun j hj => ?_⟩
  · have e : (LL.map (·.1.val)).flatMap eV = LL.flatMap eP := by rw [List.flatMap_map]; rfl
    show Rd h v 1 (LL.map (·.1.val)).length ((LL.map (·.1.val)).flatMap eV)
    rw [List.length_map, e]; exact hr
  · have hj : j < LL.length := by simpa using hj
    have := k.rd (mem_getD.2 ⟨j, hj, rfl⟩)
    simpa [List.getD_eq_getElem?_getD, hj] using this
theorem TurnL.len {t : Tab} {st : List Int} {ls : List (List Int)} (H : TurnL t st ls) : ls.length ≤ mvn t := by
  have := nodup_len (m := (List.range (mvn t)).map (cand t)) (pw_nodup ltL_irr H.srt) fun p hp => by
    obtain ⟨j, hj, -, rfl⟩ := (H.mem p).1 hp
    exact List.mem_map_of_mem (List.mem_range.2 hj)
  simpa using this
theorem StayL.len {t : Tab} {st : List Int} {ls : List (List Int)} (H : StayL t st ls) : ls.length ≤ 48 := by
  rcases H with ⟨h1, -, h⟩ | ⟨-, rfl⟩
  · have := h.len
    have := mvn_le (tabS_chk h1)
    omega
  · exact Nat.zero_le _
theorem StayL.lens {t : Tab} {st : List Int} {ls : List (List Int)} (H : StayL t st ls) {p : List Int} (hp : p ∈ ls) : p.length = (tsize t).toNat := by
  rcases H with ⟨-, -, h⟩ | ⟨-, rfl⟩
  · obtain ⟨j, -, -, rfl⟩ := (h.mem p).1 hp
    exact cand_len t j
  · cases hp
theorem StayL.lensD {t : Tab} {st : List Int} {ls : List (List Int)} (H : StayL t st ls) {j : Nat} (hj : j < ls.length) : (ls.getD j default).length ≤ 1000000 := by
  have := H.lens (mem_getD.2 ⟨j, hj, rfl⟩)
  have := tsize_le t
  omega
theorem TurnL.same {t : Tab} {s : SlV} {st : List Int} {ls : List (List Int)} (H : TurnL { t with os := s } st ls) : TurnL t st ls := ⟨H.srt, fun p => H.mem p⟩
theorem StayL.same {t u : Tab} {st : List Int} {ls : List (List Int)} (e : SameTab u t) (H : StayL u st ls) : StayL t st ls := by
  unfold SameTab at e
  generalize u.os = s at e
  subst e
  rcases H with ⟨h1, h2, h3⟩ | ⟨h1, h2⟩
  · exact .inl ⟨h1, h2, h3.same⟩
  · exact .inr ⟨h1, h2⟩
/-- The lists of LL may be written to. -/
def LLw (LL : List PL) (h : AH) (fp : Fp) : Prop := ∀ x, x ∈ LL → (x.1.val = .slice none 0 0 ∧ x.2 = []) ∨ ∃ b o cc slk, x.1.val = .slice (some ⟨b, o, none⟩) x.2.length x.2.length ∧ h.get b = some (.cells cc 3 slk false) ∧ fp b ∧ o + x.2.length ≤ cc.length
theorem LLw.ok {LL : List PL} {h : AH} {fp : Fp} (k : LLw LL h fp) : (Rs.any (LLw LL)).ok h fp := fun h' q x hx => by
  rcases k x hx with q1 | ⟨b, o, cc, slk, h1, h2, h3, h4⟩
  · exact .inl q1
  · exact .inr ⟨b, o, cc, slk, h1, by rw [q b h3]; exact h2, h3, h4⟩
theorem LLw.rd {LL : List PL} {h : AH} {fp : Fp} (k : LLw LL h fp) {x : PL} (hx : x ∈ LL) : ∃ c, Rd h x.1.val 1 x.2.length c := by
  rcases k x hx with ⟨q1, q2⟩ | ⟨b, o, cc, slk, h1, h2, h3, h4⟩
  · rw [q1, q2]; exact ⟨_, Rd.none_ h 1⟩
  · rw [h1]
    have : takeAt cc o (x.2.length * 1) = some ((cc.drop o).take x.2.length) := by
      unfold takeAt
      rw [Nat.mul_one]
      have z : Nat.beq ((cc.drop o).take x.2.length).length x.2.length = true := by
        rw [show ((cc.drop o).take x.2.length).length = x.2.length by simp; omega]
        exact Nat.beq_refl _
      simp only [z]
    exact ⟨_, .inr ⟨b, o, _, cc, _, slk, false, rfl, h2, this⟩⟩
section
variable {X : Extern} {sz : Nat} {L : Ks} {h h0 : AH} {rs : List Rs} {ops : Array Oper} {os : List Oper} {o : Oper} {R : Ks → AH → Prop}
end
section
variable {P : Program} {sz : Nat} {L : Ks} {h h0 : AH} {rs : List Rs} {ops : Array Oper}
theorem HintOk.ld {j : Nat} (k : Nat) {o ok : Oper} {x : Option Nat} {y : Operand} {ty e e2 : TypeId} {b : Nat} {c c2 : List Value} {v : Value} {L' : Ks} (S : Hs h0 h rs) (hi : At rs (.blk b c e)) (hp : predsOf ops (masks ops.toList []) j = [k] := by decide +kernel) (ho : ops[j]? = some o := by exact rfl) (hok : ops[k]? = some ok := by exact rfl) (hko : ok.op = .load ty y := by exact rfl)
    (hy : kA L y = some (.pointer (some ⟨b, 0, none⟩)) := by exact rfl) (hv : loadC P ty c 0 = some v := by exact rfl) (hg : guardA ops L.tree ok.guard = some true := by exact rfl) (hd : putK sz L ok.dst v = some L' := by exact rfl) (hf : aFloat P L'.tree o.op = some (x, c2, e2) := by exact rfl) : HintOk P ops sz L h j c2 e2 :=
  HintOk.one (h' := h) hp ho hok hg (by rw [hko]; simp only [aOp, tree_le hy, aLoad_loadC (blk_get S hi), hv, nextOf]) hd hf
end
end Go.Proofs.Xx

/-
  A list looked up in a sorted list of lists.
-/
namespace Go.Proofs.Xx
open Go Go.Proofs
set_option linter.unusedSimpArgs false
set_option linter.unusedVariables false
set_option maxRecDepth 100000

theorem pw_up {ls : List (List Int)} {p : List Int} (h : ls.Pairwise ltL) {m : Nat} (hm : m < ls.length) (hn : ¬ ltL (lAt ls m) p) : ∀ j, m ≤ j → j < ls.length → ¬ ltL (lAt ls j) p := fun j h1 h2 q => by
  rcases Nat.eq_or_lt_of_le h1 with e | e
  · subst e; exact hn q
  · exact hn (ltL_trans (pw_at h e h2) q)
theorem pw_lo {ls : List (List Int)} {p : List Int} (h : ls.Pairwise ltL) {m : Nat} (hm : m < ls.length) (hn : ltL (lAt ls m) p) : ∀ j, j < m + 1 → ltL (lAt ls j) p := fun j h1 => by
  rcases Nat.eq_or_lt_of_le (Nat.le_of_lt_succ h1) with e | e
  · subst e; exact hn
  · exact ltL_trans (pw_at h e hm) hn
theorem search_ok {h0 : AH} (w : WfH h0) (v u : Value) (ls : List (List Int)) (p : List Int) (hv : RLL h0 v ls) (hu : RdL h0 u 1 eI p) (hl : ls.length ≤ 1000000) (hb : ∀ j, j < ls.length → (ls.getD j default).length ≤ 1000000) (hp : p.length ≤ 1000000) (hs : ls.Pairwise ltL) :
    Fn Tryz.prog Xh 100 [v, u, .func (.func 57) #[] #[]] h0 (fun r h' => ∃ i q, r = .tuple #[.int .i64 i, q] ∧ BoolIs q (p ∈ ls) ∧ Hs h0 h' []) := by
  have S := Hs.start w
  obtain ⟨vs, hr, hvl, hk⟩ := hv
  refine Fn_K rfl Tryz.func100 rfl rfl ?_
  all_goals (repeat' (first | refine K_seq ?_ | refine k_block ?_ | (refine K_region (id := 0) ?_; refine mv ?_; refine mv ?_; refine KO_nil ?_) | (refine K_region (id := 1) ?_; refine mv ?_; refine lnB S ?_; refine mv ?_; refine KO_nil ?_) | (refine K_region (id := 2) ?_; refine mv ?_; refine mv ?_; refine mv ?_; refine KO_nil ?_)))
  refine k_loop (σ := Nat × Nat) (fun (a, b) h' => Hs h0 h' [] ∧ a ≤ b ∧ b ≤ ls.length ∧ (∀ j, j < a → ltL (lAt ls j) p) ∧ (∀ j, b ≤ j → j < ls.length → ¬ ltL (lAt ls j) p)) (fun (a, b) => b - a) (fun (a, b) => [(0, v), (1, u), (2, .func (.func 57) #[] #[]), (8, .int .i64 ls.length), (9, .int .i64 a), (10, .int .i64 b)]) (0, ls.length) (by repeat (first | exact Ks.le_nil _ | refine Ks.le_cons rfl ?_ | refine Ks.le_int ?_)) ?_ ?_
  · exact ⟨S, Nat.zero_le _, Nat.le_refl _, fun j hj => absurd hj (Nat.not_lt_zero _), fun j h1 h2 => by omega⟩
  clear S
  rintro ⟨a, b⟩ h ⟨S, h1, h2, h3, h4⟩
  all_goals (repeat' (first | refine K_seq ?_ | refine k_cond rfl ?_ | refine K_skip ?_ | refine K_exit ?_ | refine k_block ?_ | (refine K_region (id := 3) ?_; refine mv ?_; refine mv ?_; (first | (refine cS ?_ ?_ <;> intro hc)) <;> (refine KO_nil ?_)) | (refine K_region (id := 4) ?_; refine mv ?_; refine mv ?_; refine ad ?_; refine cW ?_; refine sR1 ?_; refine cI ?_; refine mv ?_; refine KO_nil ?_) | (refine K_region (id := 5) ?_; refine mv ?_; refine mv ?_; refine mv ?_; refine ixB S ?_; refine lEB S ?_; refine mv ?_)))
  · have hab : a < b := by omega
    obtain ⟨m, hm⟩ : ∃ m : Nat, ((a : Int) + b) / 2 = m := ⟨(a + b) / 2, by omega⟩
    have hml : m < ls.length := by omega
    simp only [hm, Int.toNat_natCast]
    (refine KO_call rfl rfl rfl rfl ((compare_ok S.wf (vs.getD m default) u (ls.getD m default) p ((hk m hml).ext w S.ext) (hu.ext w S.ext) (hb m hml) hp).mono ?_); rintro _ h ⟨d, rfl, hd, x⟩) <;> (replace S := S.join0 x; clear x; (first | (refine cS ?_ ?_ <;> intro hc)) <;> (refine KO_nil ?_))
    all_goals (repeat' (first | refine k_cond rfl ?_ | (refine K_region (id := 6) ?_; refine mv ?_; refine ad ?_; refine mv ?_; refine KO_nil ?_) | (refine K_region (id := 7) ?_; refine mv ?_; refine mv ?_; refine KO_nil ?_)))
    · refine ⟨(m + 1, b), ?_, ?_, (by repeat (first | exact Ks.le_nil _ | refine Ks.le_cons rfl ?_))⟩
      · show b - (m + 1) < b - a; omega
      · refine ⟨S, by omega, h2, pw_lo hs hml ?_, h4⟩
        rcases hd with ⟨q1, q2⟩ | ⟨q1, q2⟩ | ⟨q1, q2⟩
        · exact q2
        · omega
        · omega
    · refine ⟨(a, m), ?_, ?_, (by repeat (first | exact Ks.le_nil _ | refine Ks.le_cons rfl ?_))⟩
      · show m - a < b - a; omega
      · refine ⟨S, by omega, by omega, h3, pw_up hs hml ?_⟩
        rcases hd with ⟨q1, q2⟩ | ⟨q1, q2⟩ | ⟨q1, q2⟩
        · omega
        · show ¬ ltL (ls.getD m default) p
          rw [q2]; exact ltL_irr _
        · exact fun q => ltL_asym q q2
  · have e : b = a := by omega
    subst e
    have hf := found hs h3 h4
    skip
    all_goals (repeat' (first | (refine K_region (id := 8) ?_; refine mv ?_; refine mv ?_; refine mv ?_; (first | (refine cS ?_ ?_ <;> intro hc)) <;> (refine mv ?_; (first | refine off ?_ | refine mv ?_); (first | refine off ?_ | refine mv ?_); (first | refine off ?_ | refine mv ?_); (first | refine off ?_ | (refine ixB S ?_)); (first | refine off ?_ | (refine lEB S ?_)); (first | refine off ?_ | refine mv ?_); (first | (refine off ?_; (refine off ?_) <;> (refine vl ?_; refine mv ?_; refine mv ?_; refine KO_nil ?_)) | skip)))))
    · have hbl : b < ls.length := by omega
      simp only [Int.toNat_natCast]
      (refine KO_call rfl rfl rfl rfl ((compare_ok S.wf (vs.getD b default) u (ls.getD b default) p ((hk b hbl).ext w S.ext) (hu.ext w S.ext) (hb b hbl) hp).mono ?_); rintro _ h ⟨d, rfl, hd, x⟩) <;> (replace S := S.join0 x; clear x; (first | (first | (refine cS ?_ ?_ <;> intro hc))) <;> (refine vl ?_; refine mv ?_; refine mv ?_; refine KO_nil ?_))
      all_goals (repeat' (fail))
      all_goals (refine K_ret ⟨_, rfl, ?_⟩)
      · refine ⟨_, _, rfl, .inl ⟨rfl, hf.1 ⟨hbl, ?_⟩⟩, S⟩
        rcases hd with ⟨q1, q2⟩ | ⟨q1, q2⟩ | ⟨q1, q2⟩
        · omega
        · exact q2
        · omega
      · refine ⟨_, _, rfl, .inr ⟨rfl, fun q => ?_⟩, S⟩
        have q := (hf.2 q).2
        rcases hd with ⟨q1, q2⟩ | ⟨q1, q2⟩ | ⟨q1, q2⟩
        · exact ltL_irr _ (show ltL p p from (show ls.getD b default = p from q) ▸ q2)
        · omega
        · exact ltL_irr _ (show ltL p p from (show ls.getD b default = p from q) ▸ q2)
    · refine K_ret ⟨_, rfl, ?_⟩
      exact ⟨_, _, rfl, .inr ⟨rfl, fun q => by have := (hf.2 q).1; omega⟩, S⟩
theorem there_ok {h0 : AH} (w : WfH h0) (v u : Value) (ls : List (List Int)) (p : List Int) (hv : RLL h0 v ls) (hu : RdL h0 u 1 eI p) (hl : ls.length ≤ 1000000) (hb : ∀ j, j < ls.length → (ls.getD j default).length ≤ 1000000) (hp : p.length ≤ 1000000) (hs : ls.Pairwise ltL) :
    Fn Tryz.prog Xh 41 [v, u] h0 (fun r h' => BoolIs r (p ∈ ls) ∧ Hs h0 h' []) := by
  have S := Hs.start w
  refine Fn_K rfl Tryz.func41 rfl rfl ?_
  all_goals (repeat' (first | refine K_seq ?_ | (refine K_region (id := 0) ?_; refine mv ?_; refine KO_nil ?_) | (refine K_region (id := 1) ?_; refine mv ?_; refine mv ?_)))
  (refine KO_fn rfl rfl rfl rfl rfl ((search_ok S.wf v u ls p (hv.ext w S.ext) (hu.ext w S.ext) hl hb hp hs).mono ?_); rintro _ h ⟨i, q, rfl, hq, x⟩) <;> (replace S := S.join0 x; clear x; refine mv ?_; refine vl ?_; refine vl ?_; refine mv ?_; refine mv ?_; refine KO_nil ?_)
  all_goals (repeat' (first | refine K_seq ?_ | (refine K_region (id := 2) ?_; refine mv ?_; refine mv ?_; refine KO_nil ?_)))
  refine K_ret ⟨_, rfl, ?_⟩
  exact ⟨hq, S⟩
end Go.Proofs.Xx

/-
  slices.Clone, hall.Invert, hall.Compose of ints.
-/
namespace Go.Proofs.Xx
open Go Go.Proofs
set_option linter.unusedSimpArgs false
set_option linter.unusedVariables false

/-- What 'q[x] = i' for each i and x of l makes of q. -/
def invStep (l : List Int) (q : List Int) (i : Nat) : List Int := q.set (l.getD i 0).toNat (i : Int)
def invTo (l : List Int) (i : Nat) : List Int := (List.range i).foldl (invStep l) (List.replicate l.length 0)
end Go.Proofs.Xx

/-
  hall.Compose of ints.
-/
namespace Go.Proofs.Xx
open Go Go.Proofs
set_option linter.unusedSimpArgs false
set_option linter.unusedVariables false

def compTo (p q : List Int) (i : Nat) : List Int := (q.take i).map (fun x => p.getD x.toNat 0) ++ List.replicate (q.length - i) 0
def compose (p q : List Int) : List Int := q.map (fun x => p.getD x.toNat 0)
def compOk (p q : List Int) : Bool := decide (p.length = q.length) && (permOk p && permOk q)

end Go.Proofs.Xx

/-
  trestlelaw01.perms and HallPerms.
-/
namespace Go.Proofs.Xx
open Go Go.Proofs
set_option linter.unusedSimpArgs false
set_option linter.unusedVariables false

def nums (n : Nat) : List Int := (List.range n).map (fun (k : Nat) => (k : Int))
end Go.Proofs.Xx

/-
  The turns of a table are a group.
-/
namespace Go.Proofs.Xx
open Go Go.Proofs
set_option linter.unusedSimpArgs false
set_option linter.unusedVariables false

abbrev InB (t : Tab) (k : Int) : Prop := 0 ≤ k ∧ k < tsize t
/-- A function of the seats keeps the table. -/
def KeepF (t : Tab) (f : Int → Int) : Prop := ∀ k, InB t k → (openP t k ↔ openP t (f k)) ∧ ∀ m, InB t m → (besideP t k m ↔ besideP t (f k) (f m)) ∧ (acrossP t k m ↔ acrossP t (f k) (f m))
theorem besideP_self (t : Tab) (k : Int) : ¬ besideP t k k := fun h => h.1 rfl
theorem acrossP_self (t : Tab) (k : Int) : ¬ acrossP t k k := fun h => h.1 rfl
theorem keepP_iff {t : Tab} {p : List Int} {f : Int → Int} (hl : p.length = (tsize t).toNat) (e : ∀ k : Nat, k < p.length → pAt p k = f k) : KeepP t p ↔ KeepF t f := by
  constructor
  · intro h
    have H : ∀ a b : Nat, a < p.length → b < p.length → (besideP t a b ↔ besideP t (f a) (f b)) ∧ (acrossP t a b ↔ acrossP t (f a) (f b)) := by
      intro a b ha hb
      rcases Nat.lt_trichotomy a b with q | rfl | q
      · have := (h b hb).2 a q
        unfold KeepM at this
        rw [e a ha, e b hb] at this
        exact ⟨(besideP_symm t _ _).trans (this.1.trans (besideP_symm t _ _)), (acrossP_symm t _ _).trans (this.2.trans (acrossP_symm t _ _))⟩
      · exact ⟨⟨fun z => absurd z (besideP_self t _), fun z => absurd z (besideP_self t _)⟩, ⟨fun z => absurd z (acrossP_self t _), fun z => absurd z (acrossP_self t _)⟩⟩
      · have := (h a ha).2 b q
        unfold KeepM at this
        rw [e a ha, e b hb] at this
        exact this
    intro k hk
    obtain ⟨k, rfl⟩ := Int.eq_ofNat_of_zero_le hk.1
    have hk' : k < p.length := by have := hk.2; omega
    have h1 := (h k hk').1
    rw [e k hk'] at h1
    refine ⟨h1, fun m hm => ?_⟩
    obtain ⟨m, rfl⟩ := Int.eq_ofNat_of_zero_le hm.1
    exact H k m hk' (by have := hm.2; omega)
  · intro h k hk
    have i : InB t k := ⟨by omega, by omega⟩
    refine ⟨by rw [e k hk]; exact (h k i).1, fun m hm => ?_⟩
    unfold KeepM
    rw [e k hk, e m (by omega)]
    exact (h k i).2 m ⟨by omega, by omega⟩
section
variable {t : Tab}
theorem KeepF.mul {f g : Int → Int} (hf : KeepF t f) (hg : KeepF t g) (b : ∀ k, InB t k → InB t (g k)) : KeepF t fun k => f (g k) := fun k hk =>
  ⟨(hg k hk).1.trans (hf _ (b k hk)).1, fun m hm => ⟨((hg k hk).2 m hm).1.trans ((hf _ (b k hk)).2 _ (b m hm)).1, ((hg k hk).2 m hm).2.trans ((hf _ (b k hk)).2 _ (b m hm)).2⟩⟩
theorem KeepF.congr {f g : Int → Int} (hf : KeepF t f) (e : ∀ k, InB t k → f k = g k) : KeepF t g := fun k hk =>
  ⟨by rw [← e k hk]; exact (hf k hk).1, fun m hm => by rw [← e k hk, ← e m hm]; exact (hf k hk).2 m hm⟩
theorem KeepF.one : KeepF t fun k => k := fun k hk => ⟨Iff.rfl, fun m hm => ⟨Iff.rfl, Iff.rfl⟩⟩
theorem acc_iff {st : List Int} (hst : StOk t st) {j : Nat} : acc t st j ↔ KeepF t (mvg t j) ∧ ∀ x, x ∈ st → mvg t j x = x := by
  unfold acc
  rw [keepP_iff (cand_len t j) fun k hk => cand_at (by rw [cand_len] at hk; exact hk)]
  refine and_congr Iff.rfl ⟨fun h x hx => ?_, fun h x hx => ?_⟩
  all_goals
    have b := hst x hx
    have := h x hx
    have e := cand_at (t := t) (j := j) (k := x.toNat) (by omega)
    rw [show ((x.toNat : Nat) : Int) = x by omega] at e
  · rw [← e]; exact this
  · rw [e]; exact this
theorem stOk_nil : StOk t [] := fun x hx => by cases hx
/-- A turn. -/
def Trn (t : Tab) (p : List Int) : Prop := ∃ j, j < mvn t ∧ KeepF t (mvg t j) ∧ p = cand t j
theorem acc_nil {j : Nat} : acc t [] j ↔ KeepF t (mvg t j) := (acc_iff stOk_nil).trans ⟨fun h => h.1, fun h => ⟨h, fun x hx => by cases hx⟩⟩
theorem TurnL.trn {ls : List (List Int)} (H : TurnL t [] ls) (p : List Int) : p ∈ ls ↔ Trn t p :=
  (H.mem p).trans (exists_congr fun j => and_congr Iff.rfl (and_congr acc_nil Iff.rfl))
theorem Trn.len {p : List Int} (h : Trn t p) : p.length = (tsize t).toNat := by
  obtain ⟨j, -, -, rfl⟩ := h
  exact cand_len t j
theorem mvg_in (hs : TabS t) {j : Nat} (hj : j < mvn t) (k : Int) (hk : InB t k) : InB t (mvg t j k) := mvg_b hs hj hk
theorem Trn.bnd (hs : TabS t) {p : List Int} (h : Trn t p) {k : Nat} (hk : k < (tsize t).toNat) : 0 ≤ pAt p k ∧ pAt p k < tsize t := by
  obtain ⟨j, hj, -, rfl⟩ := h
  exact cand_b hs hj hk
theorem nums_len (n : Nat) : (nums n).length = n := by simp [nums]
theorem nums_at {n k : Nat} (h : k < n) : pAt (nums n) k = k := by simp [nums, pAt, List.getD_eq_getElem?_getD, h]
theorem cand_zero (hs : TabS t) : cand t 0 = nums (tsize t).toNat := by
  refine (cand_is (nums_len _) fun k hk => ?_).symm
  rw [nums_at hk, mvg_one hs ⟨by omega, by omega⟩]
theorem Trn.one (hs : TabS t) : Trn t (nums (tsize t).toNat) := ⟨0, by have := mvn_pos hs; omega, KeepF.one.congr fun k hk => (mvg_one hs hk).symm, (cand_zero hs).symm⟩
theorem compose_at {p q : List Int} {k : Nat} (h : k < q.length) : pAt (compose p q) k = pAt p (pAt q k).toNat := by
  simp [compose, pAt, List.getD_eq_getElem?_getD, h]
theorem compose_cand (hs : TabS t) {i j m : Nat} (hj : j < mvn t) (e : ∀ k, 0 ≤ k → k < tsize t → mvg t i (mvg t j k) = mvg t m k) : compose (cand t i) (cand t j) = cand t m := by
  refine cand_is (by simp [compose, cand_len]) fun k hk => ?_
  have b := mvg_b hs hj (k := k) ⟨by omega, by omega⟩
  have e1 := cand_at (t := t) (j := i) (k := (mvg t j k).toNat) (by omega)
  rw [compose_at (by rw [cand_len]; exact hk), cand_at hk, e1, ← e k (by omega) (by omega), show (((mvg t j k).toNat : Nat) : Int) = mvg t j k by omega]
theorem Trn.mul (hs : TabS t) {p q : List Int} (hp : Trn t p) (hq : Trn t q) : Trn t (compose p q) := by
  obtain ⟨i, hi, ki, rfl⟩ := hp
  obtain ⟨j, hj, kj, rfl⟩ := hq
  obtain ⟨m, hm, e⟩ := mvg_mul hs hi hj
  exact ⟨m, hm, (ki.mul kj (mvg_in hs hj)).congr fun k hk => e k hk.1 hk.2, compose_cand hs hj e⟩
theorem cand_inj (hs : TabS t) {j : Nat} (hj : j < mvn t) {x y : Int} (hx : InB t x) (hy : InB t y) (e : mvg t j x = mvg t j y) : x = y := by
  obtain ⟨m, hm, h⟩ := mvg_inv hs hj
  rw [← (h x hx.1 hx.2).2, ← (h y hy.1 hy.2).2, e]
theorem cand_nodup (hs : TabS t) {j : Nat} (hj : j < mvn t) : (cand t j).Nodup := by
  refine nodup_map List.nodup_range fun x y hx hy e => ?_
  rw [List.mem_range] at hx hy
  have := cand_inj hs hj (x := (x : Nat)) (y := (y : Nat)) ⟨by omega, by omega⟩ ⟨by omega, by omega⟩ e
  omega
theorem mem_pAt {p : List Int} {x : Int} : x ∈ p ↔ ∃ k, k < p.length ∧ pAt p k = x := by
  rw [List.mem_iff_getElem]
  constructor
  · rintro ⟨k, hk, rfl⟩; exact ⟨k, hk, by simp [pAt, List.getD_eq_getElem?_getD, hk]⟩
  · rintro ⟨k, hk, rfl⟩; exact ⟨k, hk, by simp [pAt, List.getD_eq_getElem?_getD, hk]⟩
theorem cand_perm (hs : TabS t) {j : Nat} (hj : j < mvn t) : permOk (cand t j) = true := by
  refine decide_eq_true ⟨fun x hx => ?_, cand_nodup hs hj⟩
  obtain ⟨k, hk, rfl⟩ := mem_pAt.1 hx
  rw [cand_len] at hk ⊢
  have := cand_b hs hj hk
  omega
theorem Trn.perm (hs : TabS t) {p : List Int} (h : Trn t p) : permOk p = true := by
  obtain ⟨j, hj, -, rfl⟩ := h
  exact cand_perm hs hj
theorem pAt_inj {p : List Int} (nd : p.Nodup) {i j : Nat} (hi : i < p.length) (hj : j < p.length) (e : pAt p i = pAt p j) : i = j := by
  have e : p[i] = p[j] := by simpa [pAt, List.getD_eq_getElem?_getD, hi, hj] using e
  have nd := List.pairwise_iff_getElem.1 nd
  rcases Nat.lt_trichotomy i j with q | q | q
  · exact absurd e (nd i j hi hj q)
  · exact q
  · exact absurd e.symm (nd j i hj hi q)
abbrev invT (p : List Int) : List Int := invTo p p.length
theorem Trn.one_mul (hs : TabS t) {p : List Int} (h : Trn t p) : compose (nums (tsize t).toNat) p = p := by
  refine ext_pAt (by simp [compose]) fun k hk => ?_
  rw [show (compose (nums (tsize t).toNat) p).length = p.length by simp [compose], h.len] at hk
  have b := h.bnd hs hk
  rw [compose_at (by rw [h.len]; exact hk), nums_at (by omega)]
  omega
/-! the identity is the first -/
def numsF : Nat → Int → List Int
  | 0, _ => []
  | n + 1, s => s :: numsF n (s + 1)
theorem numsF_len : ∀ n s, (numsF n s).length = n
  | 0, _ => rfl
  | n + 1, s => by simp [numsF, numsF_len n]
theorem numsF_at : ∀ n s k, k < n → pAt (numsF n s) k = s + k
  | n + 1, s, 0, _ => by simp [numsF, pAt]
  | n + 1, s, k + 1, h => by
    have := numsF_at n (s + 1) k (by omega)
    simp only [pAt, numsF, List.getD_cons_succ] at this ⊢
    rw [this]; omega
theorem nums_eq (n : Nat) : nums n = numsF n 0 := ext_pAt (by rw [nums_len, numsF_len]) fun k hk => by
  rw [nums_len] at hk
  rw [nums_at hk, numsF_at n 0 k hk]; omega
theorem numsF_least : ∀ (l : List Int) (s : Int), l.Nodup → (∀ x, x ∈ l → s ≤ x) → ¬ ltL l (numsF l.length s)
  | [], _, _, _ => fun h => h
  | a :: l, s, nd, b => by
    rw [List.nodup_cons] at nd
    rintro (h | ⟨rfl, h⟩)
    · have := b a (.head _); omega
    · refine numsF_least l (a + 1) nd.2 (fun x hx => ?_) h
      have := b x (.tail _ hx)
      have : x ≠ a := fun q => nd.1 (by rw [← q]; exact hx)
      omega
theorem Trn.least (hs : TabS t) {p : List Int} (h : Trn t p) : ¬ ltL p (nums (tsize t).toNat) := by
  have hp := of_decide_eq_true (h.perm hs)
  have := numsF_least p 0 hp.2 fun x hx => (hp.1 x hx).1
  rw [h.len, ← nums_eq] at this
  exact this
/-- The first turn is the identity. -/
theorem TurnL.first (hs : TabS t) {p : List Int} {ls : List (List Int)} (H : TurnL t [] (p :: ls)) : p = nums (tsize t).toNat := by
  have T := H.trn
  have h1 := (T _).2 (Trn.one hs)
  rcases List.mem_cons.1 h1 with q | q
  · exact q.symm
  · exact absurd ((List.pairwise_cons.1 H.srt).1 _ q) (((T p).1 (.head _)).least hs)
theorem TurnL.ne (hs : TabS t) {ls : List (List Int)} (H : TurnL t [] ls) : ls ≠ [] := fun q => by
  subst q
  have := (H.trn _).2 (Trn.one hs)
  cases this
end
end Go.Proofs.Xx

/-
  The reference's mirrored spots are the program's moves.
-/
namespace Go.Proofs.Xx
open Go Go.Proofs
set_option linter.unusedSimpArgs false
set_option linter.unusedVariables false

/-- The mirrored place of a spot. -/
def fX (c : Nat) (a x : Int) : Int := if c / 2 = 1 then a - 1 - x else x
def fY (c : Nat) (y : Int) : Int := if c % 2 = 1 then 2 - y else y
section
variable {a b k : Int}
end
section
variable {t : Tab}
end
end Go.Proofs.Xx

/-
  The reference's candidates, its keeps and its order of lists.
-/
namespace Go.Proofs.Xx
open Go Go.Proofs
set_option linter.unusedSimpArgs false
set_option linter.unusedVariables false
set_option maxRecDepth 100000

def rcount (t : Tab) : Nat := if t.shape = 1 then (2 * t.A).toNat else if t.shape = 2 then 4 else 2
def CandV (t : Tab) (c : Nat) (k : Int) (x : Int) : Prop := (c < mvn t → x = mvg t c k) ∧ (mvn t ≤ c → k < t.A)
end Go.Proofs.Xx

/-
  The reference's turns; the turns that keep given seats.
-/
namespace Go.Proofs.Xx
open Go Go.Proofs
set_option linter.unusedSimpArgs false
set_option linter.unusedVariables false
set_option maxRecDepth 100000

/-- The candidates before c that keep the table, in order. -/
structure Ins (t : Tab) (c : Nat) (LL : List PL) : Prop where
  srt : (LL.map (·.2)).Pairwise ltL
  mem : ∀ p, p ∈ LL.map (·.2) ↔ ∃ j, j < c ∧ j < mvn t ∧ acc t [] j ∧ p = cand t j
  len : LL.length ≤ c
theorem Ins.zero {t : Tab} : Ins t 0 [] := ⟨.nil, fun p => ⟨fun h => (List.not_mem_nil h).elim, fun ⟨j, h, _⟩ => by omega⟩, Nat.le_refl _⟩
theorem Ins.there {t : Tab} {c : Nat} {LL : List PL} (T : Ins t c LL) (a : c < mvn t → acc t [] c → cand t c ∈ LL.map (·.2)) : Ins t (c + 1) LL := by
  refine ⟨T.srt, fun p => ?_, by have := T.len; omega⟩
  constructor
  · intro h
    obtain ⟨j, h1, h2⟩ := (T.mem p).1 h
    exact ⟨j, by omega, h2⟩
  · rintro ⟨j, h1, h2, h3, rfl⟩
    rcases Nat.lt_or_ge j c with q | q
    · exact (T.mem _).2 ⟨j, q, h2, h3, rfl⟩
    · obtain rfl : j = c := by omega
      exact a h2 h3
theorem Ins.put {t : Tab} {c : Nat} {LL : List PL} (T : Ins t c LL) (hc : c < mvn t) (a : acc t [] c) (s : SlV) {i : Nat} (hi : i ≤ LL.length) (lo : ∀ j, j < i → ltL (lAt (LL.map (·.2)) j) (cand t c)) (hh : i < LL.length → ltL (cand t c) (lAt (LL.map (·.2)) i)) : Ins t (c + 1) (LL.take i ++ [(s, cand t c)] ++ LL.drop i) := by
  have e : (LL.take i ++ [(s, cand t c)] ++ LL.drop i).map (·.2) = (LL.map (·.2)).take i ++ [cand t c] ++ (LL.map (·.2)).drop i := by simp [List.map_take, List.map_drop]
  refine ⟨?_, fun p => ?_, ?_⟩
  · rw [e]
    exact ins_pw T.srt (fun j h1 _ => lo j h1) fun q => hh (by simpa using q)
  · rw [e, ins_mem, T.mem]
    constructor
    · rintro (rfl | ⟨j, h1, h2⟩)
      · exact ⟨c, by omega, hc, a, rfl⟩
      · exact ⟨j, by omega, h2⟩
    · rintro ⟨j, h1, h2, h3, rfl⟩
      rcases Nat.lt_or_ge j c with q | q
      · exact .inr ⟨j, q, h2, h3, rfl⟩
      · obtain rfl : j = c := by omega
        exact .inl rfl
  · have := T.len
    simp; omega
theorem Ins.turn {t : Tab} {c : Nat} {LL : List PL} (T : Ins t c LL) (h : mvn t ≤ c) : TurnL t [] (LL.map (·.2)) :=
  ⟨T.srt, fun p => (T.mem p).trans ⟨fun ⟨j, _, h⟩ => ⟨j, h⟩, fun ⟨j, h1, h2⟩ => ⟨j, by omega, h1, h2⟩⟩⟩
theorem Ins.lens {t : Tab} {c : Nat} {LL : List PL} (T : Ins t c LL) {x : PL} (hx : x ∈ LL) : x.2.length = (tsize t).toNat := by
  obtain ⟨j, -, -, -, e⟩ := (T.mem x.2).1 (List.mem_map_of_mem hx)
  rw [e, cand_len]
/-! the turns that keep given seats -/
def okN (st : List Int) (k : Nat) (p : List Int) : Bool := decide (∀ m, m < k → pAt p (pAt st m).toNat = pAt st m)
end Go.Proofs.Xx

/-
  Counting the images of a seat; filtered turns.
-/
namespace Go.Proofs.Xx
open Go Go.Proofs
set_option linter.unusedSimpArgs false
set_option linter.unusedVariables false
open Classical

theorem StayL.turn {t : Tab} {st : List Int} {ls : List (List Int)} (H : StayL t st ls) (h1 : chk t = 0) (h2 : StOk t st) : TurnL t st ls := by
  rcases H with ⟨-, -, h⟩ | ⟨h, -⟩
  · exact h
  · exact absurd ⟨h1, h2⟩ h
def seenB (x : Nat) (ls : List (List Int)) (i y : Nat) : Prop := ∃ j, j < i ∧ (pAt (lAt ls j) x).toNat = y
noncomputable def nSeen (x n : Nat) (ls : List (List Int)) (i : Nat) : Nat := sumN n (fun y => if seenB x ls i y then 1 else 0)
/-- The turns among the first i that keep st. -/
def nKeep (st : List Int) (ls : List (List Int)) (i : Nat) : Nat := ((ls.take i).filter (okN st st.length)).length
end Go.Proofs.Xx

/-
  HallOrbit: orbit and stabilizer of a seat.
-/
namespace Go.Proofs.Xx
open Go Go.Proofs
set_option linter.unusedSimpArgs false
set_option linter.unusedVariables false
set_option maxRecDepth 100000

section
variable {P : Program} {X : Extern} {ops : Array Oper} {os : List Oper} {o : Oper} {sz : Nat} {h h0 : AH} {rs : List Rs} {R : Ks → AH → Prop}
/-- Steps that stand ahead of a float. -/
inductive HSteps (P : Program) (ops : Array Oper) (sz : Nat) (h : AH) : Ks → List Nat → Ks → Prop where
  | nil {L : Ks} : HSteps P ops sz h L [] L
  | cons {L L1 L' : Ks} {k : Nat} {ks : List Nat} {ok : Oper} {v : Value} {h' : AH} (hok : ops[k]? = some ok) (hg : guardA ops L.tree ok.guard = some true) (ha : aOp P L.tree h ok.op = some (.val v h')) (hd : putK sz L ok.dst v = some L1) (r : HSteps P ops sz h L1 ks L') : HSteps P ops sz h L (k :: ks) L'
theorem HSteps.mv {L L1 L' : Ks} {k : Nat} {ks : List Nat} {ok : Oper} {v : Value} {x : Operand} (hok : ops[k]? = some ok) (hm : ok.op = .move x) (hx : kA L x = some v) (hg : guardA ops L.tree ok.guard = some true) (hd : putK sz L ok.dst v = some L1) (r : HSteps P ops sz h L1 ks L') : HSteps P ops sz h L (k :: ks) L' :=
  .cons (h' := h) hok hg (by rw [hm]; simp only [aOp, tree_le hx, nextOf]) hd r
theorem HSteps.run {L L' : Ks} {ks : List Nat} (s : HSteps P ops sz h L ks L') : ∀ {t : Tr Value}, Kn t L → Kn (ks.foldl (stepH P ops sz h) t) L' := by
  induction s with
  | nil => intro t hk; exact hk
  | @cons _ _ _ k _ _ _ _ hok hg ha hd r ih =>
    intro t hk
    obtain ⟨t1, e1, k1⟩ := putK_ok hk hd
    rw [List.foldl_cons]
    have : stepH P ops sz h t k = t1 := by
      unfold stepH
      simp only [hok, guardA_le hk.tle hg, aOp_le hk.tle ha, e1]
    rw [this]
    exact ih k1
theorem HintOk.many {L L' : Ks} {j : Nat} {ks : List Nat} {o : Oper} {x : Option Nat} {c : List Value} {e : TypeId} (hp : predsOf ops (masks ops.toList []) j = ks) (ho : ops[j]? = some o) (s : HSteps P ops sz h L ks L') (hf : aFloat P L'.tree o.op = some (x, c, e)) : HintOk P ops sz L h j c e := fun t hk => by
  unfold hintObj
  rw [ho, hp]
  simp only [aFloat_le (s.run hk).tle hf]
end
theorem StayL.out {t : Tab} {st : List Int} {L : List PL} {z : Int} (h : StayL t st (L.map (·.2))) (hz : z ∈ st) (hq : ¬ z < tsize t) : L = [] := by
  rcases h with ⟨-, q, -⟩ | ⟨-, q⟩
  · exact absurd (q z hz).2 hq
  · simpa using q
end Go.Proofs.Xx

/-
  The distance is a metric; blocks part the places.
-/
namespace Go.Proofs.Xx
set_option linter.unusedVariables false

section
variable {N : Int → Int → Prop} {n : Nat}
/-- The distance, 99 where there is no way. -/
def FarIs (N : Int → Int → Prop) (n x y : Nat) (v : Int) : Prop := (∃ e : Nat, IsDist N n x e y ∧ v = e) ∨ (v = 99 ∧ ∀ e, ¬ Wk N n x e y)
theorem FarIs.unique {x y : Nat} {v v' : Int} (h : FarIs N n x y v) (g : FarIs N n x y v') : v = v' := by
  rcases h with ⟨e, h1, h2⟩ | ⟨h1, h2⟩ <;> rcases g with ⟨e', g1, g2⟩ | ⟨g1, g2⟩
  · have := h1.unique g1; omega
  · exact absurd h1.1 (g2 e)
  · exact absurd g1.1 (h2 e')
  · omega
theorem IsDist.symm (hN : ∀ x y, N x y → N y x) {x y e : Nat} (hx : x < n) (hy : y < n) (h : IsDist N n x e y) : IsDist N n y e x :=
  ⟨h.1.symm hN hx hy, fun d hd w => h.2 d hd (w.symm hN hy hx)⟩
theorem FarIs.symm (hN : ∀ x y, N x y → N y x) {x y : Nat} {v : Int} (hx : x < n) (hy : y < n) (h : FarIs N n x y v) : FarIs N n y x v := by
  rcases h with ⟨e, h1, h2⟩ | ⟨h1, h2⟩
  · exact .inl ⟨e, h1.symm hN hx hy, h2⟩
  · exact .inr ⟨h1, fun e w => h2 e (w.symm hN hy hx)⟩
theorem FarIs.lt {x y : Nat} {v : Int} (hx : x < n) (hy : y < n) (hn : n ≤ 24) (h : FarIs N n x y v) : v < 99 ↔ ∃ e, Wk N n x e y := by
  rcases h with ⟨e, h1, h2⟩ | ⟨h1, h2⟩
  · have := h1.lt hx hy
    exact ⟨fun _ => ⟨e, h1.1⟩, fun _ => by omega⟩
  · exact ⟨fun q => by omega, fun ⟨e, q⟩ => absurd q (h2 e)⟩
theorem FarIs.zero {x y : Nat} {v : Int} (h : FarIs N n x y v) : v = 0 ↔ x = y := by
  rcases h with ⟨e, h1, h2⟩ | ⟨h1, h2⟩
  · constructor
    · intro q
      have : e = 0 := by omega
      subst this; exact (show y = x from h1.1).symm
    · intro q
      subst q
      rcases Nat.eq_zero_or_pos e with q | q
      · omega
      · exact absurd rfl (h1.2 0 q)
  · exact ⟨fun q => by omega, fun q => by subst q; exact absurd rfl (h2 0)⟩
theorem FarIs.one {x y : Nat} {v : Int} (hx : x < n) (hI : ∀ x, ¬ N x x) (h : FarIs N n x y v) : v = 1 ↔ N x y := by
  have w1 : N x y → Wk N n x 1 y := fun q => ⟨x, hx, rfl, q⟩
  have back : Wk N n x 1 y → N x y := fun ⟨z, hz, e, q⟩ => by
    have : z = x := e
    subst this; exact q
  rcases h with ⟨e, h1, h2⟩ | ⟨h1, h2⟩
  · constructor
    · intro q
      have : e = 1 := by omega
      subst this; exact back h1.1
    · intro q
      have le : e ≤ 1 := Nat.le_of_not_lt fun z => h1.2 1 z (w1 q)
      rcases Nat.eq_zero_or_pos e with z | z
      · subst z
        have : y = x := h1.1
        subst this; exact absurd q (hI _)
      · omega
  · exact ⟨fun q => by omega, fun q => absurd (w1 q) (h2 1)⟩

/-! ### counting -/
open Classical in
noncomputable def cnt (p : Nat → Prop) : Nat → Nat
  | 0 => 0
  | m + 1 => cnt p m + (if p m then 1 else 0)
/-- How many places the first K blocks have together. -/
noncomputable def sumL : List (List Int) → Nat
  | [] => 0
  | b :: bs => b.length + sumL bs
end
end Go.Proofs.Xx

/-
  Turns keep the distances; a hall of one table.
-/
namespace Go.Proofs.Xx
open Go Go.Proofs
set_option linter.unusedSimpArgs false
set_option linter.unusedVariables false

theorem Wk.map {N : Int → Int → Prop} {n s : Nat} (f : Nat → Nat) (hf : ∀ a b : Nat, a < n → b < n → N a b → N (f a) (f b)) (hn : ∀ a, a < n → f a < n) : ∀ {d y : Nat}, y < n → Wk N n s d y → Wk N n (f s) d (f y)
  | 0, y, _, h => by
    have h : y = s := h
    show f y = f s
    rw [h]
  | d + 1, y, hy, ⟨x, hx, h1, h2⟩ => ⟨f x, hn x hx, Wk.map f hf hn hx h1, hf x y hx hy h2⟩
theorem IsDist.map {N : Int → Int → Prop} {n s : Nat} (f g : Nat → Nat) (hf : ∀ a b : Nat, a < n → b < n → N a b → N (f a) (f b)) (hn : ∀ a, a < n → f a < n) (hg : ∀ a b : Nat, a < n → b < n → N a b → N (g a) (g b)) (gn : ∀ a, a < n → g a < n) (gf : ∀ a, a < n → g (f a) = a) {d y : Nat} (hs : s < n) (hy : y < n) (h : IsDist N n s d y) : IsDist N n (f s) d (f y) :=
  ⟨h.1.map f hf hn hy, fun e he w => h.2 e he (by
    have := w.map g hg gn (hn y hy)
    rw [gf s hs, gf y hy] at this
    exact this)⟩
section
variable {t : Tab}
theorem KeepF.near {f : Int → Int} (h : KeepF t f) {a b : Int} (ha : InB t a) (hb : InB t b) : nearP t a b ↔ nearP t (f a) (f b) := or_congr ((h a ha).2 b hb).1 ((h a ha).2 b hb).2
/-- A turn as a function of the seats keeps the table. -/
theorem Trn.keep {p : List Int} (h : Trn t p) {k m : Nat} (hk : k < (tsize t).toNat) (hm : m < (tsize t).toNat) : (openP t k ↔ openP t (pAt p k)) ∧ (besideP t k m ↔ besideP t (pAt p k) (pAt p m)) ∧ (acrossP t k m ↔ acrossP t (pAt p k) (pAt p m)) := by
  obtain ⟨j, hj, kj, rfl⟩ := h
  rw [cand_at hk, cand_at hm]
  exact ⟨(kj k ⟨by omega, by omega⟩).1, (kj k ⟨by omega, by omega⟩).2 m ⟨by omega, by omega⟩⟩
end
/-! a hall of one table -/
section
variable {l : List Tab} {n : Nat}
theorem where1 (hv : ValidL l) (hl : l.length = 1) (hn : tsize (tb l 0) = n) {k : Nat} (hk : k < n) : WhereI l k 0 k := ⟨hv, by omega, by omega, by simp [sumT]⟩
theorem where1' (hv : ValidL l) (hl : l.length = 1) (hn : tsize (tb l 0) = n) {x : Int} (hx : 0 ≤ x ∧ x < n) : WhereI l x 0 x.toNat := by
  have := where1 hv hl hn (k := x.toNat) (by omega)
  rwa [show ((x.toNat : Nat) : Int) = x by omega] at this
theorem open1 (hv : ValidL l) (hl : l.length = 1) (hn : tsize (tb l 0) = n) {x : Int} (hx : 0 ≤ x ∧ x < n) : OpenR l x ↔ openP (tb l 0) x := by
  have w := where1' hv hl hn hx
  have e : ((x.toNat : Nat) : Int) = x := by omega
  constructor
  · rintro ⟨i, k, q, h⟩
    obtain ⟨rfl, rfl⟩ := w.unique q
    rwa [e] at h
  · exact fun h => ⟨0, x.toNat, w, by rwa [e]⟩
theorem both1 {P : Tab → Int → Int → Prop} (hv : ValidL l) (hl : l.length = 1) (hn : tsize (tb l 0) = n) {x y : Int} (hx : 0 ≤ x ∧ x < n) (hy : 0 ≤ y ∧ y < n) : BothP P l x y ↔ P (tb l 0) x y := by
  have w1 := where1' hv hl hn hx
  have w2 := where1' hv hl hn hy
  have e1 : ((x.toNat : Nat) : Int) = x := by omega
  have e2 : ((y.toNat : Nat) : Int) = y := by omega
  constructor
  · rintro ⟨i, k, m, q1, q2, h⟩
    obtain ⟨rfl, rfl⟩ := w1.unique q1
    obtain ⟨-, rfl⟩ := w2.unique q2
    rwa [e1, e2] at h
  · exact fun h => ⟨0, x.toNat, y.toNat, w1, w2, by rwa [e1, e2]⟩
end
end Go.Proofs.Xx

/-
  HallGroup: the turns are a group that keeps the table.
-/
namespace Go.Proofs.Xx
open Go Go.Proofs
set_option linter.unusedSimpArgs false
set_option linter.unusedVariables false
set_option maxRecDepth 100000

theorem RdI.toL {h : AH} {v : Value} {l : List Int} (r : RdI h v l) : RdL h v 1 eI l := by
  unfold RdL; rw [ints_flat]; exact r
end Go.Proofs.Xx

/-
  Round tables: no turn is missing.
-/
namespace Go.Proofs.Xx
open Go Go.Proofs
set_option linter.unusedSimpArgs false
set_option linter.unusedVariables false

def Adj (A x y : Int) : Prop := nx A x = y ∨ nx A y = x
section
variable {A : Int} {p : Nat → Int}
theorem whole_up (hA : 3 ≤ A) (b : ∀ k : Nat, (k : Int) < A → 0 ≤ p k ∧ p k < A) (inj : ∀ j k : Nat, (j : Int) < A → (k : Int) < A → p j = p k → j = k) (adj : ∀ k : Nat, (k : Int) + 1 < A → Adj A (p k) (p (k + 1))) {c : Nat} (hc : (c : Int) = p 0) (h1 : nx A (p 0) = p 1) :
    ∀ k : Nat, (k : Int) + 1 < A → p k = rgv A (2 * c) k ∧ p (k + 1) = rgv A (2 * c) (k + 1 : Nat)
  | 0, hk => by
    have b0 := b 0 (by omega)
    rw [rgv_rot (by omega) ⟨by omega, by omega⟩, rgv_rot (by omega) ⟨by omega, by omega⟩]
    unfold nx at h1
    show p 0 = _ ∧ p 1 = _
    constructor
    · rw [if_pos (by omega)]; omega
    · rw [← h1]; split <;> split <;> omega
  | k + 1, hk => by
    have ih := whole_up hA b inj adj hc h1 k (by omega)
    refine ⟨ih.2, ?_⟩
    have b0 := b 0 (by omega)
    have b2 := b (k + 2) (by omega)
    have ne : p k ≠ p (k + 2) := fun q => by have := inj _ _ (by omega) (by omega) q; omega
    have ad := adj (k + 1) hk
    have e := ih.1
    have e1 := ih.2
    rw [rgv_rot (by omega) ⟨by omega, by omega⟩] at e e1 ⊢
    unfold Adj nx at ad
    show p (k + 2) = _
    rw [show k + 1 + 1 = k + 2 from rfl] at ad
    generalize p (k + 2) = y at *
    generalize p (k + 1) = x at *
    generalize p k = z at *
    repeat' split at ad
    all_goals (repeat' split at e)
    all_goals (repeat' split at e1)
    all_goals (repeat' split)
    all_goals omega
theorem whole_dn (hA : 3 ≤ A) (b : ∀ k : Nat, (k : Int) < A → 0 ≤ p k ∧ p k < A) (inj : ∀ j k : Nat, (j : Int) < A → (k : Int) < A → p j = p k → j = k) (adj : ∀ k : Nat, (k : Int) + 1 < A → Adj A (p k) (p (k + 1))) {c : Nat} (hc : (c : Int) = p 0) (h1 : nx A (p 1) = p 0) :
    ∀ k : Nat, (k : Int) + 1 < A → p k = rgv A (2 * c + 1) k ∧ p (k + 1) = rgv A (2 * c + 1) (k + 1 : Nat)
  | 0, hk => by
    have b0 := b 0 (by omega)
    have b1 := b 1 (by omega)
    rw [rgv_ref (by omega) ⟨by omega, by omega⟩, rgv_ref (by omega) ⟨by omega, by omega⟩]
    unfold nx at h1
    show p 0 = _ ∧ p 1 = _
    constructor
    · rw [if_neg (by omega)]; omega
    · split at h1 <;> split <;> omega
  | k + 1, hk => by
    have ih := whole_dn hA b inj adj hc h1 k (by omega)
    refine ⟨ih.2, ?_⟩
    have b0 := b 0 (by omega)
    have b2 := b (k + 2) (by omega)
    have ne : p k ≠ p (k + 2) := fun q => by have := inj _ _ (by omega) (by omega) q; omega
    have ad := adj (k + 1) hk
    have e := ih.1
    have e1 := ih.2
    rw [rgv_ref (by omega) ⟨by omega, by omega⟩] at e e1 ⊢
    unfold Adj nx at ad
    show p (k + 2) = _
    rw [show k + 1 + 1 = k + 2 from rfl] at ad
    generalize p (k + 2) = y at *
    generalize p (k + 1) = x at *
    generalize p k = z at *
    repeat' split at ad
    all_goals (repeat' split at e)
    all_goals (repeat' split at e1)
    all_goals (repeat' split)
    all_goals omega
theorem whole (hA : 3 ≤ A) (b : ∀ k : Nat, (k : Int) < A → 0 ≤ p k ∧ p k < A) (inj : ∀ j k : Nat, (j : Int) < A → (k : Int) < A → p j = p k → j = k) (adj : ∀ k : Nat, (k : Int) + 1 < A → Adj A (p k) (p (k + 1))) :
    ∃ j, j < (2 * A).toNat ∧ ∀ k : Nat, (k : Int) < A → p k = rgv A j k := by
  have b0 := b 0 (by omega)
  obtain ⟨c, hc⟩ := Int.eq_ofNat_of_zero_le b0.1
  have fin : ∀ j, (∀ k : Nat, (k : Int) + 1 < A → p k = rgv A j k ∧ p (k + 1) = rgv A j (k + 1 : Nat)) → ∀ k : Nat, (k : Int) < A → p k = rgv A j k := by
    intro j h k hk
    cases k with
    | zero => exact (h 0 (by omega)).1
    | succ k => exact (h k (by omega)).2
  rcases adj 0 (by omega) with h1 | h1
  · exact ⟨2 * c, by omega, fin _ (whole_up hA b inj adj hc.symm h1)⟩
  · exact ⟨2 * c + 1, by omega, fin _ (whole_dn hA b inj adj hc.symm h1)⟩
theorem rgv_inj {j : Nat} (hj : j < (2 * A).toNat) {x y : Int} (hx : 0 ≤ x ∧ x < A) (hy : 0 ≤ y ∧ y < A) (e : rgv A j x = rgv A j y) : x = y := by
  obtain ⟨r, hr, rfl | rfl⟩ := two_cases hj
  · rw [rgv_rot hr hx, rgv_rot hr hy] at e
    repeat' split at e
    all_goals omega
  · rw [rgv_ref hr hx, rgv_ref hr hy] at e
    repeat' split at e
    all_goals omega
theorem rgv_across {j : Nat} (hj : j < (2 * A).toNat) {x y : Int} (hx : 0 ≤ x ∧ x < A) (hy : 0 ≤ y ∧ y < A) (hne : x ≠ y) (b : Int) : roundA A b (min x y) (max x y) ↔ roundA A b (min (rgv A j x) (rgv A j y)) (max (rgv A j x) (rgv A j y)) := by
  unfold roundA
  obtain ⟨r, hr, rfl | rfl⟩ := two_cases hj
  · rw [rgv_rot hr hx, rgv_rot hr hy]
    repeat' split
    all_goals omega
  · rw [rgv_ref hr hx, rgv_ref hr hy]
    repeat' split
    all_goals omega
end
theorem rgv_acrossP {t : Tab} (q : t.shape = 1) {j : Nat} (hj : j < (2 * t.A).toNat) {x y : Int} (hx : 0 ≤ x ∧ x < t.A) (hy : 0 ≤ y ∧ y < t.A) : acrossP t x y ↔ acrossP t (rgv t.A j x) (rgv t.A j y) := by
  by_cases e : x = y
  · subst e
    exact ⟨fun h => absurd h (acrossP_self t _), fun h => absurd h (acrossP_self t _)⟩
  · rw [acrossP_1 e q, acrossP_1 (fun z => e (rgv_inj hj hx hy z)) q]
    exact rgv_across hj hx hy e _
/-- On a round table with three seats or more the permutations that keep neighbours and open seats are the turns. -/
theorem whole_trn {t : Tab} (hs : TabS t) (q : t.shape = 1) (hA : 3 ≤ t.A) {p : List Int} (hl : p.length = (tsize t).toNat) (hb : ∀ k, k < p.length → InB t (pAt p k)) (nd : p.Nodup) :
    Trn t p ↔ ∀ x, x < p.length → (openP t x ↔ openP t (pAt p x)) ∧ ∀ y, y < p.length → (besideP t x y ↔ besideP t (pAt p x) (pAt p y)) := by
  have s := hs.s1 q
  constructor
  · rintro ⟨j, hj, kj, rfl⟩ x hx
    rw [cand_len] at hx
    rw [cand_at hx]
    have k1 := kj x ⟨by omega, by omega⟩
    refine ⟨k1.1, fun y hy => ?_⟩
    rw [cand_len] at hy
    rw [cand_at hy]
    exact (k1.2 y ⟨by omega, by omega⟩).1
  · intro h
    obtain ⟨j, hj, e⟩ := whole (A := t.A) hA (p := pAt p) (fun k hk => by have := hb k (by omega); omega) (fun i k hi hk => pAt_inj nd (by omega) (by omega)) (fun k hk => by
      have := (h k (by omega)).2 (k + 1) (by omega)
      have h1 := this.1 ((besideP_1 hs q ⟨by omega, by omega⟩ ⟨by omega, by omega⟩ (by omega)).2 (.inl (by unfold nx; rw [if_neg (by omega)]; omega)))
      exact (besideP_1 hs q (hb _ (by omega)) (hb _ (by omega)) h1.1).1 h1)
    have hj2 : j < mvn t := by rw [mvn1 q]; exact hj
    have E : ∀ k : Nat, k < p.length → pAt p k = mvg t j k := fun k hk => by rw [mvg1 q]; exact e k (by omega)
    refine ⟨j, hj2, fun k hk => ?_, cand_is hl fun k hk => E k (by omega)⟩
    obtain ⟨k, rfl⟩ := Int.eq_ofNat_of_zero_le hk.1
    have hk2 := hk.2
    have hk' : k < p.length := by omega
    refine ⟨by rw [← E k hk']; exact (h k hk').1, fun m hm => ?_⟩
    obtain ⟨m, rfl⟩ := Int.eq_ofNat_of_zero_le hm.1
    have hm2 := hm.2
    have hm' : m < p.length := by omega
    refine ⟨by rw [← E k hk', ← E m hm']; exact (h k hk').2 m hm', ?_⟩
    rw [mvg1 q, mvg1 q]
    exact rgv_acrossP q hj ⟨by omega, by omega⟩ ⟨by omega, by omega⟩
end Go.Proofs.Xx
