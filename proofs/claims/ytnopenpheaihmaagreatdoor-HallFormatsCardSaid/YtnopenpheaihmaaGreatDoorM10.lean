/-
  Halls that are made of codes.
-/
import Derived.Test.YtnopenpheaihmaaGreatDoorM9
import Derived.Test.YtnopenpheaihmaaGreatDoorM8
import Derived.Test.YtnopenpheaihmaaGreatDoorM6

namespace Go.Proofs.Xx
open Go Go.Proofs
set_option linter.unusedSimpArgs false
set_option linter.unusedVariables false
set_option maxRecDepth 100000

abbrev letter (i : Nat) : List UInt8 := [UInt8.ofNat (97 + i)]
theorem letter_lt {i : Nat} (h : i < 16) : (UInt8.ofNat (97 + i)).toNat = 97 + i := by
  rw [UInt8.toNat_ofNat']; omega
theorem letter_inj {i j : Nat} (hi : i < 16) (hj : j < 16) (h : letter i = letter j) : i = j := by
  have : UInt8.ofNat (97 + i) = UInt8.ofNat (97 + j) := by simpa [letter] using h
  have := congrArg UInt8.toNat this
  rw [letter_lt hi, letter_lt hj] at this
  omega
/-- The hall of codes. -/
structure MadeH (cs : List Cod) (l : List Tab) : Prop where
  len : l.length = min cs.length 16
  tab : ∀ i, i < l.length → ∃ t, MadeT (cd cs i) (letter i) t ∧ tb l i = { t with X := 7 * (i : Int), Y := 100 - (i : Int) }
def OpnA (l : List Tab) (h : AH) (fp : Fp) : Prop := ∀ j, j < l.length → RdL h (tb l j).ov 1 eI (tb l j).opn
theorem MadeH.le {cs : List Cod} {l : List Tab} (m : MadeH cs l) : l.length ≤ 16 := by have := m.len; omega
theorem MadeH.name {cs : List Cod} {l : List Tab} (m : MadeH cs l) {i : Nat} (h : i < l.length) : (tb l i).name = letter i := by
  obtain ⟨t, h1, h2⟩ := m.tab i h
  rw [h2]; exact h1.name
theorem tsize_xy (t : Tab) (x y : Int) : tsize { t with X := x, Y := y } = tsize t := rfl
theorem MadeH.chk {cs : List Cod} {l : List Tab} (m : MadeH cs l) {i : Nat} (h : i < l.length) : chk (tb l i) = 0 := by
  have hle := m.le
  obtain ⟨t, h1, h2⟩ := m.tab i h
  rw [h2]
  unfold Xx.chk
  have hn : nameP t.name := by
    rw [h1.name]
    refine ⟨by simp, by simp, fun j hj => ?_⟩
    obtain rfl : j = 0 := by simpa using hj
    show lowB (UInt8.ofNat (97 + i))
    unfold lowB
    rw [letter_lt (by omega)]; omega
  have hp := h1.ts.pos
  rw [if_neg (by simpa using hn), tsize_xy, if_neg (by omega), if_neg (by simpa using h1.opn), if_neg]
  simp only [XYok, Classical.not_not]
  omega
theorem MadeH.valid {cs : List Cod} {l : List Tab} (m : MadeH cs l) : ValidL l := by
  have hle := m.le
  refine ⟨hle, fun j hj => ⟨m.chk hj, fun ⟨i, hi, he⟩ => ?_⟩⟩
  rw [m.name (by omega), m.name hj] at he
  have := letter_inj (by omega) (by omega) he
  omega
end Go.Proofs.Xx

/-
  Distances found level by level.
-/
namespace Go.Proofs.Xx
set_option linter.unusedVariables false

theorem pigeon : ∀ (n m : Nat) (f : Nat → Nat), (∀ k, k < m → f k < n) → (∀ i j, i < m → j < m → f i = f j → i = j) → m ≤ n
  | 0, m, f, h1, _ => by
    rcases Nat.eq_zero_or_pos m with h | h
    · omega
    · exact absurd (h1 0 h) (Nat.not_lt_zero _)
  | n + 1, m, f, h1, h2 => by
    by_cases hk : ∃ k, k < m ∧ f k = n
    · obtain ⟨k0, hk0, he⟩ := hk
      have := pigeon n (m - 1) (fun k => if k = k0 then f (m - 1) else f k) (fun k hk => by
        have key : ∀ j, j < m → j ≠ k0 → f j < n := fun j hj hne => by
          have := h1 j hj
          have : f j ≠ n := fun q => hne (h2 j k0 hj hk0 (by omega))
          omega
        split
        · exact key _ (by omega) (by omega)
        · exact key _ (by omega) (by assumption)) (fun i j hi hj q => by
        split at q <;> split at q
        · omega
        · have := h2 _ _ (by omega) (by omega) q; omega
        · have := h2 _ _ (by omega) (by omega) q; omega
        · exact h2 _ _ (by omega) (by omega) q)
      omega
    · have := pigeon n m f (fun k hk' => by
        have := h1 k hk'
        have : f k ≠ n := fun q => hk ⟨k, hk', q⟩
        omega) h2
      omega

section
variable {N : Int → Int → Prop} {n s : Nat}
theorem IsDist.pred {d y : Nat} (h : IsDist N n s (d + 1) y) : ∃ x : Nat, x < n ∧ IsDist N n s d x ∧ N x y := by
  obtain ⟨⟨x, hx, hw, hn⟩, h2⟩ := h
  refine ⟨x, hx, ⟨hw, fun e he q => h2 (e + 1) (by omega) ⟨x, hx, q, hn⟩⟩, hn⟩
theorem IsDist.lt {d y : Nat} (hs : s < n) (h : IsDist N n s d y) (hy : y < n) : d < n := by
  have all : ∀ (d y : Nat), y < n → IsDist N n s d y → ∀ k, k ≤ d → ∃ x, x < n ∧ IsDist N n s k x := by
    intro d
    induction d with
    | zero => intro y hy h k hk; exact ⟨y, hy, by rw [show k = 0 by omega]; exact h⟩
    | succ d ih =>
      intro y hy h k hk
      rcases Nat.eq_or_lt_of_le hk with q | q
      · exact ⟨y, hy, by rw [q]; exact h⟩
      · obtain ⟨x, hx, h3, -⟩ := h.pred
        exact ih x hx h3 k (by omega)
  have ch := all d y hy h
  have := Classical.axiomOfChoice (r := fun (k : Nat) (x : Nat) => k ≤ d → x < n ∧ IsDist N n s k x) (fun k => by
    by_cases hk : k ≤ d
    · obtain ⟨x, hx⟩ := ch k hk; exact ⟨x, fun _ => hx⟩
    · exact ⟨0, fun q => absurd q hk⟩)
  obtain ⟨f, hf⟩ := this
  have := pigeon n (d + 1) f (fun k hk => (hf k (by omega)).1) (fun i j hi hj q => by
    have h1 := (hf i (by omega)).2
    have h2 := (hf j (by omega)).2
    rw [q] at h1
    exact h1.unique h2)
  omega

/-- In the level d, the seats before a, and of a those before b, are looked at. -/
structure Lev (N : Int → Int → Prop) (n s d a b : Nat) (l : List Int) : Prop where
  len : l.length = n
  at_ : ∀ y, y < n → (∃ e : Nat, e ≤ d ∧ IsDist N n s e y ∧ l.getD y default = (e : Int)) ∨
    ((¬ ∃ e, e ≤ d ∧ IsDist N n s e y) ∧ (((∃ x, x < n ∧ (x < a ∨ (x = a ∧ y < b)) ∧ IsDist N n s d x ∧ N x y) ∧ l.getD y default = (d : Int) + 1) ∨ ((¬ ∃ x, x < n ∧ (x < a ∨ (x = a ∧ y < b)) ∧ IsDist N n s d x ∧ N x y) ∧ l.getD y default = -1)))
theorem getD_set_int (l : List Int) (i j : Nat) (v : Int) (h : i < l.length) : (l.set i v).getD j default = if j = i then v else l.getD j default := by
  simp only [List.getD_eq_getElem?_getD, List.getElem?_set]
  by_cases hj : j = i
  · subst hj; simp [h]
  · rw [if_neg hj, if_neg (Ne.symm hj)]
theorem Lev.start {l : List Int} (hl : l.length = n) (hs : s < n) (h0 : l.getD s default = 0) (h1 : ∀ y, y < n → y ≠ s → l.getD y default = -1) : Lev N n s 0 0 0 l := by
  refine ⟨hl, fun y hy => ?_⟩
  by_cases q : y = s
  · subst q
    exact .inl ⟨0, Nat.le_refl _, ⟨rfl, fun e he => absurd he (Nat.not_lt_zero _)⟩, h0⟩
  · refine .inr ⟨?_, .inr ⟨?_, h1 y hy q⟩⟩
    · rintro ⟨e, he, h2, -⟩
      obtain rfl : e = 0 := by omega
      exact q h2
    · rintro ⟨x, -, h3, -⟩; omega
theorem Lev.row {d a : Nat} {l : List Int} (L : Lev N n s d a n l) : Lev N n s d (a + 1) 0 l := by
  have he : ∀ y, y < n → ∀ x, (x < a ∨ (x = a ∧ y < n)) ↔ (x < a + 1 ∨ (x = a + 1 ∧ y < 0)) := fun y hy x => by omega
  refine ⟨L.len, fun y hy => ?_⟩
  have := L.at_ y hy
  simp only [he y hy] at this
  exact this
theorem Lev.level {d : Nat} {l : List Int} (L : Lev N n s d n 0 l) : Lev N n s (d + 1) 0 0 l := by
  refine ⟨L.len, fun y hy => ?_⟩
  rcases L.at_ y hy with ⟨e, h1, h2, h3⟩ | ⟨h1, ⟨⟨x, hx, -, h3, h4⟩, h5⟩ | ⟨h2, h3⟩⟩
  · exact .inl ⟨e, by omega, h2, h3⟩
  · refine .inl ⟨d + 1, Nat.le_refl _, ⟨⟨x, hx, h3.1, h4⟩, fun e he q => ?_⟩, by rw [h5]; simp⟩
    obtain ⟨e', q1, q2⟩ := q.least
    exact h1 ⟨e', by omega, q2⟩
  · refine .inr ⟨?_, .inr ⟨?_, h3⟩⟩
    · rintro ⟨e, he, q⟩
      rcases Nat.lt_or_ge d e with q1 | q1
      · obtain rfl : e = d + 1 := by omega
        obtain ⟨x, hx, q2, q3⟩ := q.pred
        exact h2 ⟨x, hx, .inl hx, q2, q3⟩
      · exact h1 ⟨e, q1, q⟩
    · rintro ⟨x, -, h3, -⟩; omega
theorem Lev.is {d a b x : Nat} {l : List Int} (L : Lev N n s d a b l) (hx : x < n) : l.getD x default = (d : Int) ↔ IsDist N n s d x := by
  rcases L.at_ x hx with ⟨e, h1, h2, h3⟩ | ⟨h1, ⟨-, h5⟩ | ⟨-, h3⟩⟩
  · exact ⟨fun q => by rw [h3] at q; have : e = d := by omega
                       rw [← this]; exact h2, fun q => by rw [h3, h2.unique q]⟩
  · exact ⟨fun q => by omega, fun q => absurd ⟨d, Nat.le_refl _, q⟩ h1⟩
  · exact ⟨fun q => by omega, fun q => absurd ⟨d, Nat.le_refl _, q⟩ h1⟩
/-- Nothing is written: the seat is told already, or there is no way over a. -/
theorem Lev.keep {d a b : Nat} {l : List Int} (L : Lev N n s d a b l) (ha : a < n) (hb : b < n) (h : ¬ (l.getD a default = (d : Int) ∧ l.getD b default < 0 ∧ N a b)) : Lev N n s d a (b + 1) l := by
  refine ⟨L.len, fun y hy => ?_⟩
  rcases L.at_ y hy with q | ⟨h1, ⟨⟨x, hx, h2, h3, h4⟩, h5⟩ | ⟨h2, h3⟩⟩
  · exact .inl q
  · exact .inr ⟨h1, .inl ⟨⟨x, hx, by omega, h3, h4⟩, h5⟩⟩
  · refine .inr ⟨h1, .inr ⟨?_, h3⟩⟩
    rintro ⟨x, hx, q1, q2, q3⟩
    by_cases q : x = a ∧ y = b
    · obtain ⟨rfl, rfl⟩ := q
      exact h ⟨(L.is hx).2 q2, by omega, q3⟩
    · exact h2 ⟨x, hx, by omega, q2, q3⟩
theorem Lev.put {d a b : Nat} {l : List Int} (L : Lev N n s d a b l) (ha : a < n) (hb : b < n) (h1 : l.getD a default = (d : Int)) (h2 : l.getD b default < 0) (h3 : N a b) : Lev N n s d a (b + 1) (l.set b ((d : Int) + 1)) := by
  have hda := (L.is ha).1 h1
  refine ⟨by rw [List.length_set]; exact L.len, fun y hy => ?_⟩
  rw [getD_set_int l b y _ (by rw [L.len]; exact hb)]
  rcases L.at_ y hy with ⟨e, g1, g2, g3⟩ | ⟨g1, g2⟩
  · by_cases q : y = b
    · subst q; omega
    · rw [if_neg q]; exact .inl ⟨e, g1, g2, g3⟩
  · by_cases q : y = b
    · subst q
      rw [if_pos rfl]
      exact .inr ⟨g1, .inl ⟨⟨a, ha, by omega, hda, h3⟩, rfl⟩⟩
    · rw [if_neg q]
      rcases g2 with ⟨⟨x, hx, k2, k3, k4⟩, k5⟩ | ⟨k2, k3⟩
      · exact .inr ⟨g1, .inl ⟨⟨x, hx, by omega, k3, k4⟩, k5⟩⟩
      · exact .inr ⟨g1, .inr ⟨fun ⟨x, hx, r1, r2, r3⟩ => k2 ⟨x, hx, by omega, r2, r3⟩, k3⟩⟩
theorem Lev.done {l : List Int} (L : Lev N n s n 0 0 l) (hs : s < n) : DistL N n s l := by
  refine ⟨L.len, fun y hy => ?_⟩
  rcases L.at_ y hy with ⟨e, g1, g2, g3⟩ | ⟨g1, ⟨⟨x, -, k2, -⟩, -⟩ | ⟨k2, k3⟩⟩
  · exact .inr ⟨e, g3, g2⟩
  · omega
  · refine .inl ⟨k3, fun d q => ?_⟩
    obtain ⟨e, q1, q2⟩ := q.least
    exact g1 ⟨e, Nat.le_of_lt (q2.lt hs hy), q2⟩
end
end Go.Proofs.Xx

/-
  The reference's seats across and near; its distances.
-/
namespace Go.Proofs.Xx
open Go Go.Proofs
set_option linter.unusedSimpArgs false
set_option linter.unusedVariables false
set_option maxRecDepth 100000
set_option maxHeartbeats 4000000

def wrp (a p i : Int) : Int := if p + i < a then p + i else p + i - a
end Go.Proofs.Xx

/-
  The reference's distances, honour seats and levels.
-/
namespace Go.Proofs.Xx
open Go Go.Proofs
set_option linter.unusedSimpArgs false
set_option linter.unusedVariables false
set_option maxRecDepth 100000
set_option maxHeartbeats 4000000

def openP (t : Tab) (k : Int) : Prop := ∃ i, i < t.opn.length ∧ t.opn.getD i default = k
def SeatAt (t : Tab) (X Y r : Int) : Prop := (r = -1 ∧ ∀ k : Nat, (k : Int) < tsize t → ¬ (spX t.A t.B k = X ∧ spY t.A t.B k = Y)) ∨ ∃ k : Nat, r = k ∧ (k : Int) < tsize t ∧ (spX t.A t.B k = X ∧ spY t.A t.B k = Y) ∧ ∀ j : Nat, j < k → ¬ (spX t.A t.B j = X ∧ spY t.A t.B j = Y)
end Go.Proofs.Xx

/-
  HallChecks: its contract.
-/
namespace Go.Proofs.Xx
open Go Go.Proofs
set_option linter.unusedSimpArgs false
set_option linter.unusedVariables false
set_option maxRecDepth 100000
set_option maxHeartbeats 1000000

section
variable {l2 l : List Tab}
theorem SameAll.all (s : SameAll l2 l) (i : Nat) : SameTab (tb l2 i) (tb l i) := by
  rcases Nat.lt_or_ge i l2.length with h | h
  · exact s.2 i h
  · have := s.1
    simp only [tb, List.getD_eq_getElem?_getD, List.getElem?_eq_none h, List.getElem?_eq_none (show l.length ≤ i by omega)]
    rfl
theorem SameAll.chk (s : SameAll l2 l) (i : Nat) : chk (tb l2 i) = chk (tb l i) := by have := s.all i; unfold SameTab at this; rw [this]; rfl
theorem SameAll.name (s : SameAll l2 l) (i : Nat) : (tb l2 i).name = (tb l i).name := by have := s.all i; unfold SameTab at this; rw [this]
theorem SameAll.size (s : SameAll l2 l) (i : Nat) : tsize (tb l2 i) = tsize (tb l i) := by have := s.all i; unfold SameTab at this; rw [this]; rfl
theorem SameAll.valid (s : SameAll l2 l) : ValidL l2 ↔ ValidL l := by
  unfold ValidL goodAt dupAt
  simp only [s.chk, s.name, s.1]
theorem SameAll.sum (s : SameAll l2 l) : ∀ n, sumT l2 n = sumT l n
  | 0 => rfl
  | n + 1 => by simp only [sumT, s.sum n, s.size]
theorem SameAll.first (s : SameAll l2 l) (t : Int) : firstV l2 t = firstV l t := by
  unfold firstV
  by_cases q : 0 ≤ t ∧ t < l.length ∧ ValidL l
  · rw [if_pos q, if_pos ⟨q.1, by rw [s.1]; exact q.2.1, s.valid.2 q.2.2⟩, s.sum]
  · rw [if_neg q, if_neg fun k => q ⟨k.1, by rw [← s.1]; exact k.2.1, s.valid.1 k.2.2⟩]
theorem SameAll.seats (s : SameAll l2 l) (i : Nat) : seatsV (tb l2 i) = seatsV (tb l i) := by
  unfold seatsV
  simp only [s.chk, s.size]
def FindR (l : List Tab) (nm : List UInt8) (k2 : Int) (f2 : Bool) : Prop :=
  (f2 = true ∧ ∃ k : Nat, k2 = k ∧ ValidL l ∧ k < l.length ∧ (tb l k).name = nm ∧ ∀ j, j < k → ¬ (tb l j).name = nm) ∨ (f2 = false ∧ k2 = 0 ∧ (¬ ValidL l ∨ ∀ j, j < l.length → ¬ (tb l j).name = nm))
theorem ValidL.one (k : ValidL l) {i j : Nat} (hi : i < l.length) (hj : j < l.length) (h : (tb l i).name = (tb l j).name) : i = j := by
  rcases Nat.lt_trichotomy i j with q | q | q
  · exact absurd ⟨i, q, h⟩ (k.2 j hj).2
  · exact q
  · exact absurd ⟨j, q, h.symm⟩ (k.2 i hi).2
end
theorem awake_ok {h0 : AH} : Fn Tryz.prog Xh 21 [] h0 (fun v h' => v = .bool true ∧ h' = h0) := Fn_known rfl ⟨rfl, rfl⟩

end Go.Proofs.Xx

/-
  Seats by their numbers: the program's questions.
-/
namespace Go.Proofs.Xx
open Go Go.Proofs
set_option linter.unusedSimpArgs false
set_option linter.unusedVariables false
set_option maxRecDepth 100000
set_option maxHeartbeats 4000000

/-- The seat s of the hall is the seat k of the table i. -/
def WhereI (l : List Tab) (s : Int) (i k : Nat) : Prop := ValidL l ∧ i < l.length ∧ (k : Int) < tsize (tb l i) ∧ s = sumT l i + k
theorem sumT_mono (l : List Tab) {i j : Nat} (h : i ≤ j) : sumT l i ≤ sumT l j := by
  induction h with
  | refl => exact Int.le_refl _
  | @step m _ ih => have := tsize_le (tb l m); simp only [sumT]; omega
theorem WhereI.unique {l : List Tab} {s : Int} {i k j m : Nat} (h : WhereI l s i k) (g : WhereI l s j m) : i = j ∧ k = m := by
  obtain ⟨-, h2, h3, h4⟩ := h
  obtain ⟨-, g2, g3, g4⟩ := g
  rcases Nat.lt_trichotomy i j with q | q | q
  · have := sumT_mono l (show i + 1 ≤ j by omega); simp only [sumT] at this; omega
  · subst q; exact ⟨rfl, by omega⟩
  · have := sumT_mono l (show j + 1 ≤ i by omega); simp only [sumT] at this; omega
theorem WhereI.sz {l : List Tab} {s : Int} {i k : Nat} (h : WhereI l s i k) : TabS (tb l i) := TabS.of _ (by have := h.2.2.1; omega)
def WhereR (l : List Tab) (s a b : Int) (f : Bool) : Prop := (f = true ∧ ∃ i k : Nat, a = i ∧ b = k ∧ WhereI l s i k) ∨ (f = false ∧ a = 0 ∧ b = 0 ∧ ∀ i k, ¬ WhereI l s i k)
theorem WhereR.unique {l : List Tab} {s a b a' b' : Int} {f f' : Bool} (h : WhereR l s a b f) (g : WhereR l s a' b' f') : a = a' ∧ b = b' ∧ f = f' := by
  rcases h with ⟨rfl, i, k, rfl, rfl, h⟩ | ⟨rfl, rfl, rfl, h⟩ <;> rcases g with ⟨rfl, j, m, rfl, rfl, g⟩ | ⟨rfl, rfl, rfl, g⟩
  · obtain ⟨rfl, rfl⟩ := h.unique g; exact ⟨rfl, rfl, rfl⟩
  · exact absurd h (g _ _)
  · exact absurd g (h _ _)
  · exact ⟨rfl, rfl, rfl⟩
def PairR (l : List Tab) (a b : Int) (t : Tab) (x y : Int) (f : Bool) : Prop := (f = true ∧ ∃ i k m : Nat, t = tb l i ∧ x = k ∧ y = m ∧ WhereI l a i k ∧ WhereI l b i m) ∨ (f = false ∧ t = default ∧ x = 0 ∧ y = 0 ∧ ∀ i k m, WhereI l a i k → ¬ WhereI l b i m)
/-- Of two seats of one table P holds. -/
def BothP (P : Tab → Int → Int → Prop) (l : List Tab) (a b : Int) : Prop := ∃ i k m : Nat, WhereI l a i k ∧ WhereI l b i m ∧ P (tb l i) k m
def DistR (l : List Tab) (a b d : Int) (f : Bool) : Prop := (f = true ∧ ∃ (i k m : Nat) (e : Nat), WhereI l a i k ∧ WhereI l b i m ∧ d = e ∧ IsDist (nearP (tb l i)) (tsize (tb l i)).toNat k e m) ∨ (f = false ∧ d = 0 ∧ ∀ i k m e, WhereI l a i k → WhereI l b i m → ¬ IsDist (nearP (tb l i)) (tsize (tb l i)).toNat k e m)
def LevR (l : List Tab) (a v : Int) : Prop := (∃ (i k : Nat) (ld : List Int), WhereI l a i k ∧ DistL (nearP (tb l i)) (tsize (tb l i)).toNat (tHon (tb l i)).toNat ld ∧ v = (lvl (tsize (tb l i)).toNat ld).getD k default) ∨ (v = 0 ∧ ∀ i k, ¬ WhereI l a i k)
def OpenR (l : List Tab) (a : Int) : Prop := ∃ i k : Nat, WhereI l a i k ∧ openP (tb l i) k
open Classical in
/-- The near seats among the first n. -/
noncomputable def nbUp (N : Int → Int → Prop) (k a : Int) : Nat → List Int
  | 0 => []
  | m + 1 => if N k m then nbUp N k a m ++ [a - k + m] else nbUp N k a m
def NbR (l : List Tab) (a : Int) (out : List Int) : Prop := (∃ i k : Nat, WhereI l a i k ∧ out = nbUp (nearP (tb l i)) k a (tsize (tb l i)).toNat) ∨ (out = [] ∧ ∀ i k, ¬ WhereI l a i k)
end Go.Proofs.Xx

/-
  HallNumbers: the seats of a hall are numbered without gaps.
-/
namespace Go.Proofs.Xx
open Go Go.Proofs
set_option linter.unusedSimpArgs false
set_option linter.unusedVariables false
set_option maxRecDepth 100000

theorem WhereR.is {l : List Tab} {s a b : Int} {f : Bool} (h : WhereR l s a b f) {i k : Nat} (q : WhereI l s i k) : a = i ∧ b = k ∧ f = true := h.unique (.inl ⟨rfl, i, k, rfl, rfl, q⟩)
theorem WhereR.no {l : List Tab} {s a b : Int} {f : Bool} (h : WhereR l s a b f) (q : ∀ i k, ¬ WhereI l s i k) : a = 0 ∧ b = 0 ∧ f = false := h.unique (.inr ⟨rfl, rfl, rfl, q⟩)
theorem MadeH.sz {cs : List Cod} {l : List Tab} (m : MadeH cs l) {i : Nat} (h : i < l.length) : TabS (tb l i) := by
  obtain ⟨t, h1, h2⟩ := m.tab i h
  refine TabS.of _ ?_
  rw [h2, tsize_xy]; exact h1.ts.pos
theorem MadeH.seats {cs : List Cod} {l : List Tab} (m : MadeH cs l) {i : Nat} (h : i < l.length) : seatsV (tb l i) = tsize (tb l i) := by
  unfold seatsV; rw [if_pos (m.chk h)]
theorem MadeH.first {cs : List Cod} {l : List Tab} (m : MadeH cs l) {i : Nat} (h : i < l.length) : firstV l i = sumT l i := by
  unfold firstV; rw [if_pos ⟨by omega, by omega, m.valid⟩, Int.toNat_natCast]
def wZebra : List UInt8 := [122, 101, 98, 114, 97]

end Go.Proofs.Xx

/-
  Sorting by a key, in place: merging.
-/
namespace Go.Proofs.Xx
open Go Go.Proofs
set_option linter.unusedSimpArgs false
set_option linter.unusedVariables false
set_option maxRecDepth 100000

theorem IsRot.none {a b : Nat} {l : List Int} : IsRot a b b l l := fun k => by
  congr 1; unfold rot; split
  · rfl
  · split
    · omega
    · split
      · omega
      · rfl
end Go.Proofs.Xx

/-
  Distances are less than the number of places; lists in strict order with the same elements.
-/
namespace Go.Proofs.Xx
set_option linter.unusedVariables false

section
variable {N : Int → Int → Prop} {n s : Nat}
end

/-- Two lists in strict order with the same elements are the same. -/
theorem strict_ext {α : Type} {lt : α → α → Prop} (irr : ∀ x, ¬ lt x x) (tr : ∀ {x y z}, lt x y → lt y z → lt x z) : ∀ {l m : List α}, l.Pairwise lt → m.Pairwise lt → (∀ x, x ∈ l ↔ x ∈ m) → l = m
  | [], [], _, _, _ => rfl
  | [], y :: m, _, _, h => by have := (h y).2 (by simp); simp at this
  | x :: l, [], _, _, h => by have := (h x).1 (by simp); simp at this
  | x :: l, y :: m, h1, h2, h => by
    rw [List.pairwise_cons] at h1 h2
    have e : x = y := by
      have a := (h x).1 (by simp)
      have b := (h y).2 (by simp)
      rw [List.mem_cons] at a b
      rcases a with a | a
      · exact a
      · rcases b with b | b
        · exact b.symm
        · exact absurd (tr (h1.1 y b) (h2.1 x a)) (irr x)
    subst e
    congr 1
    refine strict_ext irr tr h1.2 h2.2 fun z => ?_
    have hz := h z
    rw [List.mem_cons, List.mem_cons] at hz
    constructor
    · intro q
      rcases hz.1 (.inr q) with r | r
      · subst r; exact absurd (h1.1 z q) (irr z)
      · exact r
    · intro q
      rcases hz.2 (.inr q) with r | r
      · subst r; exact absurd (h2.1 z q) (irr z)
      · exact r
/-- The order of honour: by key, then by number. -/
def HonL (key : Int → Int) (f n : Int) (out : List Int) : Prop := out.Pairwise (lexi key) ∧ ∀ x, x ∈ out ↔ f ≤ x ∧ x < f + n
theorem HonL.unique {key : Int → Int} {f n : Int} {a b : List Int} (ha : HonL key f n a) (hb : HonL key f n b) : a = b :=
  strict_ext (lexi_ord key).irr (lexi_ord key).tr ha.1 hb.1 fun x => (ha.2 x).trans (hb.2 x).symm
end Go.Proofs.Xx

/-
  The order of honour.
-/
namespace Go.Proofs.Xx
open Go Go.Proofs
set_option linter.unusedSimpArgs false
set_option linter.unusedVariables false
set_option maxRecDepth 100000

theorem lvl_get (n : Nat) (l : List Int) (i : Nat) (h : i < l.length) : (lvl n l).getD i default = if l.getD i default < 0 then (n : Int) else l.getD i default := by
  simp [lvl, List.getD_eq_getElem?_getD, List.getElem?_map, List.getElem?_eq_getElem h]
/-- The first n seats of a table whose first seat is f. -/
def ups (f : Int) (n : Nat) : List Int := (List.range n).map fun k : Nat => f + (k : Int)
def HonR (l : List Tab) (t : Int) (out : List Int) : Prop :=
  (∃ (i n : Nat) (ld : List Int), t = i ∧ i < l.length ∧ ValidL l ∧ tsize (tb l i) = n ∧ DistL (nearP (tb l i)) n (tHon (tb l i)).toNat ld ∧ HonL (fun x => (lvl n ld).getD (x - sumT l i).toNat default) (sumT l i) n out) ∨ (¬ (0 ≤ t ∧ t < l.length ∧ ValidL l) ∧ out = [])
theorem HonR.unique {l : List Tab} {t : Int} {a b : List Int} (ha : HonR l t a) (hb : HonR l t b) : a = b := by
  rcases ha with ⟨i, n, ld, rfl, h1, h2, h3, h4, h5⟩ | ⟨h1, rfl⟩ <;> rcases hb with ⟨i', n', ld', e, g1, g2, g3, g4, g5⟩ | ⟨g1, rfl⟩
  · obtain rfl : i = i' := by omega
    obtain rfl : n = n' := by omega
    obtain rfl := h4.unique g4
    exact h5.unique g5
  · exact absurd ⟨by omega, by omega, h2⟩ g1
  · exact absurd ⟨by omega, by omega, g2⟩ h1
  · rfl

/-- The order of honour as far as it is told: levels below d, and d among the first k. -/
def HonPre (key : Int → Int) (f : Int) (n : Nat) (d : Int) (k : Nat) (out : List Int) : Prop := out.Pairwise (lexi key) ∧ ∀ x, x ∈ out ↔ ∃ j : Nat, j < n ∧ x = f + j ∧ (key x < d ∨ (key x = d ∧ j < k))
theorem HonPre.take {key : Int → Int} {f : Int} {n : Nat} {d : Int} {k : Nat} {out : List Int} (h : HonPre key f n d k out) (hk : k < n) (hq : key (f + k) = d) : HonPre key f n d (k + 1) (out ++ [f + k]) := by
  refine ⟨List.pairwise_append.2 ⟨h.1, by simp, fun a ha b hb => ?_⟩, fun x => ?_⟩
  · obtain ⟨j, h1, h2, h3⟩ := (h.2 a).1 ha
    rw [List.mem_singleton] at hb
    subst hb
    unfold lexi
    omega
  · rw [List.mem_append, List.mem_singleton, h.2]
    constructor
    · rintro (⟨j, h1, h2, h3⟩ | h1)
      · exact ⟨j, h1, h2, by omega⟩
      · exact ⟨k, hk, h1, by rw [h1]; omega⟩
    · rintro ⟨j, h1, h2, h3⟩
      rcases Nat.lt_trichotomy j k with q | q | q
      · exact .inl ⟨j, h1, h2, by omega⟩
      · subst q; exact .inr h2
      · exact .inl ⟨j, h1, h2, by omega⟩
theorem HonPre.level {key : Int → Int} {f : Int} {n : Nat} {d : Int} {out : List Int} (h : HonPre key f n d n out) : HonPre key f n (d + 1) 0 out := by
  refine ⟨h.1, fun x => ?_⟩
  rw [h.2]
  constructor
  · rintro ⟨j, h1, h2, h3⟩; exact ⟨j, h1, h2, by omega⟩
  · rintro ⟨j, h1, h2, h3⟩; exact ⟨j, h1, h2, by omega⟩
theorem HonPre.done {key : Int → Int} {f : Int} {n : Nat} {d : Int} {out : List Int} (h : HonPre key f n d 0 out) (hb : ∀ j : Nat, j < n → key (f + j) < d) : HonL key f n out := by
  refine ⟨h.1, fun x => ?_⟩
  rw [h.2]
  constructor
  · rintro ⟨j, h1, h2, h3⟩; omega
  · intro ⟨h1, h2⟩
    refine ⟨(x - f).toNat, by omega, by omega, .inl ?_⟩
    have := hb (x - f).toNat (by omega)
    rwa [show f + ((x - f).toNat : Int) = x by omega] at this

end Go.Proofs.Xx

/-
  Levels, near seats, the order of honour.
-/
namespace Go.Proofs.Xx
set_option linter.unusedVariables false

section
variable {N : Int → Int → Prop} {n s : Nat} {ld : List Int}
/-- The level of a place. -/
def lev (n : Nat) (ld : List Int) (k : Nat) : Int := if ld.getD k default < 0 then (n : Int) else ld.getD k default
end

/-! ### the order of honour, by index -/
section
variable {key : Int → Int} {f : Int} {n : Nat} {out : List Int}
theorem HonL.at_ (h : HonL key f n out) {i j : Nat} (hij : i < j) (hj : j < out.length) : lexi key (out.getD i default) (out.getD j default) := by
  have := List.pairwise_iff_getElem.1 h.1 i j (by omega) hj hij
  rw [List.getD_eq_getElem?_getD, List.getD_eq_getElem?_getD, List.getElem?_eq_getElem hj, List.getElem?_eq_getElem (show i < out.length by omega)]
  exact this
theorem HonL.mem_ (h : HonL key f n out) {i : Nat} (hi : i < out.length) : f ≤ out.getD i default ∧ out.getD i default < f + n := by
  refine (h.2 _).1 ?_
  rw [List.getD_eq_getElem?_getD, List.getElem?_eq_getElem hi]
  exact List.getElem_mem hi
theorem HonL.inj (h : HonL key f n out) {i j : Nat} (hi : i < out.length) (hj : j < out.length) (e : out.getD i default = out.getD j default) : i = j := by
  have irr := (lexi_ord key).irr
  rcases Nat.lt_trichotomy i j with q | q | q
  · have := h.at_ q hj; rw [e] at this; exact absurd this (irr _)
  · exact q
  · have := h.at_ q hi; rw [e] at this; exact absurd this (irr _)
theorem HonL.pos_ (h : HonL key f n out) {k : Nat} (hk : k < n) : ∃ i, i < out.length ∧ out.getD i default = f + k := by
  have := (h.2 (f + k)).2 ⟨by omega, by omega⟩
  obtain ⟨i, hi, e⟩ := List.getElem_of_mem this
  refine ⟨i, hi, ?_⟩
  rw [List.getD_eq_getElem?_getD, List.getElem?_eq_getElem hi]; exact e
theorem HonL.len (h : HonL key f n out) : out.length = n := by
  refine Nat.le_antisymm ?_ ?_
  · refine pigeon n out.length (fun i => (out.getD i default - f).toNat) (fun k hk => ?_) fun i j hi hj e => ?_
    · have := h.mem_ hk; show (out.getD k default - f).toNat < n; omega
    · have a := h.mem_ hi
      have b := h.mem_ hj
      have e : (out.getD i default - f).toNat = (out.getD j default - f).toNat := e
      exact h.inj hi hj (by omega)
  · have ch : ∀ k, ∃ i, k < n → i < out.length ∧ out.getD i default = f + k := fun k => by
      by_cases hk : k < n
      · obtain ⟨i, hi⟩ := h.pos_ hk; exact ⟨i, fun _ => hi⟩
      · exact ⟨0, fun q => absurd q hk⟩
    obtain ⟨g, hg⟩ := Classical.axiomOfChoice ch
    refine pigeon out.length n g (fun k hk => (hg k hk).1) fun i j hi hj e => ?_
    have a := (hg i hi).2
    have b := (hg j hj).2
    rw [e] at a
    omega
/-- The first in the order of honour is the only one with the key 0. -/
theorem HonL.zero (h : HonL key f n out) {s : Nat} (hs : s < n) (hz : ∀ k : Nat, k < n → (key (f + k) = 0 ↔ k = s)) (hb : ∀ k : Nat, k < n → 0 ≤ key (f + k)) {i : Nat} (hi : i < out.length) : key (out.getD i default) = 0 ↔ i = 0 := by
  have at' : ∀ {i : Nat}, i < out.length → ∃ k : Nat, k < n ∧ out.getD i default = f + k := fun {i} hi => by
    have := h.mem_ hi
    exact ⟨(out.getD i default - f).toNat, by omega, by omega⟩
  obtain ⟨j, hj, ej⟩ := h.pos_ hs
  have k0 : key (out.getD j default) = 0 := by rw [ej]; exact (hz s hs).2 rfl
  have uniq : ∀ {i : Nat}, i < out.length → key (out.getD i default) = 0 → i = j := fun {i} hi e => by
    obtain ⟨k, hk, ek⟩ := at' hi
    rw [ek] at e
    have := (hz k hk).1 e
    subst this
    exact h.inj hi hj (by rw [ek, ej])
  have j0 : j = 0 := by
    rcases Nat.eq_zero_or_pos j with q | q
    · exact q
    · exfalso
      have hl := h.at_ q hj
      obtain ⟨k, hk, ek⟩ := at' (show 0 < out.length by omega)
      have := hb k hk
      rw [← ek] at this
      unfold lexi at hl
      have e0 : key (out.getD 0 default) = 0 := by omega
      have := uniq (show 0 < out.length by omega) e0
      omega
  constructor
  · intro q; rw [uniq hi q, j0]
  · intro q; rw [q, ← j0]; exact k0
end
end Go.Proofs.Xx

/-
  HallLevels: the order of honour goes by levels.
-/
namespace Go.Proofs.Xx
open Go Go.Proofs
set_option linter.unusedSimpArgs false
set_option linter.unusedVariables false
set_option maxRecDepth 100000

theorem lvl_lev {n : Nat} {ld : List Int} {k : Nat} (h : k < ld.length) : (lvl n ld).getD k default = lev n ld k := by rw [lvl_get n ld k h]; rfl
theorem LevR.is {l : List Tab} {a d : Int} {i k n : Nat} {ld : List Int} (h : LevR l a d) (w : WhereI l a i k) (hn : tsize (tb l i) = n) (D : DistL (nearP (tb l i)) n (tHon (tb l i)).toNat ld) : d = lev n ld k := by
  have hnn : (tsize (tb l i)).toNat = n := by omega
  rcases h with ⟨i', k', ld', w', D', e⟩ | ⟨-, h⟩
  · obtain ⟨rfl, rfl⟩ := w.unique w'
    rw [hnn] at D' e
    obtain rfl := D.unique D'
    rw [e, lvl_lev]
    have := w.2.2.1
    rw [D.1]; omega
  · exact absurd w (h _ _)
theorem NbR.is {l : List Tab} {a : Int} {i k n : Nat} {out : List Int} (h : NbR l a out) (w : WhereI l a i k) (hn : tsize (tb l i) = n) : out = nbUp (nearP (tb l i)) k a n := by
  have hnn : (tsize (tb l i)).toNat = n := by omega
  rcases h with ⟨i', k', w', e⟩ | ⟨-, h⟩
  · obtain ⟨rfl, rfl⟩ := w.unique w'
    rw [e, hnn]
  · exact absurd w (h _ _)
theorem DistR.is {l : List Tab} {a b d : Int} {f : Bool} {i k m n : Nat} (h : DistR l a b d f) (w1 : WhereI l a i k) (w2 : WhereI l b i m) (hn : tsize (tb l i) = n) : f = true ↔ ∃ e, Wk (nearP (tb l i)) n k e m := by
  have hnn : (tsize (tb l i)).toNat = n := by omega
  rcases h with ⟨rfl, i', k', m', e, q1, q2, -, q3⟩ | ⟨rfl, -, q⟩
  · obtain ⟨rfl, rfl⟩ := w1.unique q1
    obtain ⟨-, rfl⟩ := w2.unique q2
    rw [hnn] at q3
    exact ⟨fun _ => ⟨e, q3.1⟩, fun _ => rfl⟩
  · refine ⟨fun q => (by cases q), fun ⟨e, he⟩ => ?_⟩
    obtain ⟨e', -, h2⟩ := he.least
    exact absurd (by rw [hnn]; exact h2) (q i k m e' w1 w2)
theorem HonR.is {l : List Tab} {i n : Nat} {out : List Int} (h : HonR l i out) (hi : i < l.length) (hv : ValidL l) (hn : tsize (tb l i) = n) : ∃ ld, DistL (nearP (tb l i)) n (tHon (tb l i)).toNat ld ∧ HonL (fun x => (lvl n ld).getD (x - sumT l i).toNat default) (sumT l i) n out := by
  rcases h with ⟨i', n', ld, e, h1, h2, h3, h4, h5⟩ | ⟨h1, -⟩
  · obtain rfl : i = i' := by omega
    obtain rfl : n = n' := by omega
    exact ⟨ld, h4, h5⟩
  · exact absurd ⟨by omega, by omega, hv⟩ h1
end Go.Proofs.Xx

/-
  Blocks of places that reach each other.
-/
namespace Go.Proofs.Xx
set_option linter.unusedVariables false

section
variable {N : Int → Int → Prop} {n : Nat}
def Rch (N : Int → Int → Prop) (n k m : Nat) : Prop := ∃ d, Wk N n k d m
theorem Rch.refl (k : Nat) : Rch N n k k := ⟨0, rfl⟩
theorem Wk.trans {s y : Nat} {d : Nat} (h : Wk N n s d y) : ∀ {e z : Nat}, Wk N n y e z → Wk N n s (d + e) z
  | 0, z, g => by
    have : z = y := g
    subst this; exact h
  | e + 1, z, ⟨x, hx, g, hn⟩ => ⟨x, hx, Wk.trans h g, hn⟩
theorem Wk.symm (hN : ∀ x y, N x y → N y x) {s : Nat} (hs : s < n) : ∀ {d y : Nat}, y < n → Wk N n s d y → Wk N n y d s
  | 0, y, hy, h => Eq.symm (show y = s from h)
  | d + 1, y, hy, ⟨x, hx, h, hn⟩ => by
    have h1 : Wk N n y 1 x := ⟨y, hy, rfl, hN _ _ hn⟩
    have := Wk.trans h1 (Wk.symm hN hs hx h)
    rwa [Nat.add_comm] at this
theorem Rch.trans {a b c : Nat} (h : Rch N n a b) (g : Rch N n b c) : Rch N n a c := by
  obtain ⟨d, h⟩ := h
  obtain ⟨e, g⟩ := g
  exact ⟨d + e, h.trans g⟩
theorem Rch.symm (hN : ∀ x y, N x y → N y x) {a b : Nat} (ha : a < n) (hb : b < n) (h : Rch N n a b) : Rch N n b a := by
  obtain ⟨d, h⟩ := h
  exact ⟨d, h.symm hN ha hb⟩
open Classical in
/-- What k reaches among the first m. -/
noncomputable def blkPre (N : Int → Int → Prop) (n : Nat) (f : Int) (k : Nat) : Nat → List Int
  | 0 => []
  | m + 1 => if Rch N n k m then blkPre N n f k m ++ [f + (m : Int)] else blkPre N n f k m
def leastP (N : Int → Int → Prop) (n k : Nat) : Prop := ∀ m, m < n → Rch N n k m → k ≤ m
open Classical in
/-- The blocks whose least place is among the first m. -/
noncomputable def blksPre (N : Int → Int → Prop) (n : Nat) (f : Int) : Nat → List (List Int)
  | 0 => []
  | m + 1 => if leastP N n m then blksPre N n f m ++ [blkPre N n f m n] else blksPre N n f m
end
end Go.Proofs.Xx

/-
  Lists of lists; the blocks of a table.
-/
namespace Go.Proofs.Xx
open Go Go.Proofs
set_option linter.unusedSimpArgs false
set_option linter.unusedVariables false
set_option maxRecDepth 100000

/-- The values vs read as the lists ls. -/
def LLs (vs : List Value) (ls : List (List Int)) (h : AH) (fp : Fp) : Prop := vs.length = ls.length ∧ ∀ j, j < ls.length → RdL h (vs.getD j default) 1 eI (ls.getD j default)
def RLL (h : AH) (v : Value) (ls : List (List Int)) : Prop := ∃ vs, RdL h v 1 eV vs ∧ vs.length = ls.length ∧ ∀ j, j < ls.length → RdL h (vs.getD j default) 1 eI (ls.getD j default)
theorem RLL.ext {h h' : AH} {v : Value} {ls : List (List Int)} (r : RLL h v ls) (w : WfH h) (x : Ext h h') : RLL h' v ls := by
  obtain ⟨vs, h1, h2, h3⟩ := r
  exact ⟨vs, h1.ext w x, h2, fun j hj => (h3 j hj).ext w x⟩
theorem RLL.nil {h : AH} : RLL h (.slice none 0 0) [] := ⟨[], Rd.none_ h 1, rfl, fun j hj => absurd hj (Nat.not_lt_zero _)⟩
theorem LLs.nil (h : AH) (fp : Fp) : LLs [] [] h fp := ⟨rfl, fun j hj => absurd hj (Nat.not_lt_zero _)⟩
theorem RLL.of {h0 h : AH} {rs : List Rs} {v : Value} {e : TypeId} {vs : List Value} {ls : List (List Int)} (S : Hs h0 h rs) (a : At rs (.sl v e 1 eV vs)) (b : At rs (.any (LLs vs ls))) : RLL h v ls := by
  obtain ⟨fp, k⟩ := S.anyP b
  exact ⟨vs, Rd.of_sl S a, k.1, k.2⟩

def BlkR (l : List Tab) (t : Int) (ls : List (List Int)) : Prop :=
  (∃ i n : Nat, t = i ∧ i < l.length ∧ ValidL l ∧ tsize (tb l i) = n ∧ ls = blksPre (nearP (tb l i)) n (sumT l i) n) ∨ (¬ (0 ≤ t ∧ t < l.length ∧ ValidL l) ∧ ls = [])
theorem BlkR.unique {l : List Tab} {t : Int} {a b : List (List Int)} (ha : BlkR l t a) (hb : BlkR l t b) : a = b := by
  rcases ha with ⟨i, n, rfl, h1, h2, h3, rfl⟩ | ⟨h1, rfl⟩ <;> rcases hb with ⟨i', n', e, g1, g2, g3, rfl⟩ | ⟨g1, rfl⟩
  · obtain rfl : i = i' := by omega
    obtain rfl : n = n' := by omega
    rfl
  · exact absurd ⟨by omega, by omega, h2⟩ g1
  · exact absurd ⟨by omega, by omega, g2⟩ h1
  · rfl
end Go.Proofs.Xx

/-
  HallRefuses: a hall with a mistake is refused, and nothing is told of it.
-/
namespace Go.Proofs.Xx
open Go Go.Proofs
set_option linter.unusedSimpArgs false
set_option linter.unusedVariables false
set_option maxRecDepth 100000

section
variable {P : Program} {X : Extern} {inR : Bool} {sz : Nat} {L : Ks} {h h0 : AH} {rs : List Rs} {ops : Array Oper} {os : List Oper} {o : Oper} {R : Ks → AH → Prop} {Q : KQ}
theorem bsn' {ty : TypeId} {n : Nat} {ps : Array (Nat × Operand)} {vs : List (Nat × Value)} {c : List Value} {e : TypeId} {α : Type} {z : Nat} {d : Tmp} (enc : α → List Value) (l : List α) (S : Hs h0 h rs) (w : ∀ u h', Hs h0 h' (.sl u e z enc l :: rs) → KO P X sz ops os (L.put d u) h' R) (ho : o.op = .buildSlice ty n ps := by exact rfl) (hg : guardA ops L.tree o.guard = some true := by exact rfl)
    (hx : kParts L ps.toList = some vs := by exact rfl) (hv : aBuildSlice P ty n vs h = some (.slice (some ⟨h.next, 0, none⟩) n n, h.add (.cells c e none false)) := by exact rfl) (hl : l.length = n := by exact rfl) (hc : c = l.flatMap enc := by exact rfl) (hz : c.length = l.length * z := by exact rfl) (hdst : o.dst = some d := by exact rfl) (hds : Nat.blt d sz = true := by exact rfl) : KO P X sz ops (o :: os) L h R := by
  subst hl
  exact KO_bslice ho hg hx hv (by simp only [putK, hdst, hds]) (w _ _ ((S.add c e).asSl (z := z) enc l hc hz))
end

theorem chk_zero {t : Tab} (h : chk t = 0) : nameP t.name ∧ tsize t ≠ 0 ∧ OpnOk (tsize t) t.opn ∧ XYok t := by
  unfold chk at h
  split at h
  · omega
  · rename_i h1
    split at h
    · omega
    · rename_i h2
      split at h
      · omega
      · rename_i h3
        split at h
        · omega
        · rename_i h4
          exact ⟨Classical.not_not.1 h1, h2, Classical.not_not.1 h3, Classical.not_not.1 h4⟩
def badNames : List (List UInt8) := [[], [65], [97, 32, 98], [97, 98, 99, 100, 101, 102, 103, 104, 105, 106, 107, 108, 109], [97, 10]]
theorem bstr0_ok {h0 h : AH} {rs : List Rs} {bb : Nat} (S : Hs h0 h (.blk bb [.pointer none, .slice none 0 0] 122 :: rs)) : Fn Tryz.prog Xh 112 [.pointer (some ⟨bb, 0, none⟩)] h (fun r h' => r = str [] ∧ Hs h0 h' (.blk bb [.pointer none, .slice none 0 0] 122 :: rs)) := by
  refine Fn_K rfl Tryz.func112 rfl rfl ?_
  all_goals (repeat' (first | refine K_seq ?_ | refine k_cond rfl ?_ | refine K_skip ?_ | refine K_exit ?_ | refine k_block ?_ | refine K_scope ?_ | (refine K_region (id := 0) ?_; refine mv ?_; refine KO_nil ?_)))
  refine K_draw (id := 1) ?_
  refine mv ?_; refine vl ?_; refine vl ?_; refine lB S rfl rfl ?_; refine vl ?_; refine mv ?_; refine vl ?_; refine vl ?_; refine lB S rfl rfl ?_; refine vl ?_; refine vl ?_; refine mv ?_; refine KO_nil ?_
  all_goals (repeat' (first | refine K_seq ?_ | refine k_cond rfl ?_ | refine K_skip ?_ | refine K_exit ?_ | refine k_block ?_ | refine K_scope ?_ | (refine K_region (id := 0) ?_; refine mv ?_; refine KO_nil ?_) | (refine K_draw (id := 1) ?_; refine mv ?_; refine vl ?_; (first | refine vl ?_ | refine fB S ?_ | refine fS S rfl rfl ?_ | refine fA ?_); (first | refine lB S rfl rfl ?_ | refine lES2 S rfl rfl ?_ | refine lEB S ?_ | refine lH S ?_))))
  refine K_ret ⟨_, rfl, ?_⟩
  exact ⟨rfl, S⟩
/-- The format of a hall that is not valid, and of no tables. -/
theorem format0_ok {h0 : AH} (w : WfH h0) (v : Value) (l : List Tab) (H : HallR h0 v l) (hl : ¬ ValidL l ∨ l.length = 0) : Fn Tryz.prog Xh 54 [v] h0 (fun r h' => r = str [] ∧ Hs h0 h' []) := by
  have S := Hs.start w
  have hr := H.rd
  have hn := H.len
  refine Fn_K rfl Tryz.func54 rfl rfl ?_
  all_goals (repeat' (first | refine K_seq ?_ | refine k_cond rfl ?_ | refine K_skip ?_ | refine K_exit ?_ | refine k_block ?_ | refine K_scope ?_ | (refine K_region (id := 0) ?_; refine mv ?_; refine KO_nil ?_) | (refine K_region (id := 1) ?_; refine mv ?_)))
  (refine KO_fn rfl rfl rfl rfl rfl ((valid_ok S.wf v l (H.ext w S.ext)).mono ?_); rintro _ h ⟨⟨rfl, hq⟩ | ⟨rfl, hq⟩, x⟩) <;> (replace S := S.join0 x; clear x; refine vl ?_; refine KO_nil ?_)
  rotate_left
  · all_goals (repeat' (first | refine K_seq ?_ | refine k_cond rfl ?_ | refine K_skip ?_ | refine K_exit ?_ | refine k_block ?_ | refine K_scope ?_ | (refine K_region (id := 2) ?_; refine mv ?_; refine KO_nil ?_) | (refine K_region (id := 3) ?_; (refine al S ?_; clear S; intro b h S); refine KO_nil ?_) | (refine K_region (id := 4) ?_; refine mv ?_; (first | refine lnB S ?_ | refine lnS S rfl rfl ?_); refine mv ?_; refine KO_nil ?_)))
    refine K_ret ⟨_, rfl, ?_⟩
    exact ⟨rfl, S⟩
  have hz : l.length = 0 := hl.resolve_left fun q => q hq
  all_goals (repeat' (first | refine K_seq ?_ | refine k_cond rfl ?_ | refine K_skip ?_ | refine K_exit ?_ | refine k_block ?_ | refine K_scope ?_ | (refine K_region (id := 2) ?_; refine mv ?_; refine KO_nil ?_) | (refine K_region (id := 3) ?_; (refine al S ?_; clear S; intro b h S); refine KO_nil ?_) | (refine K_region (id := 4) ?_; refine mv ?_; (first | refine lnB S ?_ | refine lnS S rfl rfl ?_); refine mv ?_; refine KO_nil ?_)))
  obtain ⟨bb, hnm⟩ : ∃ x, x = b := ⟨_, rfl⟩; subst hnm
  refine k_loop (σ := Unit) (fun _ h' => Hs h0 h' [.blk bb [.pointer none, .slice none 0 0] 122]) (fun _ => 0) (fun _ => [(3, .pointer (some ⟨bb, 0, none⟩)), (14, .int .i64 0), (15, .int .i64 0)]) () (by repeat (first | exact Ks.le_nil _ | refine Ks.le_cons rfl ?_ | refine Ks.le_int ?_)) ?_ ?_
  · exact S
  clear S
  rintro - h S
  all_goals (repeat' (first | refine K_seq ?_ | refine k_cond rfl ?_ | refine K_skip ?_ | refine K_exit ?_ | refine k_block ?_ | refine K_scope ?_ | (refine K_region (id := 5) ?_; (first | refine cT ?_ | refine cF ?_ | (refine cS ?_ ?_ <;> intro hc)) <;> (refine KO_nil ?_))))
  all_goals (repeat' (first | refine K_seq ?_ | refine k_cond rfl ?_ | refine K_skip ?_ | refine K_exit ?_ | refine k_block ?_ | refine K_scope ?_ | (refine K_region (id := 16) ?_; skip)))
  (refine KO_fn rfl rfl rfl rfl rfl ((bstr0_ok S).mono ?_); rintro _ h ⟨rfl, S2⟩) <;> (replace S := S2; clear S2; refine mv ?_; refine KO_nil ?_)
  all_goals (repeat' (first | refine K_seq ?_ | refine k_cond rfl ?_ | refine K_skip ?_ | refine K_exit ?_ | refine k_block ?_ | refine K_scope ?_ | (refine K_region (id := 5) ?_; (first | refine cT ?_ | refine cF ?_ | (refine cS ?_ ?_ <;> intro hc)) <;> (refine KO_nil ?_)) | (refine K_region (id := 6) ?_; (first | refine ixB S ?_ | refine ixS2 S rfl rfl ?_); (first | refine lB S rfl rfl ?_ | refine lES2 S rfl rfl ?_ | refine lEB S ?_ | refine lH S ?_); (refine al S ?_; clear S; intro b h S); (first | (refine sB S rfl rfl ?_; clear S; intro h S) | (refine sE2 S rfl rfl ?_; clear S; intro h S)); refine KO_nil ?_) | (refine K_region (id := 7) ?_; (first | refine vl ?_ | refine fB S ?_ | refine fS S rfl rfl ?_ | refine fA ?_); (first | refine lB S rfl rfl ?_ | refine lES2 S rfl rfl ?_ | refine lEB S ?_ | refine lH S ?_)) | (refine K_region (id := 16) ?_; skip)))
  refine K_ret ⟨_, rfl, ?_⟩
  exact ⟨rfl, S.drop⟩

end Go.Proofs.Xx

/-
  The builder of strings: copyCheck, WriteString, String.
-/
namespace Go.Proofs.Xx
open Go Go.Proofs
set_option linter.unusedSimpArgs false
set_option linter.unusedVariables false
set_option maxRecDepth 100000

section
variable {P : Program} {X : Extern} {inR : Bool} {sz : Nat} {L : Ks} {h h0 : AH} {rs : List Rs} {ops : Array Oper} {os : List Oper} {o : Oper} {R : Ks → AH → Prop} {Q : KQ}
/-- A pointer to a block as an unsafe pointer. -/
theorem pU1 {L' : Ks} {x : Operand} {s dt e t : TypeId} {b m : Nat} {c : List Value} (hb : h.get b = some (.cells c e none false)) (w : KO P X sz ops os L' h R) (ho : o.op = .convert s dt x := by exact rfl) (hg : guardA ops L.tree o.guard = some true := by exact rfl) (hx : kA L x = some (.pointer (some ⟨b, 0, none⟩)) := by exact rfl)
    (hs : P.underlying s = some (.pointer t) := by exact rfl) (hd : P.underlying dt = some .unsafePointer := by exact rfl) (hz : sizeT P t = some (m + 1) := by exact rfl) (hc : Nat.blt 0 c.length = true := by exact rfl) (hp : putK sz L o.dst (.pointer (some ⟨b, 0, none⟩)) = some L' := by exact rfl) : KO P X sz ops (o :: os) L h R :=
  KO_val hg (by rw [ho]; simp only [aOp, tree_le hx, aConvert, hs, hd, aToString, aUnsafePtr, hb, hz, hc, nextOf]) hp w
theorem pU2 {L' : Ks} {x : Operand} {s dt e t : TypeId} {b m : Nat} {c : List Value} (hb : h.get b = some (.cells c e none false)) (w : KO P X sz ops os L' h R) (ho : o.op = .convert s dt x := by exact rfl) (hg : guardA ops L.tree o.guard = some true := by exact rfl) (hx : kA L x = some (.pointer (some ⟨b, 0, none⟩)) := by exact rfl)
    (hs : P.underlying s = some .unsafePointer := by exact rfl) (hd : P.underlying dt = some (.pointer t) := by exact rfl) (hz : sizeT P t = some (m + 1) := by exact rfl) (hc : liesAt P P.depth e (c.length / P.cellsOf e) 0 t 1 = true := by exact rfl) (hp : putK sz L o.dst (.pointer (some ⟨b, 0, none⟩)) = some L' := by exact rfl) : KO P X sz ops (o :: os) L h R :=
  KO_val hg (by rw [ho]; simp only [aOp, tree_le hx, aConvert, hs, hd, aToString, aUnsafePtr, hb, hz, hc, nextOf]) hp w
/-- A pointer is not another than itself. -/
theorem pN {L' : Ks} {x y : Operand} {ty ty2 e : TypeId} {b m : Nat} (w : KO P X sz ops os L' h R) (ho : o.op = .binOp .neq ty x y ty2 := by exact rfl) (hg : guardA ops L.tree o.guard = some true := by exact rfl) (hx : kA L x = some (.pointer (some ⟨b, 0, none⟩)) := by exact rfl) (hy : kA L y = some (.pointer (some ⟨b, 0, none⟩)) := by exact rfl)
    (hu : P.underlying ty = some (.pointer e) := by exact rfl) (hz : sizeT P e = some (m + 1) := by exact rfl) (hp : putK sz L o.dst (.bool false) = some L' := by exact rfl) : KO P X sz ops (o :: os) L h R :=
  KO_bin ho hg hx hy (v := .bool false) (by simp only [aBin, hu, hz, show Nat.beq b b = true by simp]; rfl) hp w
theorem tcL {L' : Ks} {x y : Operand} {ty ty2 : TypeId} {l m : List UInt8} (w : KO P X sz ops os L' h R) (ho : o.op = .binOp .add ty x y ty2 := by exact rfl) (hg : guardA ops L.tree o.guard = some true := by exact rfl) (hx : kA L x = some (str l) := by exact rfl) (hy : kA L y = some (str m) := by exact rfl)
    (hb : l.length + m.length ≤ 4611686018427387904 := by first | omega | (simp only [List.length_append, List.length_cons, List.length_nil, wRound, wLong, wShoe, wRow]; omega) | (simp only [List.length_append, List.length_cons, List.length_nil, tb]; omega)) (hp : putK sz L o.dst (str (l ++ m)) = some L' := by exact rfl) : KO P X sz ops (o :: os) L h R := s_cat ho hg hx hy hb hp w
theorem K_joinR {σ : Type} {a b c : Code} (I : σ → AH → Prop) (sl : σ → Ks) (w1 : K P X inR sz a L h (thenK P X inR sz b (cutB I sl Q))) (w2 : ∀ s h', I s h' → K P X inR sz c (sl s) h' Q) : K P X inR sz a L h (thenK P X inR sz (.seq b c) Q) :=
  w1.mono fun x L' h' q => by
    cases x with
    | norm => exact K_cut I sl q w2
    | exit id => exact q
    | ret => exact q
end

/-- A builder in its block, with the bytes l in it. -/
abbrev bst (bb : Nat) (q v : Value) : Rs := .blk bb [q, v] 122
abbrev bsl (v : Value) (l : List UInt8) : Rs := .sl v 5 1 eU (l.map UInt8.toNat)
def QP (bb : Nat) (q : Value) : Prop := q = .pointer none ∨ q = .pointer (some ⟨bb, 0, none⟩)
theorem noEsc_ok {h0 : AH} (v : Value) : Fn Tryz.prog Xh 200 [v] h0 (fun r h' => r = v ∧ h' = h0) := Fn_known rfl ⟨rfl, rfl⟩
theorem ccheck_ok {h0 h : AH} {rs : List Rs} {bb : Nat} {q v : Value} (S : Hs h0 h (bst bb q v :: rs)) (hq : QP bb q) : Fn Tryz.prog Xh 163 [.pointer (some ⟨bb, 0, none⟩)] h (fun r h' => Hs h0 h' (bst bb (.pointer (some ⟨bb, 0, none⟩)) v :: rs)) := by
  rcases hq with rfl | rfl
  · refine Fn_K rfl Tryz.func163 rfl rfl ?_
    all_goals (repeat' (first | refine K_seq ?_ | refine k_cond rfl ?_ | refine K_skip ?_ | refine K_exit ?_ | refine k_block ?_ | refine K_scope ?_ | (refine K_region (id := 0) ?_; refine mv ?_; refine vl ?_; (first | refine vl ?_ | refine fB S ?_ | refine fS S rfl rfl ?_ | refine fA ?_); (first | refine lB S rfl rfl ?_ | refine lES2 S rfl rfl ?_ | refine lEB S ?_ | refine lH S ?_); refine vl ?_; refine KO_nil ?_)))
    refine K_region (id := 1) ?_
    refine mv ?_; refine mv ?_
    refine pU1 (b := bb) (c := [.pointer none, v]) (e := 122) S.gB ?_
    (refine KO_fn rfl rfl rfl rfl rfl ((noEsc_ok _).mono ?_); rintro _ h ⟨rfl, rfl⟩) <;> (refine pU2 (b := bb) (c := [.pointer none, v]) (e := 122) S.gB ?_ (hc := by kernel_rfl); ((refine vl ?_; (first | refine vl ?_ | refine fB S ?_ | refine fS S rfl rfl ?_ | refine fA ?_); (first | (refine sB S rfl rfl ?_; clear S; intro h S) | (refine sE2 S rfl rfl ?_; clear S; intro h S)); refine KO_nil ?_)))
    all_goals (repeat' (first | refine K_seq ?_ | refine k_cond rfl ?_ | refine K_skip ?_ | refine K_exit ?_ | refine k_block ?_ | refine K_scope ?_ | (refine K_region (id := 0) ?_; refine mv ?_; refine vl ?_; (first | refine vl ?_ | refine fB S ?_ | refine fS S rfl rfl ?_ | refine fA ?_); (first | refine lB S rfl rfl ?_ | refine lES2 S rfl rfl ?_ | refine lEB S ?_ | refine lH S ?_); refine vl ?_; refine KO_nil ?_) | (refine K_region (id := 1) ?_; refine mv ?_; refine mv ?_) | (refine K_region (id := 2) ?_; refine mv ?_; refine vl ?_; (first | refine vl ?_ | refine fB S ?_ | refine fS S rfl rfl ?_ | refine fA ?_); (first | refine lB S rfl rfl ?_ | refine lES2 S rfl rfl ?_ | refine lEB S ?_ | refine lH S ?_); refine mv ?_; refine vl ?_; refine KO_nil ?_)))
    refine ⟨_, rfl, ?_⟩
    exact S
  · refine Fn_K rfl Tryz.func163 rfl rfl ?_
    all_goals (repeat' (first | refine K_seq ?_ | refine k_cond rfl ?_ | refine K_skip ?_ | refine K_exit ?_ | refine k_block ?_ | refine K_scope ?_ | (refine K_region (id := 0) ?_; refine mv ?_; refine vl ?_; (first | refine vl ?_ | refine fB S ?_ | refine fS S rfl rfl ?_ | refine fA ?_); (first | refine lB S rfl rfl ?_ | refine lES2 S rfl rfl ?_ | refine lEB S ?_ | refine lH S ?_); refine vl ?_; refine KO_nil ?_)))
    refine K_region (id := 2) ?_
    refine mv ?_; refine vl ?_; refine vl ?_; refine lB S rfl rfl ?_; refine mv ?_; refine pN ?_; refine KO_nil ?_
    skip
    all_goals (repeat' (first | refine K_seq ?_ | refine k_cond rfl ?_ | refine K_skip ?_ | refine K_exit ?_ | refine k_block ?_ | refine K_scope ?_ | (refine K_region (id := 2) ?_; refine mv ?_; refine vl ?_; (first | refine vl ?_ | refine fB S ?_ | refine fS S rfl rfl ?_ | refine fA ?_); (first | refine lB S rfl rfl ?_ | refine lES2 S rfl rfl ?_ | refine lEB S ?_ | refine lH S ?_); refine mv ?_; refine vl ?_; refine KO_nil ?_)))
    refine ⟨_, rfl, ?_⟩
    exact S
theorem bwrite_ok {h0 h : AH} {rs : List Rs} {bb : Nat} {q v : Value} {l : List UInt8} (s : List UInt8) (S : Hs h0 h (bst bb q v :: bsl v l :: rs)) (hq : QP bb q) (hl : l.length + s.length ≤ 1000000) : Fn Tryz.prog Xh 110 [.pointer (some ⟨bb, 0, none⟩), str s] h
    (fun r h' => ∃ v', Hs h0 h' (bst bb (.pointer (some ⟨bb, 0, none⟩)) v' :: bsl v' (l ++ s) :: rs)) := by
  have hl' : (l.map UInt8.toNat).length + s.length ≤ 1000000 := by simpa using hl
  refine Fn_K rfl Tryz.func110 rfl rfl ?_
  all_goals (repeat' (first | refine K_seq ?_ | refine k_cond rfl ?_ | refine K_skip ?_ | refine K_exit ?_ | refine k_block ?_ | refine K_scope ?_ | (refine K_region (id := 0) ?_; refine mv ?_; refine mv ?_; refine KO_nil ?_) | (refine K_region (id := 1) ?_; refine mv ?_)))
  (refine KO_fn rfl rfl rfl rfl rfl ((ccheck_ok S hq).mono ?_); rintro _ h S2) <;> (replace S := S2; clear S2; refine KO_nil ?_)
  refine K_seq ?_
  refine K_region (id := 2) ?_
  refine mv ?_; refine mv ?_; refine vl ?_; refine vl ?_; refine lB S rfl rfl ?_; refine mv ?_
  refine apS S rfl rfl ?_; clear S; intro v2 h S
  obtain ⟨sv, rfl⟩ := (Rd.of_sl S .here).isSl
  refine vl ?_; (first | refine vl ?_ | refine fB S ?_ | refine fS S rfl rfl ?_ | refine fA ?_); (first | (refine sB S rfl rfl ?_; clear S; intro h S) | (refine sE2 S rfl rfl ?_; clear S; intro h S)); refine KO_nil ?_
  all_goals (repeat' (first | refine K_seq ?_ | refine k_cond rfl ?_ | refine K_skip ?_ | refine K_exit ?_ | refine k_block ?_ | refine K_scope ?_ | (refine K_region (id := 3) ?_; refine mv ?_; refine tl ?_; refine mv ?_; refine mv ?_; refine KO_nil ?_)))
  refine K_ret ⟨_, rfl, ?_⟩
  rw [← List.map_append] at S
  exact ⟨_, S.front (.there .here)⟩
theorem bstr_ok {h0 h : AH} {rs : List Rs} {bb : Nat} {q v : Value} {l : List UInt8} (S : Hs h0 h (bst bb q v :: bsl v l :: rs)) (hl : 0 < l.length ∧ l.length ≤ 1000000) : Fn Tryz.prog Xh 112 [.pointer (some ⟨bb, 0, none⟩)] h (fun r h' => r = str l ∧ Hs h0 h' (bst bb q v :: rs)) := by
  have hl' : (l.map UInt8.toNat).length = l.length := by simp
  have hl2 : (l.map UInt8.toNat).map UInt8.ofNat = l := by
    rw [List.map_map]
    exact (List.map_congr_left fun a _ => by simp).trans (List.map_id _)
  refine Fn_K rfl Tryz.func112 rfl rfl ?_
  all_goals (repeat' (first | refine K_seq ?_ | refine k_cond rfl ?_ | refine K_skip ?_ | refine K_exit ?_ | refine k_block ?_ | refine K_scope ?_ | (refine K_region (id := 0) ?_; refine mv ?_; refine KO_nil ?_)))
  refine K_draw (id := 1) ?_
  refine mv ?_; refine vl ?_; refine vl ?_; refine lB S rfl rfl ?_
  refine usd S (by omega) rfl rfl ?_; rintro b o rfl
  refine mv ?_; refine vl ?_; refine vl ?_; refine lB S rfl rfl ?_
  refine lnS S rfl rfl ?_
  refine uns (l := l.map UInt8.toNat) S ⟨by omega, by omega⟩ rfl rfl ?_; clear S; intro h S
  rw [hl2]
  refine mv ?_; refine KO_nil ?_
  all_goals (repeat' (first | refine K_seq ?_ | refine k_cond rfl ?_ | refine K_skip ?_ | refine K_exit ?_ | refine k_block ?_ | refine K_scope ?_ | (refine K_region (id := 0) ?_; refine mv ?_; refine KO_nil ?_) | (refine K_draw (id := 1) ?_; refine mv ?_; refine vl ?_; (first | refine vl ?_ | refine fB S ?_ | refine fS S rfl rfl ?_ | refine fA ?_); (first | refine lB S rfl rfl ?_ | refine lES2 S rfl rfl ?_ | refine lEB S ?_ | refine lH S ?_))))
  refine K_ret ⟨_, rfl, ?_⟩
  exact ⟨rfl, S⟩
theorem itoa_ok {h0 : AH} (n : Int) (hn : 0 ≤ n ∧ n ≤ 1000) : Fn Tryz.prog Xh 111 [.int .i64 n] h0 (fun v h' => v = str (decL n.toNat) ∧ h' = h0) := Fn_known (by show (if 0 ≤ n ∧ n ≤ 1000 then _ else _) = _; rw [if_pos hn]; rfl) ⟨rfl, rfl⟩
theorem deci_ok {h0 : AH} (n : Int) (hn : 0 ≤ n ∧ n ≤ 1000) : Fn Tryz.prog Xh 108 [.int .i64 n] h0 (fun v h' => v = str (decL n.toNat) ∧ h' = h0) := Fn_known (by show (if 0 ≤ n ∧ n ≤ 1000 then _ else _) = _; rw [if_pos hn]; rfl) ⟨rfl, rfl⟩
theorem deci_okS {h0 : AH} (w : WfH h0) (n : Int) (hn : 0 ≤ n ∧ n ≤ 1000) : Fn Tryz.prog Xh 108 [.int .i64 n] h0 (fun v h' => v = str (decL n.toNat) ∧ Hs h0 h' []) :=
  (deci_ok n hn).mono fun v h' q => ⟨q.1, by rw [q.2]; exact Hs.start w⟩
end Go.Proofs.Xx

/-
  The text of a hall, the program's and the reference's.
-/
namespace Go.Proofs.Xx
open Go Go.Proofs
set_option linter.unusedSimpArgs false
set_option linter.unusedVariables false
set_option maxRecDepth 100000
set_option maxHeartbeats 4000000

def wd (t : Tab) : List UInt8 := if t.shape = 1 then wRound else if t.shape = 2 then wLong else if t.shape = 3 then wShoe else wRow
def dc (z : Int) : List UInt8 := decL z.toNat
def numsOf (t : Tab) : List Int := [t.A, t.B, t.X, t.Y] ++ t.opn
def numsS (l : List Int) : List UInt8 := l.flatMap fun z => [32] ++ dc z
def tWord : List UInt8 := [116, 97, 98, 108, 101, 32]
def hdT (t : Tab) (w : List UInt8) : List UInt8 := ((tWord ++ t.name) ++ [32]) ++ w
def headT (t : Tab) : List UInt8 := hdT t (wd t)
def fmtT (t : Tab) : List UInt8 := (headT t ++ numsS (numsOf t)) ++ [10]
def fmtL (l : List Tab) : Nat → List UInt8
  | 0 => []
  | i + 1 => fmtL l i ++ fmtT (tb l i)
theorem decL_len (n : Nat) : 1 ≤ (decL n).length ∧ (decL n).length ≤ 4 := by unfold decL; split <;> (try split) <;> (try split) <;> simp
theorem numsS_len (l : List Int) : (numsS l).length ≤ 5 * l.length := by
  induction l with
  | nil => simp [numsS]
  | cons a l ih =>
    have := (decL_len a.toNat).2
    simp only [numsS, List.flatMap_cons, List.length_append, List.length_cons, List.length_nil, dc] at *
    omega
theorem numsS_snoc (l : List Int) (z : Int) : numsS (l ++ [z]) = numsS l ++ ([32] ++ dc z) := by simp [numsS]
theorem numsS_take {l : List Int} {k : Nat} (h : k < l.length) : numsS (l.take (k + 1)) = numsS (l.take k) ++ ([32] ++ dc (l.getD k default)) := by
  rw [← numsS_snoc]
  congr 1
  rw [List.take_add_one, List.getElem?_eq_getElem h]
  simp [List.getD, h]
theorem wd_len (t : Tab) : (wd t).length ≤ 9 := by unfold wd; split <;> (try split) <;> (try split) <;> decide
structure FmtOk (t : Tab) : Prop where
  sh : t.shape = 1 ∨ t.shape = 2 ∨ t.shape = 3 ∨ t.shape = 4
  nm : t.name.length ≤ 12
  ol : t.opn.length ≤ 1000
  nums : ∀ k, k < (numsOf t).length → 0 ≤ (numsOf t).getD k default ∧ (numsOf t).getD k default ≤ 1000
theorem FmtOk.of {t : Tab} (h : chk t = 0) (ho : t.opn.length ≤ 1000) : FmtOk t := by
  obtain ⟨h1, h2, h3, h4⟩ := chk_zero h
  have hp : 0 < tsize t := by have := tsize_le t; omega
  have hs := TabS.of t hp
  have hb := hs.b
  have hsz := tsize_le t
  unfold TabB at hb
  unfold XYok at h4
  refine ⟨hs.shape, h1.2.1, ho, fun k hk => ?_⟩
  unfold numsOf at hk ⊢
  match k, hk with
  | 0, _ => exact ⟨by show 0 ≤ t.A; omega, by show t.A ≤ 1000; omega⟩
  | 1, _ => exact ⟨by show 0 ≤ t.B; omega, by show t.B ≤ 1000; omega⟩
  | 2, _ => exact ⟨h4.1, h4.2.1⟩
  | 3, _ => exact ⟨h4.2.2.1, h4.2.2.2⟩
  | k + 4, hk =>
    have hk' : k < t.opn.length := by simpa using hk
    have := h3 k hk'
    have e : ([t.A, t.B, t.X, t.Y] ++ t.opn).getD (k + 4) default = t.opn.getD k default := rfl
    rw [e]
    omega
theorem headT_len {t : Tab} (h : FmtOk t) : (headT t).length ≤ 28 := by
  have := wd_len t
  have := h.nm
  simp only [headT, hdT, tWord, List.length_append, List.length_cons, List.length_nil]
  omega
theorem fmtT_len {t : Tab} (h : FmtOk t) : (fmtT t).length ≤ 6000 ∧ 0 < (fmtT t).length := by
  have := headT_len h
  have := numsS_len (numsOf t)
  have := h.ol
  simp only [fmtT, numsOf, List.length_append, List.length_cons, List.length_nil] at *
  omega
theorem fmtL_len {l : List Tab} (h : ∀ i, i < l.length → FmtOk (tb l i)) : ∀ i, i ≤ l.length → (fmtL l i).length ≤ 6000 * i ∧ (0 < i → 0 < (fmtL l i).length)
  | 0, _ => ⟨Nat.le_refl _, fun q => absurd q (Nat.lt_irrefl _)⟩
  | i + 1, hi => by
    have h1 := fmtL_len h i (by omega)
    have h2 := fmtT_len (h i (by omega))
    simp only [fmtL, List.length_append]
    omega

theorem format_ok {h0 : AH} (w : WfH h0) (v : Value) (l : List Tab) (H : HallR h0 v l) (hl : ValidL l) (hn0 : 0 < l.length) : Fn Tryz.prog Xh 54 [v] h0 (fun r h' => r = str (fmtL l l.length) ∧ Hs h0 h' []) := by
  have S := Hs.start w
  have hr := H.rd
  have hn := H.len
  have h16 := hl.1
  have hF : ∀ i, i < l.length → FmtOk (tb l i) := fun i hi => .of (hl.2 i hi).1 (H.tab i hi).2.2
  have hL := fmtL_len hF
  refine Fn_K rfl Tryz.func54 rfl rfl ?_
  all_goals (repeat' (first | refine K_seq ?_ | refine k_cond rfl ?_ | refine K_skip ?_ | refine K_exit ?_ | refine k_block ?_ | refine K_scope ?_ | (refine K_region (id := 0) ?_; refine mv ?_; refine KO_nil ?_) | (refine K_region (id := 1) ?_; refine mv ?_)))
  (refine KO_fn rfl rfl rfl rfl rfl ((valid_ok S.wf v l (H.ext w S.ext)).mono ?_); rintro _ h ⟨⟨rfl, hq⟩ | ⟨rfl, hq⟩, x⟩) <;> (replace S := S.join0 x; clear x; refine vl ?_; refine KO_nil ?_)
  rotate_left
  · exact absurd hl hq
  all_goals (repeat' (first | refine K_seq ?_ | refine k_cond rfl ?_ | refine K_skip ?_ | refine K_exit ?_ | refine k_block ?_ | refine K_scope ?_ | (refine K_region (id := 2) ?_; refine mv ?_; refine KO_nil ?_) | (refine K_region (id := 3) ?_; (refine al S ?_; clear S; intro b h S); refine KO_nil ?_) | (refine K_region (id := 4) ?_; refine mv ?_; (first | refine lnB S ?_ | refine lnS S rfl rfl ?_); refine mv ?_; refine KO_nil ?_)))
  obtain ⟨bb, hnm⟩ : ∃ x, x = b := ⟨_, rfl⟩; subst hnm
  replace S := (S.nilS (e := 5) (z := 1) (enc := eU)).front (.there .here)
  refine k_loop (σ := Nat) (fun i h' => ∃ bv q, Hs h0 h' [bst bb q bv, bsl bv (fmtL l i)] ∧ QP bb q ∧ i ≤ l.length) (fun i => l.length - i) (fun i => [(3, .pointer (some ⟨bb, 0, none⟩)), (13, v), (14, .int .i64 l.length), (15, .int .i64 i)]) 0 (by repeat (first | exact Ks.le_nil _ | refine Ks.le_cons rfl ?_ | refine Ks.le_int ?_)) ?_ ?_
  · exact ⟨_, _, S, .inl rfl, Nat.zero_le _⟩
  clear S
  rintro i h ⟨bv, q, S, hQ, hi⟩
  all_goals (repeat' (first | refine K_seq ?_ | refine k_cond rfl ?_ | refine K_skip ?_ | refine K_exit ?_ | refine k_block ?_ | refine K_scope ?_ | (refine K_region (id := 5) ?_; (first | refine cT ?_ | refine cF ?_ | (refine cS ?_ ?_ <;> intro hc)) <;> (refine KO_nil ?_)) | (refine K_region (id := 6) ?_; (first | refine ixB S ?_ | refine ixS2 S rfl rfl ?_); (first | refine lB S rfl rfl ?_ | refine lES2 S rfl rfl ?_ | refine lEB S ?_ | refine lH S ?_); (refine al S ?_; clear S; intro b h S); (first | (refine sB S rfl rfl ?_; clear S; intro h S) | (refine sE2 S rfl rfl ?_; clear S; intro h S)); refine KO_nil ?_)))
  · have hi' : i < l.length := by omega
    have hf := hF i hi'
    obtain ⟨hov, hnm, hol⟩ := H.tab i hi'
    have hLi := (hL i hi).1
    have hnm' : (l.getD i default).name.length ≤ 1000 := hnm
    have hhd := headT_len hf
    have hsh := hf.sh
    try simp only [Int.toNat_natCast] at *
    obtain ⟨b2, hnm⟩ : ∃ x, x = b := ⟨_, rfl⟩; subst hnm
    refine K_joinR (σ := Unit) (fun _ h' => ∃ bv, Hs h0 h' [bst bb (.pointer (some ⟨bb, 0, none⟩)) bv, bsl bv (fmtL l i ++ headT (tb l i)), .blk b2 (eT (tb l i)) 25]) (fun _ => [(3, .pointer (some ⟨bb, 0, none⟩)), (5, .pointer (some ⟨b2, 0, none⟩)), (13, v), (14, .int .i64 l.length), (15, .int .i64 i)]) ?_ ?_
    · skip
      all_goals (repeat' (first | refine K_seq ?_ | refine k_cond rfl ?_ | refine K_skip ?_ | refine K_exit ?_ | refine k_block ?_ | refine K_scope ?_ | (refine K_region (id := 7) ?_; (first | refine vl ?_ | refine fB S ?_ | refine fS S rfl rfl ?_ | refine fA ?_); (first | refine lB S rfl rfl ?_ | refine lES2 S rfl rfl ?_ | refine lEB S ?_ | refine lH S ?_))))
      (refine KO_fn rfl rfl rfl rfl rfl ((layoutOf_ok S.wf (tb l i).shape).mono ?_); rintro _ h ⟨⟨rfl, hsq⟩ | ⟨rfl, hsq⟩ | ⟨rfl, hsq⟩ | ⟨rfl, hsq⟩ | ⟨rfl, hsq⟩, x⟩) <;> (replace S := S.join0 x; clear x; refine mv ?_; refine vl ?_; refine vl ?_; (refine al S ?_; clear S; intro b h S); (first | (refine sB S rfl rfl ?_; clear S; intro h S) | (refine sE2 S rfl rfl ?_; clear S; intro h S)); refine mv ?_; refine KO_nil ?_)
      all_goals ((all_goals (repeat' (first | refine K_seq ?_ | refine k_cond rfl ?_ | refine K_skip ?_ | refine K_exit ?_ | refine k_block ?_ | refine K_scope ?_ | (refine K_region (id := 8) ?_; (first | refine vl ?_ | refine fB S ?_ | refine fS S rfl rfl ?_ | refine fA ?_); (first | refine lB S rfl rfl ?_ | refine lES2 S rfl rfl ?_ | refine lEB S ?_ | refine lH S ?_); refine tcL ?_; refine tcL ?_; (first | refine vl ?_ | refine fB S ?_ | refine fS S rfl rfl ?_ | refine fA ?_); (first | refine lB S rfl rfl ?_ | refine lES2 S rfl rfl ?_ | refine lEB S ?_ | refine lH S ?_); refine tcL ?_)))))
      · have hw : wd (tb l i) = wRound := by unfold wd; rw [if_pos hsq]
        have hh : headT (tb l i) = hdT (tb l i) wRound := by unfold headT; rw [hw]
        replace S := (S.front (.there (.there (.there .here)))).front (.there (.there (.there .here)))
        have hlen : (fmtL l i).length + (hdT (tb l i) wRound).length ≤ 1000000 := by rw [← hh]; omega
        (refine KO_fn rfl rfl rfl rfl rfl ((bwrite_ok (hdT (tb l i) wRound) S hQ hlen).mono ?_); rintro _ h ⟨bv2, S2⟩) <;> (replace S := S2; clear S2; refine KO_nil ?_)
        rw [← hh] at S
        exact ⟨(), ⟨bv2, S.del (.there (.there .here))⟩, ((by repeat (first | exact Ks.le_nil _ | refine Ks.le_cons rfl ?_ | refine Ks.le_int ?_)))⟩
      · have hw : wd (tb l i) = wLong := by unfold wd; rw [if_neg (by omega), if_pos hsq]
        have hh : headT (tb l i) = hdT (tb l i) wLong := by unfold headT; rw [hw]
        replace S := (S.front (.there (.there (.there .here)))).front (.there (.there (.there .here)))
        have hlen : (fmtL l i).length + (hdT (tb l i) wLong).length ≤ 1000000 := by rw [← hh]; omega
        (refine KO_fn rfl rfl rfl rfl rfl ((bwrite_ok (hdT (tb l i) wLong) S hQ hlen).mono ?_); rintro _ h ⟨bv2, S2⟩) <;> (replace S := S2; clear S2; refine KO_nil ?_)
        rw [← hh] at S
        exact ⟨(), ⟨bv2, S.del (.there (.there .here))⟩, ((by repeat (first | exact Ks.le_nil _ | refine Ks.le_cons rfl ?_ | refine Ks.le_int ?_)))⟩
      · have hw : wd (tb l i) = wShoe := by unfold wd; rw [if_neg (by omega), if_neg (by omega), if_pos hsq]
        have hh : headT (tb l i) = hdT (tb l i) wShoe := by unfold headT; rw [hw]
        replace S := (S.front (.there (.there (.there .here)))).front (.there (.there (.there .here)))
        have hlen : (fmtL l i).length + (hdT (tb l i) wShoe).length ≤ 1000000 := by rw [← hh]; omega
        (refine KO_fn rfl rfl rfl rfl rfl ((bwrite_ok (hdT (tb l i) wShoe) S hQ hlen).mono ?_); rintro _ h ⟨bv2, S2⟩) <;> (replace S := S2; clear S2; refine KO_nil ?_)
        rw [← hh] at S
        exact ⟨(), ⟨bv2, S.del (.there (.there .here))⟩, ((by repeat (first | exact Ks.le_nil _ | refine Ks.le_cons rfl ?_ | refine Ks.le_int ?_)))⟩
      · have hw : wd (tb l i) = wRow := by unfold wd; rw [if_neg (by omega), if_neg (by omega), if_neg (by omega)]
        have hh : headT (tb l i) = hdT (tb l i) wRow := by unfold headT; rw [hw]
        replace S := (S.front (.there (.there (.there .here)))).front (.there (.there (.there .here)))
        have hlen : (fmtL l i).length + (hdT (tb l i) wRow).length ≤ 1000000 := by rw [← hh]; omega
        (refine KO_fn rfl rfl rfl rfl rfl ((bwrite_ok (hdT (tb l i) wRow) S hQ hlen).mono ?_); rintro _ h ⟨bv2, S2⟩) <;> (replace S := S2; clear S2; refine KO_nil ?_)
        rw [← hh] at S
        exact ⟨(), ⟨bv2, S.del (.there (.there .here))⟩, ((by repeat (first | exact Ks.le_nil _ | refine Ks.le_cons rfl ?_ | refine Ks.le_int ?_)))⟩
      · exact absurd hsh (by omega)
    · clear S hQ
      rintro - h ⟨bv, S⟩
      have hov' := hov.ext w S.ext
      have hnl : (numsOf (tb l i)).length = 4 + (tb l i).opn.length := by simp [numsOf]; omega
      skip
      all_goals (repeat' (first | refine K_seq ?_ | refine k_cond rfl ?_ | refine K_skip ?_ | refine K_exit ?_ | refine k_block ?_ | refine K_scope ?_ | (refine K_region (id := 9) ?_; (first | refine vl ?_ | refine fB S ?_ | refine fS S rfl rfl ?_ | refine fA ?_); (first | refine lB S rfl rfl ?_ | refine lES2 S rfl rfl ?_ | refine lEB S ?_ | refine lH S ?_); (first | refine vl ?_ | refine fB S ?_ | refine fS S rfl rfl ?_ | refine fA ?_); (first | refine lB S rfl rfl ?_ | refine lES2 S rfl rfl ?_ | refine lEB S ?_ | refine lH S ?_); (first | refine vl ?_ | refine fB S ?_ | refine fS S rfl rfl ?_ | refine fA ?_); (first | refine lB S rfl rfl ?_ | refine lES2 S rfl rfl ?_ | refine lEB S ?_ | refine lH S ?_); (first | refine vl ?_ | refine fB S ?_ | refine fS S rfl rfl ?_ | refine fA ?_); (first | refine lB S rfl rfl ?_ | refine lES2 S rfl rfl ?_ | refine lEB S ?_ | refine lH S ?_))))
      refine bsn' (z := 1) eI [(tb l i).A, (tb l i).B, (tb l i).X, (tb l i).Y] S ?_; clear S; intro u4 h S
      (first | refine vl ?_ | refine fB S ?_ | refine fS S rfl rfl ?_ | refine fA ?_); (first | refine lB S rfl rfl ?_ | refine lES2 S rfl rfl ?_ | refine lEB S ?_ | refine lH S ?_)
      refine apd S rfl rfl (hov.ext w S.ext) ?_; clear S; intro vn h S
      change Hs h0 h (.sl vn 3 1 eI (numsOf (tb l i)) :: _) at S
      (first | refine lnB S ?_ | refine lnS S rfl rfl ?_); refine mv ?_; refine KO_nil ?_
      replace S := (S.front (.there (.there .here))).front (.there (.there .here))
      all_goals (repeat' (first | refine K_seq ?_ | refine k_cond rfl ?_ | refine K_skip ?_ | refine K_exit ?_ | refine k_block ?_ | refine K_scope ?_ | (refine K_region (id := 9) ?_; (first | refine vl ?_ | refine fB S ?_ | refine fS S rfl rfl ?_ | refine fA ?_); (first | refine lB S rfl rfl ?_ | refine lES2 S rfl rfl ?_ | refine lEB S ?_ | refine lH S ?_); (first | refine vl ?_ | refine fB S ?_ | refine fS S rfl rfl ?_ | refine fA ?_); (first | refine lB S rfl rfl ?_ | refine lES2 S rfl rfl ?_ | refine lEB S ?_ | refine lH S ?_); (first | refine vl ?_ | refine fB S ?_ | refine fS S rfl rfl ?_ | refine fA ?_); (first | refine lB S rfl rfl ?_ | refine lES2 S rfl rfl ?_ | refine lEB S ?_ | refine lH S ?_); (first | refine vl ?_ | refine fB S ?_ | refine fS S rfl rfl ?_ | refine fA ?_); (first | refine lB S rfl rfl ?_ | refine lES2 S rfl rfl ?_ | refine lEB S ?_ | refine lH S ?_))))
      refine k_loop (σ := Nat) (fun k h' => ∃ bv, Hs h0 h' [bst bb (.pointer (some ⟨bb, 0, none⟩)) bv, bsl bv ((fmtL l i ++ headT (tb l i)) ++ numsS ((numsOf (tb l i)).take k)), .sl vn 3 1 eI (numsOf (tb l i))] ∧ k ≤ (numsOf (tb l i)).length) (fun k => (numsOf (tb l i)).length - k) (fun k => [(3, .pointer (some ⟨bb, 0, none⟩)), (13, v), (14, .int .i64 l.length), (15, .int .i64 i), (44, vn), (45, .int .i64 (numsOf (tb l i)).length), (46, .int .i64 k)]) 0 (by repeat (first | exact Ks.le_nil _ | refine Ks.le_cons rfl ?_ | refine Ks.le_int ?_)) ?_ ?_
      · refine ⟨bv, ?_, Nat.zero_le _⟩
        rw [List.take_zero, show numsS [] = [] by rfl, List.append_nil]
        exact S.del (.there (.there (.there .here)))
      clear S
      rintro k h ⟨bv, S, hk⟩
      have hnt := numsS_len ((numsOf (tb l i)).take k)
      rw [List.length_take] at hnt
      all_goals (repeat' (first | refine K_seq ?_ | refine k_cond rfl ?_ | refine K_skip ?_ | refine K_exit ?_ | refine k_block ?_ | refine K_scope ?_ | (refine K_region (id := 10) ?_; (first | refine cT ?_ | refine cF ?_ | (refine cS ?_ ?_ <;> intro hc)) <;> (refine KO_nil ?_)) | (refine K_region (id := 11) ?_; (first | refine ixB S ?_ | refine ixS2 S rfl rfl ?_); (first | refine lB S rfl rfl ?_ | refine lES2 S rfl rfl ?_ | refine lEB S ?_ | refine lH S ?_); refine mv ?_; refine KO_nil ?_) | (refine K_region (id := 12) ?_; refine mv ?_) | (refine K_region (id := 14) ?_; skip)))
      · have hk' : k < (numsOf (tb l i)).length := by omega
        have hb := hf.nums k hk'
        have hdl := (decL_len ((numsOf (tb l i)).getD k default).toNat).2
        try simp only [Int.toNat_natCast] at *
        (refine KO_fn rfl rfl rfl rfl rfl ((itoa_ok _ hb).mono ?_); rintro _ h ⟨rfl, rfl⟩) <;> (refine tcL ?_)
        have hlen : ((fmtL l i ++ headT (tb l i)) ++ numsS ((numsOf (tb l i)).take k)).length + ([32] ++ decL ((numsOf (tb l i)).getD k default).toNat).length ≤ 1000000 := by simp only [List.length_append, List.length_cons, List.length_nil]; omega
        (refine KO_fn rfl rfl rfl rfl rfl ((bwrite_ok _ S (.inr rfl) hlen).mono ?_); rintro _ h ⟨bv2, S2⟩) <;> (replace S := S2; clear S2; refine KO_nil ?_)
        all_goals (repeat' (first | refine K_seq ?_ | refine k_cond rfl ?_ | refine K_skip ?_ | refine K_exit ?_ | refine k_block ?_ | refine K_scope ?_ | (refine K_region (id := 13) ?_; (first | refine ad ?_ | refine vl ?_); refine mv ?_; refine KO_nil ?_)))
        refine ⟨k + 1, ?_, ?_, (by repeat (first | exact Ks.le_nil _ | refine Ks.le_cons rfl ?_ | refine Ks.le_int ?_))⟩
        · show (numsOf (tb l i)).length - (k + 1) < (numsOf (tb l i)).length - k; omega
        · refine ⟨bv2, ?_, by omega⟩
          rw [numsS_take hk', ← List.append_assoc]
          exact S
      · have hke : k = (numsOf (tb l i)).length := by omega
        subst hke
        rw [List.take_length] at S hnt
        have hlen : ((fmtL l i ++ headT (tb l i)) ++ numsS (numsOf (tb l i))).length + ([10] : List UInt8).length ≤ 1000000 := by simp only [List.length_append, List.length_cons, List.length_nil]; omega
        (refine KO_fn rfl rfl rfl rfl rfl ((bwrite_ok [10] S (.inr rfl) hlen).mono ?_); rintro _ h ⟨bv2, S2⟩) <;> (replace S := S2; clear S2; refine KO_nil ?_)
        all_goals (repeat' (first | refine K_seq ?_ | refine k_cond rfl ?_ | refine K_skip ?_ | refine K_exit ?_ | refine k_block ?_ | refine K_scope ?_ | (refine K_region (id := 15) ?_; (first | refine ad ?_ | refine vl ?_); refine mv ?_; refine KO_nil ?_)))
        refine ⟨i + 1, ?_, ?_, (by repeat (first | exact Ks.le_nil _ | refine Ks.le_cons rfl ?_ | refine Ks.le_int ?_))⟩
        · show l.length - (i + 1) < l.length - i; omega
        · refine ⟨bv2, _, ?_, .inr rfl, by omega⟩
          have e : fmtL l (i + 1) = ((fmtL l i ++ headT (tb l i)) ++ numsS (numsOf (tb l i))) ++ [10] := by
            show fmtL l i ++ fmtT (tb l i) = _
            unfold fmtT; simp only [List.append_assoc]
          rw [e]
          exact S.del (.there (.there .here))
  · have hie : i = l.length := by omega
    subst hie
    have hb2 : (fmtL l l.length).length ≤ 1000000 := by have := (hL _ (Nat.le_refl _)).1; omega
    skip
    all_goals (repeat' (first | refine K_seq ?_ | refine k_cond rfl ?_ | refine K_skip ?_ | refine K_exit ?_ | refine k_block ?_ | refine K_scope ?_ | (refine K_region (id := 16) ?_; skip)))
    (refine KO_fn rfl rfl rfl rfl rfl ((bstr_ok S ⟨(hL _ (Nat.le_refl _)).2 hn0, hb2⟩).mono ?_); rintro _ h ⟨rfl, S2⟩) <;> (replace S := S2; clear S2; refine mv ?_; refine KO_nil ?_)
    all_goals (repeat' (first | refine K_seq ?_ | refine k_cond rfl ?_ | refine K_skip ?_ | refine K_exit ?_ | refine k_block ?_ | refine K_scope ?_))
    refine K_ret ⟨_, rfl, ?_⟩
    exact ⟨rfl, S.drop⟩

theorem shapeWord_ok {h0 : AH} (w : WfH h0) (t : Tab) (hs : t.shape = 1 ∨ t.shape = 2 ∨ t.shape = 3 ∨ t.shape = 4) : Fn Tryz.prog Xh 107 [.int .u8 t.shape] h0 (fun r h' => r = str (wd t) ∧ Hs h0 h' []) := by
  have S := Hs.start w
  have key : ∀ s, wd t = s → str s = str (wd t) := fun s q => by rw [q]
  refine Fn_K rfl Tryz.func107 rfl rfl ?_
  all_goals (repeat' (first | refine K_seq ?_ | refine k_cond rfl ?_ | refine K_skip ?_ | refine K_exit ?_ | refine k_block ?_ | refine K_scope ?_ | (refine K_region (id := 0) ?_; refine mv ?_; refine KO_nil ?_) | (refine K_region (id := 1) ?_; refine mv ?_; refine KO_nil ?_) | (refine K_region (id := 2) ?_; (first | refine cT ?_ | refine cF ?_ | (refine cS ?_ ?_ <;> intro hc)) <;> (refine mv ?_; refine KO_nil ?_)) | (refine K_region (id := 3) ?_; refine mv ?_; refine KO_nil ?_) | (refine K_region (id := 4) ?_; (first | refine cT ?_ | refine cF ?_ | (refine cS ?_ ?_ <;> intro hc)) <;> (refine mv ?_; refine KO_nil ?_)) | (refine K_region (id := 5) ?_; refine mv ?_; refine KO_nil ?_) | (refine K_region (id := 6) ?_; (first | refine cT ?_ | refine cF ?_ | (refine cS ?_ ?_ <;> intro hc)) <;> (refine mv ?_; refine KO_nil ?_)) | (refine K_region (id := 7) ?_; refine mv ?_; refine KO_nil ?_) | (refine K_region (id := 8) ?_; refine mv ?_; refine KO_nil ?_)))
  all_goals (refine K_ret ⟨_, rfl, ?_⟩)
  all_goals (refine ⟨key _ ?_, S⟩; unfold wd)
  · rw [if_pos (by omega)]; rfl
  · rw [if_neg (by omega), if_pos (by omega)]; rfl
  · rw [if_neg (by omega), if_neg (by omega), if_pos (by omega)]; rfl
  · rw [if_neg (by omega), if_neg (by omega), if_neg (by omega)]; rfl
theorem refFormat_ok {h0 : AH} (w : WfH h0) (v : Value) (l : List Tab) (H : HallR h0 v l) (hl : ValidL l) : Fn Tryz.prog Xh 53 [v] h0 (fun r h' => r = str (fmtL l l.length) ∧ Hs h0 h' []) := by
  have S := Hs.start w
  have hr := H.rd
  have hn := H.len
  have h16 := hl.1
  have hF : ∀ i, i < l.length → FmtOk (tb l i) := fun i hi => .of (hl.2 i hi).1 (H.tab i hi).2.2
  have hL := fmtL_len hF
  refine Fn_K rfl Tryz.func53 rfl rfl ?_
  all_goals (repeat' (first | refine K_seq ?_ | refine k_cond rfl ?_ | refine K_skip ?_ | refine K_exit ?_ | refine k_block ?_ | refine K_scope ?_ | (refine K_region (id := 0) ?_; refine mv ?_; refine KO_nil ?_) | (refine K_region (id := 1) ?_; refine mv ?_; refine KO_nil ?_) | (refine K_region (id := 2) ?_; refine mv ?_; refine KO_nil ?_)))
  refine k_loop (σ := Nat) (fun i h' => Hs h0 h' [] ∧ i ≤ l.length) (fun i => l.length - i) (fun i => [(0, v), (3, str (fmtL l i)), (4, .int .i64 i)]) 0 (by repeat (first | exact Ks.le_nil _ | refine Ks.le_cons rfl ?_ | refine Ks.le_int ?_)) ?_ ?_
  · exact ⟨S, Nat.zero_le _⟩
  clear S
  rintro i h ⟨S, hi⟩
  all_goals (repeat' (first | refine K_seq ?_ | refine k_cond rfl ?_ | refine K_skip ?_ | refine K_exit ?_ | refine k_block ?_ | refine K_scope ?_ | (refine K_region (id := 3) ?_; refine mv ?_; refine mv ?_; (first | refine lnB S ?_ | refine lnS S rfl rfl ?_); (first | refine cT ?_ | refine cF ?_ | (refine cS ?_ ?_ <;> intro hc)) <;> (refine KO_nil ?_)) | (refine K_region (id := 5) ?_; refine mv ?_; refine mv ?_; (first | refine ixB S ?_ | refine ixS2 S rfl rfl ?_); (first | refine lB S rfl rfl ?_ | refine lES2 S rfl rfl ?_ | refine lEB S ?_ | refine lH S ?_); (refine al S ?_; clear S; intro b h S); (first | (refine sB S rfl rfl ?_; clear S; intro h S) | (refine sE2 S rfl rfl ?_; clear S; intro h S)); refine KO_nil ?_)))
  · have hi' : i < l.length := by omega
    have hf := hF i hi'
    obtain ⟨hov, hnm, hol⟩ := H.tab i hi'
    have hLi := (hL i hi).1
    have hnm' : (l.getD i default).name.length ≤ 1000 := hnm
    have hhd := headT_len hf
    have hwl : (wd (l.getD i default)).length ≤ 9 := wd_len (tb l i)
    have hbA : 0 ≤ (l.getD i default).A ∧ (l.getD i default).A ≤ 1000 := hf.nums 0 (by simp [numsOf])
    have hbB : 0 ≤ (l.getD i default).B ∧ (l.getD i default).B ≤ 1000 := hf.nums 1 (by simp [numsOf])
    have hbX : 0 ≤ (l.getD i default).X ∧ (l.getD i default).X ≤ 1000 := hf.nums 2 (by simp [numsOf])
    have hbY : 0 ≤ (l.getD i default).Y ∧ (l.getD i default).Y ≤ 1000 := hf.nums 3 (by simp [numsOf])
    have hdA : (decL (l.getD i default).A.toNat).length ≤ 4 := (decL_len (tb l i).A.toNat).2
    have hdB : (decL (l.getD i default).B.toNat).length ≤ 4 := (decL_len (tb l i).B.toNat).2
    have hdX : (decL (l.getD i default).X.toNat).length ≤ 4 := (decL_len (tb l i).X.toNat).2
    have hdY : (decL (l.getD i default).Y.toNat).length ≤ 4 := (decL_len (tb l i).Y.toNat).2
    have hnl : (numsOf (tb l i)).length = 4 + (tb l i).opn.length := by simp [numsOf]; omega
    try simp only [Int.toNat_natCast] at *
    obtain ⟨b2, hnm⟩ : ∃ x, x = b := ⟨_, rfl⟩; subst hnm
    refine K_drawX (id := 6) [(3, (0, 5)), (12, (0, 1)), (17, (0, 2)), (22, (0, 3)), (27, (0, 4))] [some (b2), some (b2), some (b2), some (b2), some (b2)] ?_; refine KX_cons ?_; (first | (refine mv ?_ <;> refine KO_nil ⟨⟨by (first | exact True.intro | exact Or.inl rfl | exact Or.inr rfl | exact Or.inr (congrArg some (blkOf_elA _ _ _ _)) | exact ⟨Or.inl rfl, rfl⟩ | exact ⟨Or.inr rfl, rfl⟩), rfl⟩, ?_⟩)); refine KX_cons ?_; (first | (refine tcL ?_ <;> refine KO_nil ⟨⟨by (first | exact True.intro | exact Or.inl rfl | exact Or.inr rfl | exact Or.inr (congrArg some (blkOf_elA _ _ _ _)) | exact ⟨Or.inl rfl, rfl⟩ | exact ⟨Or.inr rfl, rfl⟩), rfl⟩, ?_⟩)); refine KX_cons ?_; (first | (refine vl ?_ <;> refine KO_nil ⟨⟨by (first | exact True.intro | exact Or.inl rfl | exact Or.inr rfl | exact Or.inr (congrArg some (blkOf_elA _ _ _ _)) | exact ⟨Or.inl rfl, rfl⟩ | exact ⟨Or.inr rfl, rfl⟩), rfl⟩, ?_⟩) | (refine fB S ?_ <;> refine KO_nil ⟨⟨by (first | exact True.intro | exact Or.inl rfl | exact Or.inr rfl | exact Or.inr (congrArg some (blkOf_elA _ _ _ _)) | exact ⟨Or.inl rfl, rfl⟩ | exact ⟨Or.inr rfl, rfl⟩), rfl⟩, ?_⟩) | (refine fS S rfl rfl ?_ <;> refine KO_nil ⟨⟨by (first | exact True.intro | exact Or.inl rfl | exact Or.inr rfl | exact Or.inr (congrArg some (blkOf_elA _ _ _ _)) | exact ⟨Or.inl rfl, rfl⟩ | exact ⟨Or.inr rfl, rfl⟩), rfl⟩, ?_⟩) | (refine fA ?_ <;> refine KO_nil ⟨⟨by (first | exact True.intro | exact Or.inl rfl | exact Or.inr rfl | exact Or.inr (congrArg some (blkOf_elA _ _ _ _)) | exact ⟨Or.inl rfl, rfl⟩ | exact ⟨Or.inr rfl, rfl⟩), rfl⟩, ?_⟩)); refine KX_cons ?_; (first | (refine lB S rfl rfl ?_ <;> refine KO_nil ⟨⟨by (first | exact True.intro | exact Or.inl rfl | exact Or.inr rfl | exact Or.inr (congrArg some (blkOf_elA _ _ _ _)) | exact ⟨Or.inl rfl, rfl⟩ | exact ⟨Or.inr rfl, rfl⟩), rfl⟩, ?_⟩) | (refine lES2 S rfl rfl ?_ <;> refine KO_nil ⟨⟨by (first | exact True.intro | exact Or.inl rfl | exact Or.inr rfl | exact Or.inr (congrArg some (blkOf_elA _ _ _ _)) | exact ⟨Or.inl rfl, rfl⟩ | exact ⟨Or.inr rfl, rfl⟩), rfl⟩, ?_⟩) | (refine lEB S ?_ <;> refine KO_nil ⟨⟨by (first | exact True.intro | exact Or.inl rfl | exact Or.inr rfl | exact Or.inr (congrArg some (blkOf_elA _ _ _ _)) | exact ⟨Or.inl rfl, rfl⟩ | exact ⟨Or.inr rfl, rfl⟩), rfl⟩, ?_⟩) | (refine lH S ?_ <;> refine KO_nil ⟨⟨by (first | exact True.intro | exact Or.inl rfl | exact Or.inr rfl | exact Or.inr (congrArg some (blkOf_elA _ _ _ _)) | exact ⟨Or.inl rfl, rfl⟩ | exact ⟨Or.inr rfl, rfl⟩), rfl⟩, ?_⟩)); refine KX_cons ?_; (first | (refine tcL ?_ <;> refine KO_nil ⟨⟨by (first | exact True.intro | exact Or.inl rfl | exact Or.inr rfl | exact Or.inr (congrArg some (blkOf_elA _ _ _ _)) | exact ⟨Or.inl rfl, rfl⟩ | exact ⟨Or.inr rfl, rfl⟩), rfl⟩, ?_⟩)); refine KX_cons ?_; (first | (refine tcL ?_ <;> refine KO_nil ⟨⟨by (first | exact True.intro | exact Or.inl rfl | exact Or.inr rfl | exact Or.inr (congrArg some (blkOf_elA _ _ _ _)) | exact ⟨Or.inl rfl, rfl⟩ | exact ⟨Or.inr rfl, rfl⟩), rfl⟩, ?_⟩)); refine KX_cons ?_; (first | (refine vl ?_ <;> refine KO_nil ⟨⟨by (first | exact True.intro | exact Or.inl rfl | exact Or.inr rfl | exact Or.inr (congrArg some (blkOf_elA _ _ _ _)) | exact ⟨Or.inl rfl, rfl⟩ | exact ⟨Or.inr rfl, rfl⟩), rfl⟩, ?_⟩) | (refine fB S ?_ <;> refine KO_nil ⟨⟨by (first | exact True.intro | exact Or.inl rfl | exact Or.inr rfl | exact Or.inr (congrArg some (blkOf_elA _ _ _ _)) | exact ⟨Or.inl rfl, rfl⟩ | exact ⟨Or.inr rfl, rfl⟩), rfl⟩, ?_⟩) | (refine fS S rfl rfl ?_ <;> refine KO_nil ⟨⟨by (first | exact True.intro | exact Or.inl rfl | exact Or.inr rfl | exact Or.inr (congrArg some (blkOf_elA _ _ _ _)) | exact ⟨Or.inl rfl, rfl⟩ | exact ⟨Or.inr rfl, rfl⟩), rfl⟩, ?_⟩) | (refine fA ?_ <;> refine KO_nil ⟨⟨by (first | exact True.intro | exact Or.inl rfl | exact Or.inr rfl | exact Or.inr (congrArg some (blkOf_elA _ _ _ _)) | exact ⟨Or.inl rfl, rfl⟩ | exact ⟨Or.inr rfl, rfl⟩), rfl⟩, ?_⟩)); refine KX_cons ?_; (first | (refine lB S rfl rfl ?_ <;> refine KO_nil ⟨⟨by (first | exact True.intro | exact Or.inl rfl | exact Or.inr rfl | exact Or.inr (congrArg some (blkOf_elA _ _ _ _)) | exact ⟨Or.inl rfl, rfl⟩ | exact ⟨Or.inr rfl, rfl⟩), rfl⟩, ?_⟩) | (refine lES2 S rfl rfl ?_ <;> refine KO_nil ⟨⟨by (first | exact True.intro | exact Or.inl rfl | exact Or.inr rfl | exact Or.inr (congrArg some (blkOf_elA _ _ _ _)) | exact ⟨Or.inl rfl, rfl⟩ | exact ⟨Or.inr rfl, rfl⟩), rfl⟩, ?_⟩) | (refine lEB S ?_ <;> refine KO_nil ⟨⟨by (first | exact True.intro | exact Or.inl rfl | exact Or.inr rfl | exact Or.inr (congrArg some (blkOf_elA _ _ _ _)) | exact ⟨Or.inl rfl, rfl⟩ | exact ⟨Or.inr rfl, rfl⟩), rfl⟩, ?_⟩) | (refine lH S ?_ <;> refine KO_nil ⟨⟨by (first | exact True.intro | exact Or.inl rfl | exact Or.inr rfl | exact Or.inr (congrArg some (blkOf_elA _ _ _ _)) | exact ⟨Or.inl rfl, rfl⟩ | exact ⟨Or.inr rfl, rfl⟩), rfl⟩, ?_⟩))
    ((refine KX_cons ?_; first | refine KO_fn rfl rfl rfl rfl rfl ((shapeWord_ok S.wf (tb l i) hf.sh).mono ?_)); rintro _ h ⟨rfl, x⟩) <;> ((refine KO_nil ⟨⟨True.intro, ?_⟩, ?_⟩; (focus ((show keepsX _ _ _ _ _; simp only [keepsX]; (repeat' (first | exact True.intro | refine And.intro ?_ ?_)); all_goals (intro hw; first | exact True.intro | exact rfl | exact x.ext.old _ S.bB | exact x.ext.old _ (S.bR (by first | omega | grind)) | exact x.ext.old _ (S.bX (by assumption) (by assumption) (by first | omega | grind)) | (refine x.ext.old _ ?_; assumption) | exact absurd hw (by decide +kernel)))))); replace S := S.join0 x; clear x; refine KX_cons ?_; (first | (refine tcL ?_ <;> refine KO_nil ⟨⟨by (first | exact True.intro | exact Or.inl rfl | exact Or.inr rfl | exact Or.inr (congrArg some (blkOf_elA _ _ _ _)) | exact ⟨Or.inl rfl, rfl⟩ | exact ⟨Or.inr rfl, rfl⟩), rfl⟩, ?_⟩)); refine KX_cons ?_; (first | (refine tcL ?_ <;> refine KO_nil ⟨⟨by (first | exact True.intro | exact Or.inl rfl | exact Or.inr rfl | exact Or.inr (congrArg some (blkOf_elA _ _ _ _)) | exact ⟨Or.inl rfl, rfl⟩ | exact ⟨Or.inr rfl, rfl⟩), rfl⟩, ?_⟩)); refine KX_cons ?_; (first | (refine vl ?_ <;> refine KO_nil ⟨⟨by (first | exact True.intro | exact Or.inl rfl | exact Or.inr rfl | exact Or.inr (congrArg some (blkOf_elA _ _ _ _)) | exact ⟨Or.inl rfl, rfl⟩ | exact ⟨Or.inr rfl, rfl⟩), rfl⟩, ?_⟩) | (refine fB S ?_ <;> refine KO_nil ⟨⟨by (first | exact True.intro | exact Or.inl rfl | exact Or.inr rfl | exact Or.inr (congrArg some (blkOf_elA _ _ _ _)) | exact ⟨Or.inl rfl, rfl⟩ | exact ⟨Or.inr rfl, rfl⟩), rfl⟩, ?_⟩) | (refine fS S rfl rfl ?_ <;> refine KO_nil ⟨⟨by (first | exact True.intro | exact Or.inl rfl | exact Or.inr rfl | exact Or.inr (congrArg some (blkOf_elA _ _ _ _)) | exact ⟨Or.inl rfl, rfl⟩ | exact ⟨Or.inr rfl, rfl⟩), rfl⟩, ?_⟩) | (refine fA ?_ <;> refine KO_nil ⟨⟨by (first | exact True.intro | exact Or.inl rfl | exact Or.inr rfl | exact Or.inr (congrArg some (blkOf_elA _ _ _ _)) | exact ⟨Or.inl rfl, rfl⟩ | exact ⟨Or.inr rfl, rfl⟩), rfl⟩, ?_⟩)); refine KX_cons ?_; (first | (refine lB S rfl rfl ?_ <;> refine KO_nil ⟨⟨by (first | exact True.intro | exact Or.inl rfl | exact Or.inr rfl | exact Or.inr (congrArg some (blkOf_elA _ _ _ _)) | exact ⟨Or.inl rfl, rfl⟩ | exact ⟨Or.inr rfl, rfl⟩), rfl⟩, ?_⟩) | (refine lES2 S rfl rfl ?_ <;> refine KO_nil ⟨⟨by (first | exact True.intro | exact Or.inl rfl | exact Or.inr rfl | exact Or.inr (congrArg some (blkOf_elA _ _ _ _)) | exact ⟨Or.inl rfl, rfl⟩ | exact ⟨Or.inr rfl, rfl⟩), rfl⟩, ?_⟩) | (refine lEB S ?_ <;> refine KO_nil ⟨⟨by (first | exact True.intro | exact Or.inl rfl | exact Or.inr rfl | exact Or.inr (congrArg some (blkOf_elA _ _ _ _)) | exact ⟨Or.inl rfl, rfl⟩ | exact ⟨Or.inr rfl, rfl⟩), rfl⟩, ?_⟩) | (refine lH S ?_ <;> refine KO_nil ⟨⟨by (first | exact True.intro | exact Or.inl rfl | exact Or.inr rfl | exact Or.inr (congrArg some (blkOf_elA _ _ _ _)) | exact ⟨Or.inl rfl, rfl⟩ | exact ⟨Or.inr rfl, rfl⟩), rfl⟩, ?_⟩)))
    ((refine KX_cons ?_; first | refine KO_fn rfl rfl rfl rfl rfl ((deci_okS S.wf _ hbA).mono ?_)); rintro _ h ⟨rfl, x⟩) <;> ((refine KO_nil ⟨⟨True.intro, ?_⟩, ?_⟩; (focus ((show keepsX _ _ _ _ _; simp only [keepsX]; (repeat' (first | exact True.intro | refine And.intro ?_ ?_)); all_goals (intro hw; first | exact True.intro | exact rfl | exact x.ext.old _ S.bB | exact x.ext.old _ (S.bR (by first | omega | grind)) | exact x.ext.old _ (S.bX (by assumption) (by assumption) (by first | omega | grind)) | (refine x.ext.old _ ?_; assumption) | exact absurd hw (by decide +kernel)))))); replace S := S.join0 x; clear x; refine KX_cons ?_; (first | (refine tcL ?_ <;> refine KO_nil ⟨⟨by (first | exact True.intro | exact Or.inl rfl | exact Or.inr rfl | exact Or.inr (congrArg some (blkOf_elA _ _ _ _)) | exact ⟨Or.inl rfl, rfl⟩ | exact ⟨Or.inr rfl, rfl⟩), rfl⟩, ?_⟩)); refine KX_cons ?_; (first | (refine tcL ?_ <;> refine KO_nil ⟨⟨by (first | exact True.intro | exact Or.inl rfl | exact Or.inr rfl | exact Or.inr (congrArg some (blkOf_elA _ _ _ _)) | exact ⟨Or.inl rfl, rfl⟩ | exact ⟨Or.inr rfl, rfl⟩), rfl⟩, ?_⟩)); refine KX_cons ?_; (first | (refine vl ?_ <;> refine KO_nil ⟨⟨by (first | exact True.intro | exact Or.inl rfl | exact Or.inr rfl | exact Or.inr (congrArg some (blkOf_elA _ _ _ _)) | exact ⟨Or.inl rfl, rfl⟩ | exact ⟨Or.inr rfl, rfl⟩), rfl⟩, ?_⟩) | (refine fB S ?_ <;> refine KO_nil ⟨⟨by (first | exact True.intro | exact Or.inl rfl | exact Or.inr rfl | exact Or.inr (congrArg some (blkOf_elA _ _ _ _)) | exact ⟨Or.inl rfl, rfl⟩ | exact ⟨Or.inr rfl, rfl⟩), rfl⟩, ?_⟩) | (refine fS S rfl rfl ?_ <;> refine KO_nil ⟨⟨by (first | exact True.intro | exact Or.inl rfl | exact Or.inr rfl | exact Or.inr (congrArg some (blkOf_elA _ _ _ _)) | exact ⟨Or.inl rfl, rfl⟩ | exact ⟨Or.inr rfl, rfl⟩), rfl⟩, ?_⟩) | (refine fA ?_ <;> refine KO_nil ⟨⟨by (first | exact True.intro | exact Or.inl rfl | exact Or.inr rfl | exact Or.inr (congrArg some (blkOf_elA _ _ _ _)) | exact ⟨Or.inl rfl, rfl⟩ | exact ⟨Or.inr rfl, rfl⟩), rfl⟩, ?_⟩)); refine KX_cons ?_; (first | (refine lB S rfl rfl ?_ <;> refine KO_nil ⟨⟨by (first | exact True.intro | exact Or.inl rfl | exact Or.inr rfl | exact Or.inr (congrArg some (blkOf_elA _ _ _ _)) | exact ⟨Or.inl rfl, rfl⟩ | exact ⟨Or.inr rfl, rfl⟩), rfl⟩, ?_⟩) | (refine lES2 S rfl rfl ?_ <;> refine KO_nil ⟨⟨by (first | exact True.intro | exact Or.inl rfl | exact Or.inr rfl | exact Or.inr (congrArg some (blkOf_elA _ _ _ _)) | exact ⟨Or.inl rfl, rfl⟩ | exact ⟨Or.inr rfl, rfl⟩), rfl⟩, ?_⟩) | (refine lEB S ?_ <;> refine KO_nil ⟨⟨by (first | exact True.intro | exact Or.inl rfl | exact Or.inr rfl | exact Or.inr (congrArg some (blkOf_elA _ _ _ _)) | exact ⟨Or.inl rfl, rfl⟩ | exact ⟨Or.inr rfl, rfl⟩), rfl⟩, ?_⟩) | (refine lH S ?_ <;> refine KO_nil ⟨⟨by (first | exact True.intro | exact Or.inl rfl | exact Or.inr rfl | exact Or.inr (congrArg some (blkOf_elA _ _ _ _)) | exact ⟨Or.inl rfl, rfl⟩ | exact ⟨Or.inr rfl, rfl⟩), rfl⟩, ?_⟩)))
    ((refine KX_cons ?_; first | refine KO_fn rfl rfl rfl rfl rfl ((deci_okS S.wf _ hbB).mono ?_)); rintro _ h ⟨rfl, x⟩) <;> ((refine KO_nil ⟨⟨True.intro, ?_⟩, ?_⟩; (focus ((show keepsX _ _ _ _ _; simp only [keepsX]; (repeat' (first | exact True.intro | refine And.intro ?_ ?_)); all_goals (intro hw; first | exact True.intro | exact rfl | exact x.ext.old _ S.bB | exact x.ext.old _ (S.bR (by first | omega | grind)) | exact x.ext.old _ (S.bX (by assumption) (by assumption) (by first | omega | grind)) | (refine x.ext.old _ ?_; assumption) | exact absurd hw (by decide +kernel)))))); replace S := S.join0 x; clear x; refine KX_cons ?_; (first | (refine tcL ?_ <;> refine KO_nil ⟨⟨by (first | exact True.intro | exact Or.inl rfl | exact Or.inr rfl | exact Or.inr (congrArg some (blkOf_elA _ _ _ _)) | exact ⟨Or.inl rfl, rfl⟩ | exact ⟨Or.inr rfl, rfl⟩), rfl⟩, ?_⟩)); refine KX_cons ?_; (first | (refine tcL ?_ <;> refine KO_nil ⟨⟨by (first | exact True.intro | exact Or.inl rfl | exact Or.inr rfl | exact Or.inr (congrArg some (blkOf_elA _ _ _ _)) | exact ⟨Or.inl rfl, rfl⟩ | exact ⟨Or.inr rfl, rfl⟩), rfl⟩, ?_⟩)); refine KX_cons ?_; (first | (refine vl ?_ <;> refine KO_nil ⟨⟨by (first | exact True.intro | exact Or.inl rfl | exact Or.inr rfl | exact Or.inr (congrArg some (blkOf_elA _ _ _ _)) | exact ⟨Or.inl rfl, rfl⟩ | exact ⟨Or.inr rfl, rfl⟩), rfl⟩, ?_⟩) | (refine fB S ?_ <;> refine KO_nil ⟨⟨by (first | exact True.intro | exact Or.inl rfl | exact Or.inr rfl | exact Or.inr (congrArg some (blkOf_elA _ _ _ _)) | exact ⟨Or.inl rfl, rfl⟩ | exact ⟨Or.inr rfl, rfl⟩), rfl⟩, ?_⟩) | (refine fS S rfl rfl ?_ <;> refine KO_nil ⟨⟨by (first | exact True.intro | exact Or.inl rfl | exact Or.inr rfl | exact Or.inr (congrArg some (blkOf_elA _ _ _ _)) | exact ⟨Or.inl rfl, rfl⟩ | exact ⟨Or.inr rfl, rfl⟩), rfl⟩, ?_⟩) | (refine fA ?_ <;> refine KO_nil ⟨⟨by (first | exact True.intro | exact Or.inl rfl | exact Or.inr rfl | exact Or.inr (congrArg some (blkOf_elA _ _ _ _)) | exact ⟨Or.inl rfl, rfl⟩ | exact ⟨Or.inr rfl, rfl⟩), rfl⟩, ?_⟩)); refine KX_cons ?_; (first | (refine lB S rfl rfl ?_ <;> refine KO_nil ⟨⟨by (first | exact True.intro | exact Or.inl rfl | exact Or.inr rfl | exact Or.inr (congrArg some (blkOf_elA _ _ _ _)) | exact ⟨Or.inl rfl, rfl⟩ | exact ⟨Or.inr rfl, rfl⟩), rfl⟩, ?_⟩) | (refine lES2 S rfl rfl ?_ <;> refine KO_nil ⟨⟨by (first | exact True.intro | exact Or.inl rfl | exact Or.inr rfl | exact Or.inr (congrArg some (blkOf_elA _ _ _ _)) | exact ⟨Or.inl rfl, rfl⟩ | exact ⟨Or.inr rfl, rfl⟩), rfl⟩, ?_⟩) | (refine lEB S ?_ <;> refine KO_nil ⟨⟨by (first | exact True.intro | exact Or.inl rfl | exact Or.inr rfl | exact Or.inr (congrArg some (blkOf_elA _ _ _ _)) | exact ⟨Or.inl rfl, rfl⟩ | exact ⟨Or.inr rfl, rfl⟩), rfl⟩, ?_⟩) | (refine lH S ?_ <;> refine KO_nil ⟨⟨by (first | exact True.intro | exact Or.inl rfl | exact Or.inr rfl | exact Or.inr (congrArg some (blkOf_elA _ _ _ _)) | exact ⟨Or.inl rfl, rfl⟩ | exact ⟨Or.inr rfl, rfl⟩), rfl⟩, ?_⟩)))
    ((refine KX_cons ?_; first | refine KO_fn rfl rfl rfl rfl rfl ((deci_okS S.wf _ hbX).mono ?_)); rintro _ h ⟨rfl, x⟩) <;> ((refine KO_nil ⟨⟨True.intro, ?_⟩, ?_⟩; (focus ((show keepsX _ _ _ _ _; simp only [keepsX]; (repeat' (first | exact True.intro | refine And.intro ?_ ?_)); all_goals (intro hw; first | exact True.intro | exact rfl | exact x.ext.old _ S.bB | exact x.ext.old _ (S.bR (by first | omega | grind)) | exact x.ext.old _ (S.bX (by assumption) (by assumption) (by first | omega | grind)) | (refine x.ext.old _ ?_; assumption) | exact absurd hw (by decide +kernel)))))); replace S := S.join0 x; clear x; refine KX_cons ?_; (first | (refine tcL ?_ <;> refine KO_nil ⟨⟨by (first | exact True.intro | exact Or.inl rfl | exact Or.inr rfl | exact Or.inr (congrArg some (blkOf_elA _ _ _ _)) | exact ⟨Or.inl rfl, rfl⟩ | exact ⟨Or.inr rfl, rfl⟩), rfl⟩, ?_⟩)); refine KX_cons ?_; (first | (refine tcL ?_ <;> refine KO_nil ⟨⟨by (first | exact True.intro | exact Or.inl rfl | exact Or.inr rfl | exact Or.inr (congrArg some (blkOf_elA _ _ _ _)) | exact ⟨Or.inl rfl, rfl⟩ | exact ⟨Or.inr rfl, rfl⟩), rfl⟩, ?_⟩)); refine KX_cons ?_; (first | (refine vl ?_ <;> refine KO_nil ⟨⟨by (first | exact True.intro | exact Or.inl rfl | exact Or.inr rfl | exact Or.inr (congrArg some (blkOf_elA _ _ _ _)) | exact ⟨Or.inl rfl, rfl⟩ | exact ⟨Or.inr rfl, rfl⟩), rfl⟩, ?_⟩) | (refine fB S ?_ <;> refine KO_nil ⟨⟨by (first | exact True.intro | exact Or.inl rfl | exact Or.inr rfl | exact Or.inr (congrArg some (blkOf_elA _ _ _ _)) | exact ⟨Or.inl rfl, rfl⟩ | exact ⟨Or.inr rfl, rfl⟩), rfl⟩, ?_⟩) | (refine fS S rfl rfl ?_ <;> refine KO_nil ⟨⟨by (first | exact True.intro | exact Or.inl rfl | exact Or.inr rfl | exact Or.inr (congrArg some (blkOf_elA _ _ _ _)) | exact ⟨Or.inl rfl, rfl⟩ | exact ⟨Or.inr rfl, rfl⟩), rfl⟩, ?_⟩) | (refine fA ?_ <;> refine KO_nil ⟨⟨by (first | exact True.intro | exact Or.inl rfl | exact Or.inr rfl | exact Or.inr (congrArg some (blkOf_elA _ _ _ _)) | exact ⟨Or.inl rfl, rfl⟩ | exact ⟨Or.inr rfl, rfl⟩), rfl⟩, ?_⟩)); refine KX_cons ?_; (first | (refine lB S rfl rfl ?_ <;> refine KO_nil ⟨⟨by (first | exact True.intro | exact Or.inl rfl | exact Or.inr rfl | exact Or.inr (congrArg some (blkOf_elA _ _ _ _)) | exact ⟨Or.inl rfl, rfl⟩ | exact ⟨Or.inr rfl, rfl⟩), rfl⟩, ?_⟩) | (refine lES2 S rfl rfl ?_ <;> refine KO_nil ⟨⟨by (first | exact True.intro | exact Or.inl rfl | exact Or.inr rfl | exact Or.inr (congrArg some (blkOf_elA _ _ _ _)) | exact ⟨Or.inl rfl, rfl⟩ | exact ⟨Or.inr rfl, rfl⟩), rfl⟩, ?_⟩) | (refine lEB S ?_ <;> refine KO_nil ⟨⟨by (first | exact True.intro | exact Or.inl rfl | exact Or.inr rfl | exact Or.inr (congrArg some (blkOf_elA _ _ _ _)) | exact ⟨Or.inl rfl, rfl⟩ | exact ⟨Or.inr rfl, rfl⟩), rfl⟩, ?_⟩) | (refine lH S ?_ <;> refine KO_nil ⟨⟨by (first | exact True.intro | exact Or.inl rfl | exact Or.inr rfl | exact Or.inr (congrArg some (blkOf_elA _ _ _ _)) | exact ⟨Or.inl rfl, rfl⟩ | exact ⟨Or.inr rfl, rfl⟩), rfl⟩, ?_⟩)))
    ((refine KX_cons ?_; first | refine KO_fn rfl rfl rfl rfl rfl ((deci_okS S.wf _ hbY).mono ?_)); rintro _ h ⟨rfl, x⟩) <;> ((refine KO_nil ⟨⟨True.intro, ?_⟩, ?_⟩; (focus ((show keepsX _ _ _ _ _; simp only [keepsX]; (repeat' (first | exact True.intro | refine And.intro ?_ ?_)); all_goals (intro hw; first | exact True.intro | exact rfl | exact x.ext.old _ S.bB | exact x.ext.old _ (S.bR (by first | omega | grind)) | exact x.ext.old _ (S.bX (by assumption) (by assumption) (by first | omega | grind)) | (refine x.ext.old _ ?_; assumption) | exact absurd hw (by decide +kernel)))))); replace S := S.join0 x; clear x; refine KX_cons ?_; (first | (refine tcL ?_ <;> refine KO_nil ⟨⟨by (first | exact True.intro | exact Or.inl rfl | exact Or.inr rfl | exact Or.inr (congrArg some (blkOf_elA _ _ _ _)) | exact ⟨Or.inl rfl, rfl⟩ | exact ⟨Or.inr rfl, rfl⟩), rfl⟩, ?_⟩)); refine KX_cons ?_; (first | (refine mv ?_ <;> refine KO_nil ⟨⟨by (first | exact True.intro | exact Or.inl rfl | exact Or.inr rfl | exact Or.inr (congrArg some (blkOf_elA _ _ _ _)) | exact ⟨Or.inl rfl, rfl⟩ | exact ⟨Or.inr rfl, rfl⟩), rfl⟩, ?_⟩)); refine KX_nil ?_)
    all_goals (repeat' (first | refine K_seq ?_ | refine k_cond rfl ?_ | refine K_skip ?_ | refine K_exit ?_ | refine k_block ?_ | refine K_scope ?_ | (refine K_region (id := 3) ?_; refine mv ?_; refine mv ?_; (first | refine lnB S ?_ | refine lnS S rfl rfl ?_); (first | refine cT ?_ | refine cF ?_ | (refine cS ?_ ?_ <;> intro hc)) <;> (refine KO_nil ?_)) | (refine K_region (id := 5) ?_; refine mv ?_; refine mv ?_; (first | refine ixB S ?_ | refine ixS2 S rfl rfl ?_); (first | refine lB S rfl rfl ?_ | refine lES2 S rfl rfl ?_ | refine lEB S ?_ | refine lH S ?_); (refine al S ?_; clear S; intro b h S); (first | (refine sB S rfl rfl ?_; clear S; intro h S) | (refine sE2 S rfl rfl ?_; clear S; intro h S)); refine KO_nil ?_) | (refine K_region (id := 7) ?_; refine mv ?_; refine KO_nil ?_) | (refine K_region (id := 12) ?_; refine mv ?_; refine mv ?_; refine KO_nil ?_)))
    refine k_loop (σ := Nat × List UInt8) (fun (k, s) h' => Hs h0 h' [.blk b2 (eT (tb l i)) 25] ∧ k ≤ (tb l i).opn.length ∧ s = (fmtL l i ++ headT (tb l i)) ++ numsS ((numsOf (tb l i)).take (4 + k))) (fun (k, s) => (tb l i).opn.length - k) (fun (k, s) => [(0, v), (3, str s), (4, .int .i64 i), (5, .pointer (some ⟨b2, 0, none⟩)), (6, .int .i64 k)]) (0, _) (by repeat (first | exact Ks.le_nil _ | refine Ks.le_cons rfl ?_ | refine Ks.le_int ?_)) ?_ ?_
    · refine ⟨S, Nat.zero_le _, ?_⟩
      simp only [headT, hdT, numsOf, numsS, tWord, dc, List.append_assoc, List.take_succ_cons, List.take_zero, List.cons_append, List.nil_append, List.flatMap_cons, List.flatMap_nil, List.append_nil, Nat.add_zero]
    clear S
    rintro ⟨k, s⟩ h ⟨S, hk, hs⟩
    have hnt := numsS_len ((numsOf (tb l i)).take (4 + k))
    rw [List.length_take] at hnt
    have hsl : s.length ≤ 1000000 := by rw [hs]; simp only [List.length_append]; omega
    all_goals (repeat' (first | refine K_seq ?_ | refine k_cond rfl ?_ | refine K_skip ?_ | refine K_exit ?_ | refine k_block ?_ | refine K_scope ?_ | (refine K_region (id := 4) ?_; refine mv ?_; (first | refine ad ?_ | refine vl ?_); refine mv ?_; refine KO_nil ?_) | (refine K_region (id := 8) ?_; refine mv ?_; (first | refine vl ?_ | refine fB S ?_ | refine fS S rfl rfl ?_ | refine fA ?_); (first | refine lB S rfl rfl ?_ | refine lES2 S rfl rfl ?_ | refine lEB S ?_ | refine lH S ?_); (first | refine lnB S ?_ | refine lnS S rfl rfl ?_); (first | refine cT ?_ | refine cF ?_ | (refine cS ?_ ?_ <;> intro hc)) <;> (refine KO_nil ?_)) | (refine K_region (id := 10) ?_; refine mv ?_; refine tcL ?_; (first | refine vl ?_ | refine fB S ?_ | refine fS S rfl rfl ?_ | refine fA ?_); (first | refine lB S rfl rfl ?_ | refine lES2 S rfl rfl ?_ | refine lEB S ?_ | refine lH S ?_); refine mv ?_; (first | refine ixB S ?_ | refine ixS2 S rfl rfl ?_); (first | refine lB S rfl rfl ?_ | refine lES2 S rfl rfl ?_ | refine lEB S ?_ | refine lH S ?_)) | (refine K_region (id := 11) ?_; refine mv ?_; refine tcL ?_; refine mv ?_; refine KO_nil ?_)))
    · have hb : 0 ≤ (tb l i).opn.getD k default ∧ (tb l i).opn.getD k default ≤ 1000 := by
        have := hf.nums (4 + k) (by omega)
        rw [show (numsOf (tb l i)).getD (4 + k) default = (tb l i).opn.getD k default by rw [Nat.add_comm]; rfl] at this
        exact this
      have hdl := (decL_len ((tb l i).opn.getD k default).toNat).2
      try simp only [Int.toNat_natCast] at *
      (refine KO_fn rfl rfl rfl rfl rfl ((deci_okS S.wf _ hb).mono ?_); rintro _ h ⟨rfl, x⟩) <;> (replace S := S.join0 x; clear x; refine tcL ?_; refine mv ?_; refine KO_nil ?_)
      all_goals (repeat' (first | refine K_seq ?_ | refine k_cond rfl ?_ | refine K_skip ?_ | refine K_exit ?_ | refine k_block ?_ | refine K_scope ?_ | (refine K_region (id := 9) ?_; refine mv ?_; (first | refine ad ?_ | refine vl ?_); refine mv ?_; refine KO_nil ?_)))
      refine ⟨(k + 1, _), ?_, ?_, (by repeat (first | exact Ks.le_nil _ | refine Ks.le_cons rfl ?_ | refine Ks.le_int ?_))⟩
      · show (tb l i).opn.length - (k + 1) < (tb l i).opn.length - k; omega
      · refine ⟨S, by omega, ?_⟩
        rw [hs, ← Nat.add_assoc, numsS_take (by omega), show (numsOf (tb l i)).getD (4 + k) default = (tb l i).opn.getD k default by rw [Nat.add_comm]; rfl]
        simp only [List.append_assoc]; rfl
    · have hke : k = (tb l i).opn.length := by omega
      subst hke
      rw [← hnl, List.take_length] at hs
      have e : s ++ [10] = fmtL l (i + 1) := by
        show s ++ [10] = fmtL l i ++ fmtT (tb l i)
        rw [hs]; unfold fmtT; simp only [List.append_assoc]
      rw [e]
      refine ⟨i + 1, ?_, ?_, (by repeat (first | exact Ks.le_nil _ | refine Ks.le_cons rfl ?_ | refine Ks.le_int ?_))⟩
      · show l.length - (i + 1) < l.length - i; omega
      · exact ⟨S.drop, by omega⟩
  · have hie : i = l.length := by omega
    subst hie
    skip
    all_goals (repeat' (first | refine K_seq ?_ | refine k_cond rfl ?_ | refine K_skip ?_ | refine K_exit ?_ | refine k_block ?_ | refine K_scope ?_ | (refine K_region (id := 12) ?_; refine mv ?_; refine mv ?_; refine KO_nil ?_)))
    refine K_ret ⟨_, rfl, ?_⟩
    exact ⟨rfl, S⟩
end Go.Proofs.Xx

/-
  HallChecks: for the row.
-/
namespace Go.Proofs.Xx
open Go Go.Proofs
set_option linter.unusedSimpArgs false
set_option linter.unusedVariables false
set_option maxRecDepth 100000

theorem HallA.few {h : AH} {v : Value} {l : List Tab} (A : HallA h v l) (f : FewP l) : HallR h v l :=
  ⟨A.rd, fun i hi => ⟨(A.tab i hi).rd, by have := f.2 i hi; omega, by have := f.2 i hi; omega⟩, by have := f.1; omega, A.cap⟩
theorem fewA_ok {h0 : AH} (w : WfH h0) (v : Value) (l : List Tab) (A : HallA h0 v l) : Fn Tryz.prog Xh 19 [v] h0 (fun r h' => BoolIs r (FewP l) ∧ Hs h0 h' []) :=
  few_ok w v l A.rd A.len fun i hi => ⟨(A.tab i hi).rd, (A.tab i hi).name, (A.tab i hi).opn⟩
end Go.Proofs.Xx

/-
  HallHonours: Honour and Blocks of any table return what the document specifies.
-/
namespace Go.Proofs.Xx
open Go Go.Proofs
set_option linter.unusedSimpArgs false
set_option linter.unusedVariables false
set_option maxRecDepth 100000

section
variable {l2 l : List Tab}
end
end Go.Proofs.Xx

/-
  HallFormats: the text of a hall is the reference's.
-/
namespace Go.Proofs.Xx
open Go Go.Proofs
set_option linter.unusedSimpArgs false
set_option linter.unusedVariables false
set_option maxRecDepth 100000

theorem SameAll.fmt {l2 l : List Tab} (s : SameAll l2 l) : ∀ i, i ≤ l2.length → fmtL l2 i = fmtL l i
  | 0, _ => rfl
  | i + 1, hi => by
    have e := s.2 i (by omega)
    show fmtL l2 i ++ fmtT (tb l2 i) = fmtL l i ++ fmtT (tb l i)
    rw [s.fmt i (by omega)]
    congr 1
    unfold SameTab at e
    rw [e]; rfl
theorem format_any {h0 : AH} (w : WfH h0) (v : Value) (l : List Tab) (H : HallR h0 v l) : Fn Tryz.prog Xh 54 [v] h0 (fun r h' => (ValidL l → r = str (fmtL l l.length)) ∧ (¬ ValidL l → r = str []) ∧ (∃ s, r = str s) ∧ Hs h0 h' []) := by
  by_cases hl : ValidL l
  · by_cases hz : l.length = 0
    · refine (format0_ok w v l H (.inr hz)).mono fun r h' q => ⟨fun _ => by rw [hz]; exact q.1, fun q2 => absurd hl q2, ⟨_, q.1⟩, q.2⟩
    · refine (format_ok w v l H hl (by omega)).mono fun r h' q => ⟨fun _ => q.1, fun q2 => absurd hl q2, ⟨_, q.1⟩, q.2⟩
  · refine (format0_ok w v l H (.inl hl)).mono fun r h' q => ⟨fun q2 => absurd q2 hl, fun _ => q.1, ⟨_, q.1⟩, q.2⟩
theorem formats_ok {h0 : AH} (w : WfH h0) (v : Value) (l : List Tab) (H : HallR h0 v l) : Fn Tryz.prog Xh 22 [v] h0 (fun r h' => r = .bool true ∧ Hs h0 h' []) := by
  have S := Hs.start w
  have hl := H.len
  refine Fn_K rfl Tryz.func22 rfl rfl ?_
  all_goals (repeat' (first | refine K_seq ?_ | refine k_cond rfl ?_ | refine K_skip ?_ | refine K_exit ?_ | refine k_block ?_ | refine K_scope ?_ | (refine K_region (id := 0) ?_; refine mv ?_; refine KO_nil ?_) | (refine K_region (id := 1) ?_; refine mv ?_)))
  (refine KO_fn rfl rfl rfl rfl rfl ((copy_ok S.wf v l H.rd H.len H.tab).mono ?_); rintro u g ⟨l2, sa, Hu, x⟩) <;> (replace S := S.join0 x; clear x; refine mv ?_; refine mv ?_; refine KO_nil ?_)
  have T := S
  have w1 := S.wf
  have H1 := H.ext w S.ext
  have hl2 := sa.1
  have hr1 := H1.rd
  have hru := Hu.rd
  replace S := Hs.start w1
  have hsv := sa.valid
  have hsf := sa.fmt l2.length (Nat.le_refl _)
  have fin : ∀ h, Hs g h [] → Fn Tryz.prog Xh 62 [u, v] h (fun r h' => r = .bool true ∧ Hs h h' []) := fun h S => by
    refine (same_ok S.wf u v l2 l (hru.ext w1 S.ext) (hr1.ext w1 S.ext) (fun i hi => (Hu.ext w1 S.ext).tab i hi) (fun i hi => (H1.ext w1 S.ext).tab i hi) (by omega) (by omega)).mono ?_
    rintro r h' ⟨⟨rfl, q⟩ | ⟨rfl, q⟩, x⟩
    · exact ⟨rfl, x⟩
    · exact absurd sa q
  all_goals (repeat' (first | refine K_seq ?_ | refine k_cond rfl ?_ | refine K_skip ?_ | refine K_exit ?_ | refine k_block ?_ | refine K_scope ?_ | (refine K_region (id := 2) ?_; refine mv ?_)))
  (refine KO_fn rfl rfl rfl rfl rfl ((refValid_ok S.wf v l (H1.ext w1 S.ext)).mono ?_); rintro _ h ⟨⟨rfl, hq⟩ | ⟨rfl, hq⟩, x⟩) <;> (replace S := S.join0 x; clear x; refine KO_nil ?_)
  · all_goals (repeat' (first | refine K_seq ?_ | refine k_cond rfl ?_ | refine K_skip ?_ | refine K_exit ?_ | refine k_block ?_ | refine K_scope ?_ | (refine K_region (id := 3) ?_; refine mv ?_) | (refine K_region (id := 4) ?_; refine mv ?_)))
    (refine KO_fn rfl rfl rfl rfl rfl ((refFormat_ok S.wf v l (H1.ext w1 S.ext) hq).mono ?_); rintro _ h ⟨rfl, x⟩) <;> (replace S := S.join0 x; clear x; refine mv ?_; refine KO_nil ?_)
    all_goals (repeat' (first | refine K_seq ?_ | refine k_cond rfl ?_ | refine K_skip ?_ | refine K_exit ?_ | refine k_block ?_ | refine K_scope ?_ | (refine K_region (id := 4) ?_; refine mv ?_)))
    (refine KO_fn rfl rfl rfl rfl rfl ((format_any S.wf u l2 (Hu.ext w1 S.ext)).mono ?_); rintro r h ⟨q1, q2, -, x⟩) <;> (replace S := S.join0 x; clear x; obtain rfl : r = str (fmtL l l.length) := (by rw [q1 (hsv.2 hq), hsf, hl2]); refine mv ?_; (refine tS ?_ ?_ <;> intro hc) <;> (refine mv ?_; (first | refine off ?_ | refine mv ?_); (first | refine off ?_ | refine mv ?_); (first | (refine off ?_; refine vl ?_; refine mv ?_; refine KO_nil ?_) | skip)))
    · (refine KO_fn rfl rfl rfl rfl rfl ((fin _ S).mono ?_); rintro _ h ⟨rfl, x⟩) <;> (replace S := S.join0 x; clear x; refine vl ?_; refine mv ?_; refine KO_nil ?_)
      all_goals (repeat' (first | refine K_seq ?_ | refine k_cond rfl ?_ | refine K_skip ?_ | refine K_exit ?_ | refine k_block ?_ | refine K_scope ?_))
      refine K_ret ⟨_, rfl, ?_⟩
      exact ⟨rfl, T.join0 S⟩
    · exact absurd rfl hc
  · skip
    all_goals (repeat' (first | refine K_seq ?_ | refine k_cond rfl ?_ | refine K_skip ?_ | refine K_exit ?_ | refine k_block ?_ | refine K_scope ?_ | (refine K_region (id := 4) ?_; refine mv ?_)))
    (refine KO_fn rfl rfl rfl rfl rfl ((format_any S.wf u l2 (Hu.ext w1 S.ext)).mono ?_); rintro r h ⟨q1, q2, -, x⟩) <;> (replace S := S.join0 x; clear x; obtain rfl := q2 fun q => hq (hsv.1 q); refine mv ?_; (refine tS ?_ ?_ <;> intro hc) <;> (refine mv ?_; (first | refine off ?_ | refine mv ?_); (first | refine off ?_ | refine mv ?_); (first | (refine off ?_; refine vl ?_; refine mv ?_; refine KO_nil ?_) | skip)))
    · (refine KO_fn rfl rfl rfl rfl rfl ((fin _ S).mono ?_); rintro _ h ⟨rfl, x⟩) <;> (replace S := S.join0 x; clear x; refine vl ?_; refine mv ?_; refine KO_nil ?_)
      all_goals (repeat' (first | refine K_seq ?_ | refine k_cond rfl ?_ | refine K_skip ?_ | refine K_exit ?_ | refine k_block ?_ | refine K_scope ?_))
      refine K_ret ⟨_, rfl, ?_⟩
      exact ⟨rfl, T.join0 S⟩
    · exact absurd rfl hc
theorem hallFormats_true {h0 : AH} (w : WfH h0) (v : Value) (l : List Tab) (A : HallA h0 v l) : Fn Tryz.prog Xh 4 [v] h0 (fun x _ => x = .bool true) := by
  have S := Hs.start w
  refine Fn_K rfl Tryz.func4 rfl rfl ?_
  all_goals (repeat' (first | refine K_seq ?_ | refine k_cond rfl ?_ | refine K_skip ?_ | refine K_exit ?_ | refine k_block ?_ | refine K_scope ?_ | (refine K_region (id := 0) ?_; refine mv ?_; refine KO_nil ?_) | (refine K_region (id := 1) ?_; refine mv ?_)))
  (refine KO_fn rfl rfl rfl rfl rfl ((fewA_ok S.wf v l A).mono ?_); rintro _ h ⟨⟨rfl, hq⟩ | ⟨rfl, hq⟩, x⟩) <;> (replace S := S.join0 x; clear x; refine vl ?_; refine mv ?_; (first | refine off ?_ | refine mv ?_); (first | (refine off ?_; refine vl ?_; refine mv ?_; (first | (refine off ?_; refine vl ?_; refine mv ?_; refine KO_nil ?_) | skip)) | skip))
  · (refine KO_fn rfl rfl rfl rfl rfl ((formats_ok S.wf v l ((A.few hq).ext w S.ext)).mono ?_); rintro _ h ⟨rfl, x⟩) <;> (replace S := S.join0 x; clear x; refine vl ?_; refine mv ?_; (first | (refine off ?_; refine vl ?_; refine mv ?_; refine KO_nil ?_) | skip))
    (refine KO_fn rfl rfl rfl rfl rfl ((awake_ok).mono ?_); rintro _ h ⟨rfl, rfl⟩) <;> (refine vl ?_; refine mv ?_; refine KO_nil ?_)
    all_goals (repeat' (first | refine K_seq ?_ | refine k_cond rfl ?_ | refine K_skip ?_ | refine K_exit ?_ | refine k_block ?_ | refine K_scope ?_))
    refine K_ret ⟨_, rfl, ?_⟩
    rfl
  · (refine KO_fn rfl rfl rfl rfl rfl ((awake_ok).mono ?_); rintro _ h ⟨rfl, rfl⟩) <;> (refine vl ?_; refine mv ?_; refine KO_nil ?_)
    all_goals (repeat' (first | refine K_seq ?_ | refine k_cond rfl ?_ | refine K_skip ?_ | refine K_exit ?_ | refine k_block ?_ | refine K_scope ?_))
    refine K_ret ⟨_, rfl, ?_⟩
    rfl
theorem hallFormats_core (h : AH) (us : List Value) (w : WfH h) (a : ArgsR Tryz.prog h Tryz.f4.params.toList us) : Fn Tryz.prog Xh 4 us h (fun x _ => x = .bool true) := by
  rw [show Tryz.f4.params.toList = [27] by kernel_rfl] at a
  obtain ⟨n0, r0, us, rfl, a0, a⟩ := a.cons_inv
  obtain rfl := a.nil_inv
  obtain ⟨v, l, rfl, A⟩ := AR.hall1 a0
  exact hallFormats_true w v l A
end Go.Proofs.Xx
