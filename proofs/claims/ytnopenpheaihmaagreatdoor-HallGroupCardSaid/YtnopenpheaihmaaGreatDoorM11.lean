/-
  Distances found level by level.
-/
import Derived.Test.YtnopenpheaihmaaGreatDoorM8
import Derived.Test.YtnopenpheaihmaaGreatDoorM10
import Derived.Test.YtnopenpheaihmaaGreatDoorM9
import Derived.Test.YtnopenpheaihmaaGreatDoorM6

namespace Go.Proofs.Xx
set_option linter.unusedVariables false

theorem pigeon : ∀ (n m : Nat) (f : Nat → Nat), (∀ k, k < m → f k < n) → (∀ i j, i < m → j < m → f i = f j → i = j) → m ≤ n
  | 0, m, f, h1, _ => by
    rcases Nat.eq_zero_or_pos m with h | h
    · omega
    · exact absurd (h1 0 h) (Nat.not_lt_zero _)
  | n + 1, m, f, h1, h2 => by
    by_cases hk : ∃ k, k < m ∧ f k = n
    · obtain ⟨k0, hk0, he⟩ := hk
      have := pigeon n (m - 1) (fun k => if k = k0 then f (m - 1) else f k) (fun k hk => by
        have key : ∀ j, j < m → j ≠ k0 → f j < n := fun j hj hne => by
          have := h1 j hj
          have : f j ≠ n := fun q => hne (h2 j k0 hj hk0 (by omega))
          omega
        split
        · exact key _ (by omega) (by omega)
        · exact key _ (by omega) (by assumption)) (fun i j hi hj q => by
        split at q <;> split at q
        · omega
        · have := h2 _ _ (by omega) (by omega) q; omega
        · have := h2 _ _ (by omega) (by omega) q; omega
        · exact h2 _ _ (by omega) (by omega) q)
      omega
    · have := pigeon n m f (fun k hk' => by
        have := h1 k hk'
        have : f k ≠ n := fun q => hk ⟨k, hk', q⟩
        omega) h2
      omega

section
variable {N : Int → Int → Prop} {n s : Nat}
theorem IsDist.pred {d y : Nat} (h : IsDist N n s (d + 1) y) : ∃ x : Nat, x < n ∧ IsDist N n s d x ∧ N x y := by
  obtain ⟨⟨x, hx, hw, hn⟩, h2⟩ := h
  refine ⟨x, hx, ⟨hw, fun e he q => h2 (e + 1) (by omega) ⟨x, hx, q, hn⟩⟩, hn⟩
theorem IsDist.lt {d y : Nat} (hs : s < n) (h : IsDist N n s d y) (hy : y < n) : d < n := by
  have all : ∀ (d y : Nat), y < n → IsDist N n s d y → ∀ k, k ≤ d → ∃ x, x < n ∧ IsDist N n s k x := by
    intro d
    induction d with
    | zero => intro y hy h k hk; exact ⟨y, hy, by rw [show k = 0 by omega]; exact h⟩
    | succ d ih =>
      intro y hy h k hk
      rcases Nat.eq_or_lt_of_le hk with q | q
      · exact ⟨y, hy, by rw [q]; exact h⟩
      · obtain ⟨x, hx, h3, -⟩ := h.pred
        exact ih x hx h3 k (by omega)
  have ch := all d y hy h
  have := Classical.axiomOfChoice (r := fun (k : Nat) (x : Nat) => k ≤ d → x < n ∧ IsDist N n s k x) (fun k => by
    by_cases hk : k ≤ d
    · obtain ⟨x, hx⟩ := ch k hk; exact ⟨x, fun _ => hx⟩
    · exact ⟨0, fun q => absurd q hk⟩)
  obtain ⟨f, hf⟩ := this
  have := pigeon n (d + 1) f (fun k hk => (hf k (by omega)).1) (fun i j hi hj q => by
    have h1 := (hf i (by omega)).2
    have h2 := (hf j (by omega)).2
    rw [q] at h1
    exact h1.unique h2)
  omega

/-- In the level d, the seats before a, and of a those before b, are looked at. -/
structure Lev (N : Int → Int → Prop) (n s d a b : Nat) (l : List Int) : Prop where
  len : l.length = n
  at_ : ∀ y, y < n → (∃ e : Nat, e ≤ d ∧ IsDist N n s e y ∧ l.getD y default = (e : Int)) ∨
    ((¬ ∃ e, e ≤ d ∧ IsDist N n s e y) ∧ (((∃ x, x < n ∧ (x < a ∨ (x = a ∧ y < b)) ∧ IsDist N n s d x ∧ N x y) ∧ l.getD y default = (d : Int) + 1) ∨ ((¬ ∃ x, x < n ∧ (x < a ∨ (x = a ∧ y < b)) ∧ IsDist N n s d x ∧ N x y) ∧ l.getD y default = -1)))
theorem getD_set_int (l : List Int) (i j : Nat) (v : Int) (h : i < l.length) : (l.set i v).getD j default = if j = i then v else l.getD j default := by
  simp only [List.getD_eq_getElem?_getD, List.getElem?_set]
  by_cases hj : j = i
  · subst hj; simp [h]
  · rw [if_neg hj, if_neg (Ne.symm hj)]
theorem Lev.start {l : List Int} (hl : l.length = n) (hs : s < n) (h0 : l.getD s default = 0) (h1 : ∀ y, y < n → y ≠ s → l.getD y default = -1) : Lev N n s 0 0 0 l := by
  refine ⟨hl, fun y hy => ?_⟩
  by_cases q : y = s
  · subst q
    exact .inl ⟨0, Nat.le_refl _, ⟨rfl, fun e he => absurd he (Nat.not_lt_zero _)⟩, h0⟩
  · refine .inr ⟨?_, .inr ⟨?_, h1 y hy q⟩⟩
    · rintro ⟨e, he, h2, -⟩
      obtain rfl : e = 0 := by omega
      exact q h2
    · rintro ⟨x, -, h3, -⟩; omega
theorem Lev.row {d a : Nat} {l : List Int} (L : Lev N n s d a n l) : Lev N n s d (a + 1) 0 l := by
  have he : ∀ y, y < n → ∀ x, (x < a ∨ (x = a ∧ y < n)) ↔ (x < a + 1 ∨ (x = a + 1 ∧ y < 0)) := fun y hy x => by omega
  refine ⟨L.len, fun y hy => ?_⟩
  have := L.at_ y hy
  simp only [he y hy] at this
  exact this
theorem Lev.level {d : Nat} {l : List Int} (L : Lev N n s d n 0 l) : Lev N n s (d + 1) 0 0 l := by
  refine ⟨L.len, fun y hy => ?_⟩
  rcases L.at_ y hy with ⟨e, h1, h2, h3⟩ | ⟨h1, ⟨⟨x, hx, -, h3, h4⟩, h5⟩ | ⟨h2, h3⟩⟩
  · exact .inl ⟨e, by omega, h2, h3⟩
  · refine .inl ⟨d + 1, Nat.le_refl _, ⟨⟨x, hx, h3.1, h4⟩, fun e he q => ?_⟩, by rw [h5]; simp⟩
    obtain ⟨e', q1, q2⟩ := q.least
    exact h1 ⟨e', by omega, q2⟩
  · refine .inr ⟨?_, .inr ⟨?_, h3⟩⟩
    · rintro ⟨e, he, q⟩
      rcases Nat.lt_or_ge d e with q1 | q1
      · obtain rfl : e = d + 1 := by omega
        obtain ⟨x, hx, q2, q3⟩ := q.pred
        exact h2 ⟨x, hx, .inl hx, q2, q3⟩
      · exact h1 ⟨e, q1, q⟩
    · rintro ⟨x, -, h3, -⟩; omega
theorem Lev.is {d a b x : Nat} {l : List Int} (L : Lev N n s d a b l) (hx : x < n) : l.getD x default = (d : Int) ↔ IsDist N n s d x := by
  rcases L.at_ x hx with ⟨e, h1, h2, h3⟩ | ⟨h1, ⟨-, h5⟩ | ⟨-, h3⟩⟩
  · exact ⟨fun q => by rw [h3] at q; have : e = d := by omega
                       rw [← this]; exact h2, fun q => by rw [h3, h2.unique q]⟩
  · exact ⟨fun q => by omega, fun q => absurd ⟨d, Nat.le_refl _, q⟩ h1⟩
  · exact ⟨fun q => by omega, fun q => absurd ⟨d, Nat.le_refl _, q⟩ h1⟩
/-- Nothing is written: the seat is told already, or there is no way over a. -/
theorem Lev.keep {d a b : Nat} {l : List Int} (L : Lev N n s d a b l) (ha : a < n) (hb : b < n) (h : ¬ (l.getD a default = (d : Int) ∧ l.getD b default < 0 ∧ N a b)) : Lev N n s d a (b + 1) l := by
  refine ⟨L.len, fun y hy => ?_⟩
  rcases L.at_ y hy with q | ⟨h1, ⟨⟨x, hx, h2, h3, h4⟩, h5⟩ | ⟨h2, h3⟩⟩
  · exact .inl q
  · exact .inr ⟨h1, .inl ⟨⟨x, hx, by omega, h3, h4⟩, h5⟩⟩
  · refine .inr ⟨h1, .inr ⟨?_, h3⟩⟩
    rintro ⟨x, hx, q1, q2, q3⟩
    by_cases q : x = a ∧ y = b
    · obtain ⟨rfl, rfl⟩ := q
      exact h ⟨(L.is hx).2 q2, by omega, q3⟩
    · exact h2 ⟨x, hx, by omega, q2, q3⟩
theorem Lev.put {d a b : Nat} {l : List Int} (L : Lev N n s d a b l) (ha : a < n) (hb : b < n) (h1 : l.getD a default = (d : Int)) (h2 : l.getD b default < 0) (h3 : N a b) : Lev N n s d a (b + 1) (l.set b ((d : Int) + 1)) := by
  have hda := (L.is ha).1 h1
  refine ⟨by rw [List.length_set]; exact L.len, fun y hy => ?_⟩
  rw [getD_set_int l b y _ (by rw [L.len]; exact hb)]
  rcases L.at_ y hy with ⟨e, g1, g2, g3⟩ | ⟨g1, g2⟩
  · by_cases q : y = b
    · subst q; omega
    · rw [if_neg q]; exact .inl ⟨e, g1, g2, g3⟩
  · by_cases q : y = b
    · subst q
      rw [if_pos rfl]
      exact .inr ⟨g1, .inl ⟨⟨a, ha, by omega, hda, h3⟩, rfl⟩⟩
    · rw [if_neg q]
      rcases g2 with ⟨⟨x, hx, k2, k3, k4⟩, k5⟩ | ⟨k2, k3⟩
      · exact .inr ⟨g1, .inl ⟨⟨x, hx, by omega, k3, k4⟩, k5⟩⟩
      · exact .inr ⟨g1, .inr ⟨fun ⟨x, hx, r1, r2, r3⟩ => k2 ⟨x, hx, by omega, r2, r3⟩, k3⟩⟩
theorem Lev.done {l : List Int} (L : Lev N n s n 0 0 l) (hs : s < n) : DistL N n s l := by
  refine ⟨L.len, fun y hy => ?_⟩
  rcases L.at_ y hy with ⟨e, g1, g2, g3⟩ | ⟨g1, ⟨⟨x, -, k2, -⟩, -⟩ | ⟨k2, k3⟩⟩
  · exact .inr ⟨e, g3, g2⟩
  · omega
  · refine .inl ⟨k3, fun d q => ?_⟩
    obtain ⟨e, q1, q2⟩ := q.least
    exact g1 ⟨e, Nat.le_of_lt (q2.lt hs hy), q2⟩
end
end Go.Proofs.Xx

/-
  The reference's seats across and near; its distances.
-/
namespace Go.Proofs.Xx
open Go Go.Proofs
set_option linter.unusedSimpArgs false
set_option linter.unusedVariables false
set_option maxRecDepth 100000
set_option maxHeartbeats 4000000

def wrp (a p i : Int) : Int := if p + i < a then p + i else p + i - a
end Go.Proofs.Xx

/-
  The reference's distances, honour seats and levels.
-/
namespace Go.Proofs.Xx
open Go Go.Proofs
set_option linter.unusedSimpArgs false
set_option linter.unusedVariables false
set_option maxRecDepth 100000
set_option maxHeartbeats 4000000

def openP (t : Tab) (k : Int) : Prop := ∃ i, i < t.opn.length ∧ t.opn.getD i default = k
def SeatAt (t : Tab) (X Y r : Int) : Prop := (r = -1 ∧ ∀ k : Nat, (k : Int) < tsize t → ¬ (spX t.A t.B k = X ∧ spY t.A t.B k = Y)) ∨ ∃ k : Nat, r = k ∧ (k : Int) < tsize t ∧ (spX t.A t.B k = X ∧ spY t.A t.B k = Y) ∧ ∀ j : Nat, j < k → ¬ (spX t.A t.B j = X ∧ spY t.A t.B j = Y)
end Go.Proofs.Xx

/-
  HallChecks: its contract.
-/
namespace Go.Proofs.Xx
open Go Go.Proofs
set_option linter.unusedSimpArgs false
set_option linter.unusedVariables false
set_option maxRecDepth 100000
set_option maxHeartbeats 1000000

section
variable {l2 l : List Tab}
theorem SameAll.all (s : SameAll l2 l) (i : Nat) : SameTab (tb l2 i) (tb l i) := by
  rcases Nat.lt_or_ge i l2.length with h | h
  · exact s.2 i h
  · have := s.1
    simp only [tb, List.getD_eq_getElem?_getD, List.getElem?_eq_none h, List.getElem?_eq_none (show l.length ≤ i by omega)]
    rfl
theorem SameAll.chk (s : SameAll l2 l) (i : Nat) : chk (tb l2 i) = chk (tb l i) := by have := s.all i; unfold SameTab at this; rw [this]; rfl
theorem SameAll.name (s : SameAll l2 l) (i : Nat) : (tb l2 i).name = (tb l i).name := by have := s.all i; unfold SameTab at this; rw [this]
theorem SameAll.size (s : SameAll l2 l) (i : Nat) : tsize (tb l2 i) = tsize (tb l i) := by have := s.all i; unfold SameTab at this; rw [this]; rfl
theorem SameAll.valid (s : SameAll l2 l) : ValidL l2 ↔ ValidL l := by
  unfold ValidL goodAt dupAt
  simp only [s.chk, s.name, s.1]
theorem SameAll.sum (s : SameAll l2 l) : ∀ n, sumT l2 n = sumT l n
  | 0 => rfl
  | n + 1 => by simp only [sumT, s.sum n, s.size]
theorem SameAll.first (s : SameAll l2 l) (t : Int) : firstV l2 t = firstV l t := by
  unfold firstV
  by_cases q : 0 ≤ t ∧ t < l.length ∧ ValidL l
  · rw [if_pos q, if_pos ⟨q.1, by rw [s.1]; exact q.2.1, s.valid.2 q.2.2⟩, s.sum]
  · rw [if_neg q, if_neg fun k => q ⟨k.1, by rw [← s.1]; exact k.2.1, s.valid.1 k.2.2⟩]
theorem SameAll.count (s : SameAll l2 l) : countV l2 = countV l := by
  unfold countV
  by_cases q : ValidL l
  · rw [if_pos q, if_pos (s.valid.2 q), s.sum, s.1]
  · rw [if_neg q, if_neg fun k => q (s.valid.1 k)]
theorem SameAll.seats (s : SameAll l2 l) (i : Nat) : seatsV (tb l2 i) = seatsV (tb l i) := by
  unfold seatsV
  simp only [s.chk, s.size]
def FindR (l : List Tab) (nm : List UInt8) (k2 : Int) (f2 : Bool) : Prop :=
  (f2 = true ∧ ∃ k : Nat, k2 = k ∧ ValidL l ∧ k < l.length ∧ (tb l k).name = nm ∧ ∀ j, j < k → ¬ (tb l j).name = nm) ∨ (f2 = false ∧ k2 = 0 ∧ (¬ ValidL l ∨ ∀ j, j < l.length → ¬ (tb l j).name = nm))
theorem ValidL.one (k : ValidL l) {i j : Nat} (hi : i < l.length) (hj : j < l.length) (h : (tb l i).name = (tb l j).name) : i = j := by
  rcases Nat.lt_trichotomy i j with q | q | q
  · exact absurd ⟨i, q, h⟩ (k.2 j hj).2
  · exact q
  · exact absurd ⟨j, q, h.symm⟩ (k.2 i hi).2
end
theorem awake_ok {h0 : AH} : Fn Tryz.prog Xh 21 [] h0 (fun v h' => v = .bool true ∧ h' = h0) := Fn_known rfl ⟨rfl, rfl⟩

end Go.Proofs.Xx

/-
  Seats by their numbers: the program's questions.
-/
namespace Go.Proofs.Xx
open Go Go.Proofs
set_option linter.unusedSimpArgs false
set_option linter.unusedVariables false
set_option maxRecDepth 100000
set_option maxHeartbeats 4000000

/-- The seat s of the hall is the seat k of the table i. -/
def WhereI (l : List Tab) (s : Int) (i k : Nat) : Prop := ValidL l ∧ i < l.length ∧ (k : Int) < tsize (tb l i) ∧ s = sumT l i + k
theorem sumT_mono (l : List Tab) {i j : Nat} (h : i ≤ j) : sumT l i ≤ sumT l j := by
  induction h with
  | refl => exact Int.le_refl _
  | @step m _ ih => have := tsize_le (tb l m); simp only [sumT]; omega
theorem WhereI.unique {l : List Tab} {s : Int} {i k j m : Nat} (h : WhereI l s i k) (g : WhereI l s j m) : i = j ∧ k = m := by
  obtain ⟨-, h2, h3, h4⟩ := h
  obtain ⟨-, g2, g3, g4⟩ := g
  rcases Nat.lt_trichotomy i j with q | q | q
  · have := sumT_mono l (show i + 1 ≤ j by omega); simp only [sumT] at this; omega
  · subst q; exact ⟨rfl, by omega⟩
  · have := sumT_mono l (show j + 1 ≤ i by omega); simp only [sumT] at this; omega
theorem WhereI.sz {l : List Tab} {s : Int} {i k : Nat} (h : WhereI l s i k) : TabS (tb l i) := TabS.of _ (by have := h.2.2.1; omega)
def WhereR (l : List Tab) (s a b : Int) (f : Bool) : Prop := (f = true ∧ ∃ i k : Nat, a = i ∧ b = k ∧ WhereI l s i k) ∨ (f = false ∧ a = 0 ∧ b = 0 ∧ ∀ i k, ¬ WhereI l s i k)
theorem WhereR.unique {l : List Tab} {s a b a' b' : Int} {f f' : Bool} (h : WhereR l s a b f) (g : WhereR l s a' b' f') : a = a' ∧ b = b' ∧ f = f' := by
  rcases h with ⟨rfl, i, k, rfl, rfl, h⟩ | ⟨rfl, rfl, rfl, h⟩ <;> rcases g with ⟨rfl, j, m, rfl, rfl, g⟩ | ⟨rfl, rfl, rfl, g⟩
  · obtain ⟨rfl, rfl⟩ := h.unique g; exact ⟨rfl, rfl, rfl⟩
  · exact absurd h (g _ _)
  · exact absurd g (h _ _)
  · exact ⟨rfl, rfl, rfl⟩
theorem where_ok {h0 : AH} (w : WfH h0) (v : Value) (l : List Tab) (H : HallR h0 v l) (s : Int) (hm : s ≤ 9223372036854775807) : Fn Tryz.prog Xh 30 [v, .int .i64 s] h0 (fun r h' => ∃ a b f, r = .tuple #[.int .i64 a, .int .i64 b, .bool f] ∧ WhereR l s a b f ∧ Hs h0 h' []) := by
  have S := Hs.start w
  have hl := H.len
  have hr := H.rd
  refine Fn_K rfl Tryz.func30 rfl rfl ?_
  all_goals (repeat' (first | refine K_seq ?_ | refine k_cond rfl ?_ | (refine K_region (id := 0) ?_; refine mv ?_; refine mv ?_; refine mv ?_; refine KO_nil ?_) | (refine K_region (id := 1) ?_; refine mv ?_; (first | (refine cS ?_ ?_ <;> intro hc)) <;> (refine mv ?_; (first | refine off ?_ | refine mv ?_); (first | (refine off ?_; refine off ?_; refine vl ?_; refine KO_nil ?_) | skip))) | (refine K_region (id := 2) ?_; refine mv ?_; refine mv ?_; refine mv ?_; refine KO_nil ?_)))
  · refine K_ret ⟨_, rfl, ?_⟩
    exact ⟨0, 0, false, rfl, .inr ⟨rfl, rfl, rfl, fun i k q => by have := sumT_le l i; have := q.2.2.2; omega⟩, S⟩
  · (refine KO_fn rfl rfl rfl rfl rfl ((valid_ok S.wf v l H).mono ?_); rintro _ h ⟨⟨rfl, hq⟩ | ⟨rfl, hq⟩, x⟩) <;> (replace S := S.join0 x; clear x; refine vl ?_; refine vl ?_; refine KO_nil ?_)
    all_goals (repeat' (first | refine K_seq ?_ | refine k_cond rfl ?_ | refine K_skip ?_ | refine k_block ?_ | (refine K_region (id := 2) ?_; refine mv ?_; refine mv ?_; refine mv ?_; refine KO_nil ?_) | (refine K_region (id := 3) ?_; refine mv ?_; refine lnB S ?_; refine mv ?_; refine KO_nil ?_)))
    · have z0 : sumT l 0 = 0 := rfl
      refine k_loop (σ := Nat) (fun i h' => Hs h0 h' [] ∧ i ≤ l.length ∧ 0 ≤ s - sumT l i) (fun i => l.length - i) (fun i => [(1, .int .i64 (s - sumT l i)), (17, v), (18, .int .i64 l.length), (19, .int .i64 i)]) 0 (by repeat (first | exact Ks.le_nil _ | refine Ks.le_cons rfl ?_ | refine Ks.le_int ?_)) ?_ ?_
      · exact ⟨S, Nat.zero_le _, by simp only [sumT]; omega⟩
      · clear S
        rintro i h ⟨S, h1, h2⟩
        all_goals (repeat' (first | refine K_seq ?_ | refine k_cond rfl ?_ | refine K_skip ?_ | refine K_exit ?_ | refine k_block ?_ | (refine K_region (id := 4) ?_; (first | (refine cS ?_ ?_ <;> intro hc)) <;> (refine KO_nil ?_)) | (refine K_region (id := 5) ?_; refine mv ?_; refine ixB S ?_; refine lEB S ?_; (refine al S ?_; clear S; intro b h S); refine mv ?_; (first | (refine sB S rfl rfl ?_; clear S; intro h S)); refine KO_nil ?_) | (refine K_region (id := 6) ?_; refine lB S rfl rfl ?_) | (refine K_region (id := 11) ?_; refine mv ?_; refine mv ?_; refine mv ?_; refine KO_nil ?_)))
        · (try simp only [Int.toNat_natCast] at *)
          have hi : i < l.length := by omega
          have b2 := tsize_le (tb l i)
          have b1 := sumT_le l i
          have z1 : sumT l (i + 1) = sumT l i + tsize (tb l i) := rfl
          (refine KO_fn rfl rfl rfl rfl rfl ((size_ok S.wf (tb l i)).mono ?_); rintro _ h ⟨rfl, x⟩) <;> (replace S := S.join0 x; clear x; refine mv ?_; refine KO_nil ?_)
          all_goals (repeat' (first | refine K_seq ?_ | refine k_cond rfl ?_ | refine K_skip ?_ | (refine K_region (id := 7) ?_; refine mv ?_; refine mv ?_; (first | (refine cS ?_ ?_ <;> intro hc)) <;> (refine KO_nil ?_)) | (refine K_region (id := 8) ?_; refine mv ?_; refine mv ?_; refine mv ?_; refine mv ?_; refine mv ?_; refine KO_nil ?_) | (refine K_region (id := 9) ?_; refine mv ?_; refine mv ?_; refine sb ?_; refine mv ?_; refine KO_nil ?_) | (refine K_region (id := 10) ?_; refine ad ?_; refine mv ?_; refine KO_nil ?_)))
          · refine K_ret ⟨_, rfl, ?_⟩
            obtain ⟨k, hk⟩ := Int.eq_ofNat_of_zero_le h2
            exact ⟨i, s - sumT l i, true, rfl, .inl ⟨rfl, i, k, rfl, hk, hq, hi, by omega, by omega⟩, S.drop⟩
          · refine ⟨i + 1, ?_, ?_, (by repeat (first | exact Ks.le_nil _ | refine Ks.le_cons rfl ?_ | refine Ks.le_int ?_))⟩
            · show l.length - (i + 1) < l.length - i; omega
            · exact ⟨S.drop, by omega, by simp only [sumT]; omega⟩
        · refine K_ret ⟨_, rfl, ?_⟩
          refine ⟨0, 0, false, rfl, .inr ⟨rfl, rfl, rfl, fun j k q => ?_⟩, S⟩
          obtain ⟨-, q2, q3, q4⟩ := q
          have hil : i = l.length := by omega
          subst hil
          have := sumT_mono l (show j + 1 ≤ l.length by omega)
          simp only [sumT] at this
          omega
    · refine K_ret ⟨_, rfl, ?_⟩
      exact ⟨0, 0, false, rfl, .inr ⟨rfl, rfl, rfl, fun i k q => hq q.1⟩, S⟩

def PairR (l : List Tab) (a b : Int) (t : Tab) (x y : Int) (f : Bool) : Prop := (f = true ∧ ∃ i k m : Nat, t = tb l i ∧ x = k ∧ y = m ∧ WhereI l a i k ∧ WhereI l b i m) ∨ (f = false ∧ t = default ∧ x = 0 ∧ y = 0 ∧ ∀ i k m, WhereI l a i k → ¬ WhereI l b i m)
theorem pair_ok {h0 : AH} (w : WfH h0) (v : Value) (l : List Tab) (H : HallR h0 v l) (a b : Int) (ha : a ≤ 9223372036854775807) (hb : b ≤ 9223372036854775807) :
    Fn Tryz.prog Xh 92 [v, .int .i64 a, .int .i64 b] h0 (fun r h' => ∃ t x y f, r = .tuple #[tabV t, .int .i64 x, .int .i64 y, .bool f] ∧ PairR l a b t x y f ∧ Hs h0 h' []) := by
  have S := Hs.start w
  have hl := H.len
  have hr := H.rd
  refine Fn_K rfl Tryz.func92 rfl rfl ?_
  all_goals (repeat' (first | refine K_seq ?_ | (refine K_region (id := 0) ?_; (refine al S ?_; clear S; intro b h S); refine mv ?_; refine mv ?_; refine mv ?_; refine KO_nil ?_) | (refine K_region (id := 1) ?_; refine mv ?_; refine mv ?_)))
  obtain ⟨bt, hnm⟩ : ∃ x, x = b := ⟨_, rfl⟩; subst hnm
  (refine KO_fn rfl rfl rfl rfl rfl ((where_ok S.wf v l (H.ext w S.ext) a ha).mono ?_); rintro _ h ⟨_, _, _, rfl, ⟨rfl, i, k, rfl, rfl, w1⟩ | ⟨rfl, rfl, rfl, w1⟩, x⟩) <;> (replace S := S.join0 x; clear x; refine mv ?_; refine vl ?_; refine vl ?_; refine vl ?_; refine mv ?_; refine mv ?_; refine mv ?_; refine KO_nil ?_)
  all_goals (all_goals (repeat' (first | refine K_seq ?_ | (refine K_region (id := 2) ?_; refine mv ?_; refine mv ?_))))
  all_goals ((refine KO_fn rfl rfl rfl rfl rfl ((where_ok S.wf v l (H.ext w S.ext) b hb).mono ?_); rintro _ h ⟨_, _, _, rfl, ⟨rfl, j, m, rfl, rfl, w2⟩ | ⟨rfl, rfl, rfl, w2⟩, x⟩) <;> (replace S := S.join0 x; clear x; refine mv ?_; refine vl ?_; refine vl ?_; refine vl ?_; refine mv ?_; refine mv ?_; refine mv ?_; refine KO_nil ?_))
  · have hi := w1.2.1
    all_goals (repeat' (first | refine K_seq ?_ | refine k_cond rfl ?_ | refine K_skip ?_ | (refine K_region (id := 3) ?_; refine mv ?_; refine vl ?_; refine mv ?_; refine mv ?_; refine vl ?_; refine vl ?_; refine mv ?_; refine mv ?_; refine mv ?_; (first | (first | (refine cS ?_ ?_ <;> intro hc))) <;> (refine vl ?_; refine KO_nil ?_)) | (refine K_region (id := 4) ?_; refine vl ?_; (first | (refine sB S rfl rfl ?_; clear S; intro h S)); refine mv ?_; refine mv ?_; refine mv ?_; refine KO_nil ?_) | (refine K_region (id := 5) ?_; refine mv ?_; refine mv ?_; refine ixB S ?_; refine lEB S ?_; refine mv ?_; refine mv ?_; (first | (refine sB S rfl rfl ?_; clear S; intro h S)); refine mv ?_; refine mv ?_; refine mv ?_; refine KO_nil ?_)))
    · refine K_ret ⟨_, ret_cell S rfl (by first | exact .here) (by exact rfl) (by exact rfl), ?_⟩
      refine ⟨default, 0, 0, false, rfl, .inr ⟨rfl, rfl, rfl, rfl, fun i' k' m' q1 q2 => ?_⟩, S.drop⟩
      obtain ⟨rfl, rfl⟩ := w1.unique q1
      obtain ⟨rfl, rfl⟩ := w2.unique q2
      exact hc rfl
    · have hij : i = j := by omega
      subst hij
      refine K_ret ⟨_, ret_cell S rfl (by first | exact .here) (by exact rfl) (by exact rfl), ?_⟩
      exact ⟨tb l i, k, m, true, rfl, .inl ⟨rfl, i, k, m, rfl, rfl, rfl, w1, w2⟩, S.drop⟩
  · all_goals (repeat' (first | refine K_seq ?_ | refine k_cond rfl ?_ | (refine K_region (id := 3) ?_; refine mv ?_; refine vl ?_; refine mv ?_; refine mv ?_; refine vl ?_; refine vl ?_; refine mv ?_; refine off ?_; refine off ?_; (refine off ?_) <;> (refine vl ?_; refine KO_nil ?_)) | (refine K_region (id := 4) ?_; refine vl ?_; (first | (refine sB S rfl rfl ?_; clear S; intro h S)); refine mv ?_; refine mv ?_; refine mv ?_; refine KO_nil ?_)))
    refine K_ret ⟨_, ret_cell S rfl (by first | exact .here) (by exact rfl) (by exact rfl), ?_⟩
    exact ⟨default, 0, 0, false, rfl, .inr ⟨rfl, rfl, rfl, rfl, fun i' k' m' q1 q2 => w2 _ _ q2⟩, S.drop⟩
  · all_goals (repeat' (first | refine K_seq ?_ | refine k_cond rfl ?_ | (refine K_region (id := 3) ?_; refine mv ?_; refine vl ?_; refine mv ?_; refine off ?_; refine off ?_; refine vl ?_; refine mv ?_; refine off ?_; refine off ?_; (refine off ?_) <;> (refine vl ?_; refine KO_nil ?_)) | (refine K_region (id := 4) ?_; refine vl ?_; (first | (refine sB S rfl rfl ?_; clear S; intro h S)); refine mv ?_; refine mv ?_; refine mv ?_; refine KO_nil ?_)))
    refine K_ret ⟨_, ret_cell S rfl (by first | exact .here) (by exact rfl) (by exact rfl), ?_⟩
    exact ⟨default, 0, 0, false, rfl, .inr ⟨rfl, rfl, rfl, rfl, fun i' k' m' q1 q2 => w1 _ _ q1⟩, S.drop⟩
  · all_goals (repeat' (first | refine K_seq ?_ | refine k_cond rfl ?_ | (refine K_region (id := 3) ?_; refine mv ?_; refine vl ?_; refine mv ?_; refine off ?_; refine off ?_; refine vl ?_; refine mv ?_; refine off ?_; refine off ?_; (refine off ?_) <;> (refine vl ?_; refine KO_nil ?_)) | (refine K_region (id := 4) ?_; refine vl ?_; (first | (refine sB S rfl rfl ?_; clear S; intro h S)); refine mv ?_; refine mv ?_; refine mv ?_; refine KO_nil ?_)))
    refine K_ret ⟨_, ret_cell S rfl (by first | exact .here) (by exact rfl) (by exact rfl), ?_⟩
    exact ⟨default, 0, 0, false, rfl, .inr ⟨rfl, rfl, rfl, rfl, fun i' k' m' q1 q2 => w1 _ _ q1⟩, S.drop⟩
/-- Of two seats of one table P holds. -/
def BothP (P : Tab → Int → Int → Prop) (l : List Tab) (a b : Int) : Prop := ∃ i k m : Nat, WhereI l a i k ∧ WhereI l b i m ∧ P (tb l i) k m
theorem hallBeside_ok {h0 : AH} (w : WfH h0) (v : Value) (l : List Tab) (H : HallR h0 v l) (a b : Int) (ha : a ≤ 9223372036854775807) (hb : b ≤ 9223372036854775807) :
    Fn Tryz.prog Xh 44 [v, .int .i64 a, .int .i64 b] h0 (fun r h' => BoolIs r (BothP besideP l a b) ∧ Hs h0 h' []) := by
  have S := Hs.start w
  refine Fn_K rfl Tryz.func44 rfl rfl ?_
  all_goals (repeat' (first | refine K_seq ?_ | (refine K_region (id := 0) ?_; refine mv ?_; refine KO_nil ?_) | (refine K_region (id := 1) ?_; refine mv ?_; refine mv ?_; refine mv ?_; skip)))
  (refine KO_fn rfl rfl rfl rfl rfl ((pair_ok S.wf v l H a b ha hb).mono ?_); rintro _ h ⟨_, _, _, _, rfl, ⟨rfl, i, k, m, rfl, rfl, rfl, w1, w2⟩ | ⟨rfl, rfl, rfl, rfl, w1⟩, x⟩) <;> (replace S := S.join0 x; clear x; refine mv ?_; refine vl ?_; refine vl ?_; refine vl ?_; refine vl ?_; (refine al S ?_; clear S; intro b h S); (first | (refine sB S rfl rfl ?_; clear S; intro h S)); refine mv ?_; refine mv ?_; refine mv ?_; refine KO_nil ?_)
  · all_goals (repeat' (first | refine K_seq ?_ | (refine K_region (id := 2) ?_; refine mv ?_; refine mv ?_; (first | (refine lB S rfl rfl ?_)); refine mv ?_; refine mv ?_; (skip))))
    have t1 := tsize_le (tb l i)
    have k1 := w1.2.2.1
    have k2 := w2.2.2.1
    (refine KO_fn rfl rfl rfl rfl rfl ((beside_ok S.wf (tb l i) k m w1.sz.b (by omega) (by omega)).mono ?_); rintro _ h ⟨⟨rfl, hq⟩ | ⟨rfl, hq⟩, x⟩) <;> (replace S := S.join0 x; clear x; refine vl ?_; refine mv ?_; refine KO_nil ?_)
    all_goals (repeat' (fail))
    all_goals (refine K_ret ⟨_, rfl, ?_⟩)
    · exact ⟨.inl ⟨rfl, i, k, m, w1, w2, hq⟩, S.drop⟩
    · refine ⟨.inr ⟨rfl, fun ⟨i', k', m', q1, q2, q3⟩ => ?_⟩, S.drop⟩
      obtain ⟨rfl, rfl⟩ := w1.unique q1
      obtain ⟨-, rfl⟩ := w2.unique q2
      exact hq q3
  · all_goals (repeat' (first | refine K_seq ?_ | (refine K_region (id := 2) ?_; refine mv ?_; refine mv ?_; refine off ?_; refine off ?_; refine off ?_; (first | (refine off ?_; refine vl ?_; refine mv ?_; refine KO_nil ?_)))))
    refine K_ret ⟨_, rfl, ?_⟩
    exact ⟨.inr ⟨rfl, fun ⟨i', k', m', q1, q2, q3⟩ => w1 _ _ _ q1 q2⟩, S.drop⟩
theorem hallAcross_ok {h0 : AH} (w : WfH h0) (v : Value) (l : List Tab) (H : HallR h0 v l) (a b : Int) (ha : a ≤ 9223372036854775807) (hb : b ≤ 9223372036854775807) :
    Fn Tryz.prog Xh 45 [v, .int .i64 a, .int .i64 b] h0 (fun r h' => BoolIs r (BothP acrossP l a b) ∧ Hs h0 h' []) := by
  have S := Hs.start w
  refine Fn_K rfl Tryz.func45 rfl rfl ?_
  all_goals (repeat' (first | refine K_seq ?_ | (refine K_region (id := 0) ?_; refine mv ?_; refine KO_nil ?_) | (refine K_region (id := 1) ?_; refine mv ?_; refine mv ?_; refine mv ?_; skip)))
  (refine KO_fn rfl rfl rfl rfl rfl ((pair_ok S.wf v l H a b ha hb).mono ?_); rintro _ h ⟨_, _, _, _, rfl, ⟨rfl, i, k, m, rfl, rfl, rfl, w1, w2⟩ | ⟨rfl, rfl, rfl, rfl, w1⟩, x⟩) <;> (replace S := S.join0 x; clear x; refine mv ?_; refine vl ?_; refine vl ?_; refine vl ?_; refine vl ?_; (refine al S ?_; clear S; intro b h S); (first | (refine sB S rfl rfl ?_; clear S; intro h S)); refine mv ?_; refine mv ?_; refine mv ?_; refine KO_nil ?_)
  · all_goals (repeat' (first | refine K_seq ?_ | (refine K_region (id := 2) ?_; refine mv ?_; refine mv ?_; (first | (refine lB S rfl rfl ?_)); refine mv ?_; refine mv ?_; (skip))))
    have t1 := tsize_le (tb l i)
    have k1 := w1.2.2.1
    have k2 := w2.2.2.1
    (refine KO_fn rfl rfl rfl rfl rfl ((across_ok S.wf (tb l i) k m w1.sz.b (by omega) (by omega)).mono ?_); rintro _ h ⟨⟨rfl, hq⟩ | ⟨rfl, hq⟩, x⟩) <;> (replace S := S.join0 x; clear x; refine vl ?_; refine mv ?_; refine KO_nil ?_)
    all_goals (repeat' (fail))
    all_goals (refine K_ret ⟨_, rfl, ?_⟩)
    · exact ⟨.inl ⟨rfl, i, k, m, w1, w2, hq⟩, S.drop⟩
    · refine ⟨.inr ⟨rfl, fun ⟨i', k', m', q1, q2, q3⟩ => ?_⟩, S.drop⟩
      obtain ⟨rfl, rfl⟩ := w1.unique q1
      obtain ⟨-, rfl⟩ := w2.unique q2
      exact hq q3
  · all_goals (repeat' (first | refine K_seq ?_ | (refine K_region (id := 2) ?_; refine mv ?_; refine mv ?_; refine off ?_; refine off ?_; refine off ?_; (first | (refine off ?_; refine vl ?_; refine mv ?_; refine KO_nil ?_)))))
    refine K_ret ⟨_, rfl, ?_⟩
    exact ⟨.inr ⟨rfl, fun ⟨i', k', m', q1, q2, q3⟩ => w1 _ _ _ q1 q2⟩, S.drop⟩
def DistR (l : List Tab) (a b d : Int) (f : Bool) : Prop := (f = true ∧ ∃ (i k m : Nat) (e : Nat), WhereI l a i k ∧ WhereI l b i m ∧ d = e ∧ IsDist (nearP (tb l i)) (tsize (tb l i)).toNat k e m) ∨ (f = false ∧ d = 0 ∧ ∀ i k m e, WhereI l a i k → WhereI l b i m → ¬ IsDist (nearP (tb l i)) (tsize (tb l i)).toNat k e m)
theorem hallDistance_ok {h0 : AH} (w : WfH h0) (v : Value) (l : List Tab) (H : HallR h0 v l) (a b : Int) (ha : a ≤ 9223372036854775807) (hb : b ≤ 9223372036854775807) :
    Fn Tryz.prog Xh 37 [v, .int .i64 a, .int .i64 b] h0 (fun r h' => ∃ d f, r = .tuple #[.int .i64 d, .bool f] ∧ DistR l a b d f ∧ Hs h0 h' []) := by
  have S := Hs.start w
  refine Fn_K rfl Tryz.func37 rfl rfl ?_
  all_goals (repeat' (first | refine K_seq ?_ | (refine K_region (id := 0) ?_; refine mv ?_; refine mv ?_; refine KO_nil ?_) | (refine K_region (id := 1) ?_; refine mv ?_; refine mv ?_; refine mv ?_; skip)))
  (refine KO_fn rfl rfl rfl rfl rfl ((pair_ok S.wf v l H a b ha hb).mono ?_); rintro _ h ⟨_, _, _, _, rfl, ⟨rfl, i, k, m, rfl, rfl, rfl, w1, w2⟩ | ⟨rfl, rfl, rfl, rfl, w1⟩, x⟩) <;> (replace S := S.join0 x; clear x; refine mv ?_; refine vl ?_; refine vl ?_; refine vl ?_; refine vl ?_; (refine al S ?_; clear S; intro b h S); (first | (refine sB S rfl rfl ?_; clear S; intro h S)); refine mv ?_; refine mv ?_; refine mv ?_; refine KO_nil ?_)
  · all_goals (repeat' (first | refine K_seq ?_ | refine k_cond rfl ?_ | refine K_skip ?_ | (refine K_region (id := 2) ?_; refine mv ?_; refine vl ?_; refine KO_nil ?_) | (refine K_region (id := 4) ?_; refine lB S rfl rfl ?_; refine mv ?_)))
    have t1 := tsize_le (tb l i)
    have k1 := w1.2.2.1
    have k2 := w2.2.2.1
    obtain ⟨n, hn⟩ := Int.eq_ofNat_of_zero_le t1.1
    have hnn : (tsize (tb l i)).toNat = n := by omega
    (refine KO_fn rfl rfl rfl rfl rfl ((steps_ok S.wf (tb l i) k n w1.sz.b hn (by omega) (by omega)).mono ?_); rintro vd h ⟨ld, hd, x⟩) <;> (replace S := S.join1 x; clear x; have hdl := hd.1; refine mv ?_; refine ixS2 S rfl rfl ?_; refine lES2 S rfl rfl ?_; refine mv ?_; refine KO_nil ?_)
    all_goals (repeat' (first | refine K_seq ?_ | refine k_cond rfl ?_ | refine K_skip ?_ | (refine K_region (id := 5) ?_; refine mv ?_; (first | (refine cS ?_ ?_ <;> intro hc)) <;> (refine KO_nil ?_)) | (refine K_region (id := 6) ?_; refine mv ?_; refine mv ?_; refine mv ?_; refine KO_nil ?_) | (refine K_region (id := 7) ?_; refine mv ?_; refine mv ?_; refine KO_nil ?_)))
    all_goals (try simp only [Int.toNat_natCast] at *)
    · refine K_ret ⟨_, rfl, ?_⟩
      rcases hd.2 m (by omega) with ⟨g, -⟩ | ⟨e, g1, g2⟩
      · omega
      · exact ⟨_, true, rfl, .inl ⟨rfl, i, k, m, e, w1, w2, g1, by rw [hnn]; exact g2⟩, S.drop⟩
    · refine K_ret ⟨_, rfl, ?_⟩
      refine ⟨0, false, rfl, .inr ⟨rfl, rfl, fun i' k' m' e' q1 q2 q3 => ?_⟩, S.drop⟩
      obtain ⟨rfl, rfl⟩ := w1.unique q1
      obtain ⟨-, rfl⟩ := w2.unique q2
      rw [hnn] at q3
      rcases hd.2 m (by omega) with ⟨-, g⟩ | ⟨e, g1, g2⟩
      · exact g _ q3.1
      · omega
  · all_goals (repeat' (first | refine K_seq ?_ | refine k_cond rfl ?_ | (refine K_region (id := 2) ?_; refine mv ?_; refine vl ?_; refine KO_nil ?_) | (refine K_region (id := 3) ?_; refine mv ?_; refine mv ?_; refine KO_nil ?_)))
    refine K_ret ⟨_, rfl, ?_⟩
    exact ⟨0, false, rfl, .inr ⟨rfl, rfl, fun i' k' m' e' q1 q2 q3 => w1 _ _ _ q1 q2⟩, S.drop⟩

def LevR (l : List Tab) (a v : Int) : Prop := (∃ (i k : Nat) (ld : List Int), WhereI l a i k ∧ DistL (nearP (tb l i)) (tsize (tb l i)).toNat (tHon (tb l i)).toNat ld ∧ v = (lvl (tsize (tb l i)).toNat ld).getD k default) ∨ (v = 0 ∧ ∀ i k, ¬ WhereI l a i k)
theorem index_ok {h0 : AH} (w : WfH h0) (v : Value) (l : List Int) (hr : RdL h0 v 1 eI l) (hl : l.length ≤ 1000000) (k : Int) : Fn Tryz.prog Xh 105 [v, .int .i64 k] h0 (fun r h' => IdxIs r (fun i => l.getD i default = k) l.length ∧ Hs h0 h' []) := by
  have S := Hs.start w
  refine Fn_K rfl Tryz.func105 rfl rfl ?_
  all_goals (repeat' (first | refine K_seq ?_ | refine k_block ?_ | (refine K_region (id := 0) ?_; refine mv ?_; refine KO_nil ?_) | (refine K_region (id := 1) ?_; refine mv ?_; refine lnB S ?_; refine mv ?_; refine KO_nil ?_)))
  refine k_loop (σ := Nat) (fun i h' => Hs h0 h' [] ∧ i ≤ l.length ∧ ∀ j, j < i → ¬ l.getD j default = k) (fun i => l.length - i) (fun i => [(0, v), (1, .int .i64 k), (7, .int .i64 l.length), (8, .int .i64 i)]) 0 (by repeat (first | exact Ks.le_nil _ | refine Ks.le_cons rfl ?_)) ?_ ?_
  · exact ⟨S, Nat.zero_le _, fun j hj => absurd hj (Nat.not_lt_zero _)⟩
  clear S
  rintro i h ⟨S, h1, h2⟩
  all_goals (repeat' (first | refine K_seq ?_ | refine k_cond rfl ?_ | refine K_skip ?_ | refine K_exit ?_ | refine k_block ?_ | (refine K_region (id := 2) ?_; (first | (refine cS ?_ ?_ <;> intro hc)) <;> (refine KO_nil ?_)) | (refine K_region (id := 3) ?_; refine mv ?_; refine mv ?_; refine KO_nil ?_) | (refine K_region (id := 4) ?_; refine mv ?_; refine mv ?_; refine mv ?_; refine ixB S ?_; refine lEB S ?_; (first | (refine cS ?_ ?_ <;> intro hc)) <;> (refine KO_nil ?_)) | (refine K_region (id := 5) ?_; refine mv ?_; refine mv ?_; refine KO_nil ?_) | (refine K_region (id := 6) ?_; refine ad ?_; refine mv ?_; refine KO_nil ?_) | (refine K_region (id := 7) ?_; refine mv ?_; refine KO_nil ?_)))
  all_goals (try simp only [Int.toNat_natCast] at *)
  · refine K_ret ⟨_, rfl, ?_⟩
    exact ⟨.inl ⟨i, by omega, rfl, hc.symm, h2⟩, S⟩
  · refine ⟨i + 1, ?_, ?_, (by repeat (first | exact Ks.le_nil _ | refine Ks.le_cons rfl ?_))⟩
    · show l.length - (i + 1) < l.length - i; omega
    · refine ⟨S, by omega, fun j hj => ?_⟩
      rcases Nat.lt_or_ge j i with q | q
      · exact h2 j q
      · obtain rfl : j = i := by omega
        exact fun q => hc q.symm
  · refine K_ret ⟨_, rfl, ?_⟩
    exact ⟨.inr ⟨rfl, fun j hj => h2 j (by omega)⟩, S⟩
theorem containsI_ok {h0 : AH} (w : WfH h0) (v : Value) (l : List Int) (hr : RdL h0 v 1 eI l) (hl : l.length ≤ 1000000) (k : Int) : Fn Tryz.prog Xh 48 [v, .int .i64 k] h0 (fun r h' => BoolIs r (∃ i, i < l.length ∧ l.getD i default = k) ∧ Hs h0 h' []) := by
  have S := Hs.start w
  refine Fn_K rfl Tryz.func48 rfl rfl ?_
  all_goals (repeat' (first | refine K_seq ?_ | (refine K_region (id := 0) ?_; refine mv ?_; refine KO_nil ?_) | (refine K_region (id := 1) ?_; refine mv ?_; refine mv ?_)))
  (refine KO_fn rfl rfl rfl rfl rfl ((index_ok S.wf v l hr hl k).mono ?_); rintro _ h ⟨⟨i, hi, rfl, hq, hn⟩ | ⟨rfl, hn⟩, x⟩) <;> (replace S := S.join0 x; clear x; (first | refine cT ?_ | refine cF ?_) <;> (refine mv ?_; refine KO_nil ?_))
  all_goals (repeat' (fail))
  all_goals (try omega)
  all_goals (refine K_ret ⟨_, rfl, ?_⟩)
  · exact ⟨.inl ⟨rfl, i, hi, hq⟩, S⟩
  · exact ⟨.inr ⟨rfl, fun ⟨j, hj, hp⟩ => hn j hj hp⟩, S⟩
def OpenR (l : List Tab) (a : Int) : Prop := ∃ i k : Nat, WhereI l a i k ∧ openP (tb l i) k
theorem hallOpen_ok {h0 : AH} (w : WfH h0) (v : Value) (l : List Tab) (H : HallR h0 v l) (a : Int) (ha : a ≤ 9223372036854775807) :
    Fn Tryz.prog Xh 50 [v, .int .i64 a] h0 (fun r h' => BoolIs r (OpenR l a) ∧ Hs h0 h' []) := by
  have S := Hs.start w
  have hr := H.rd
  have hl := H.len
  refine Fn_K rfl Tryz.func50 rfl rfl ?_
  all_goals (repeat' (first | refine K_seq ?_ | (refine K_region (id := 0) ?_; refine mv ?_; refine KO_nil ?_) | (refine K_region (id := 1) ?_; refine mv ?_; refine mv ?_)))
  (refine KO_fn rfl rfl rfl rfl rfl ((where_ok S.wf v l H a ha).mono ?_); rintro _ h ⟨_, _, _, rfl, ⟨rfl, i, k, rfl, rfl, w1⟩ | ⟨rfl, rfl, rfl, w1⟩, x⟩) <;> (replace S := S.join0 x; clear x; refine mv ?_; refine vl ?_; refine vl ?_; refine vl ?_; refine mv ?_; refine mv ?_; refine mv ?_; refine KO_nil ?_)
  · have hi := w1.2.1
    have ht := (H.ext w S.ext).tab i hi
    all_goals (repeat' (first | refine K_seq ?_ | (refine K_region (id := 2) ?_; refine mv ?_; refine mv ?_; refine mv ?_; refine mv ?_; (first | (refine ixB S ?_)); (first | (refine fB S ?_)); (first | (refine lEB S ?_)); refine mv ?_; (skip))))
    (try simp only [Int.toNat_natCast] at *)
    (refine KO_fn rfl rfl rfl rfl rfl ((containsI_ok S.wf (tb l i).ov (tb l i).opn ht.1 (Nat.le_trans ht.2.2 (by omega)) k).mono ?_); rintro _ h ⟨⟨rfl, hq⟩ | ⟨rfl, hq⟩, x⟩) <;> (replace S := S.join0 x; clear x; refine vl ?_; refine mv ?_; refine KO_nil ?_)
    all_goals (repeat' (fail))
    all_goals (refine K_ret ⟨_, rfl, ?_⟩)
    · exact ⟨.inl ⟨rfl, i, k, w1, hq⟩, S⟩
    · refine ⟨.inr ⟨rfl, fun ⟨i', k', q1, q2⟩ => ?_⟩, S⟩
      obtain ⟨rfl, rfl⟩ := w1.unique q1
      exact hq q2
  · all_goals (repeat' (first | refine K_seq ?_ | (refine K_region (id := 2) ?_; refine mv ?_; refine mv ?_; refine off ?_; refine off ?_; refine off ?_; refine off ?_; refine off ?_; refine off ?_; (first | (refine off ?_; refine vl ?_; refine mv ?_; refine KO_nil ?_)))))
    refine K_ret ⟨_, rfl, ?_⟩
    exact ⟨.inr ⟨rfl, fun ⟨i', k', q1, q2⟩ => w1 _ _ q1⟩, S⟩

open Classical in
/-- The near seats among the first n. -/
noncomputable def nbUp (N : Int → Int → Prop) (k a : Int) : Nat → List Int
  | 0 => []
  | m + 1 => if N k m then nbUp N k a m ++ [a - k + m] else nbUp N k a m
def NbR (l : List Tab) (a : Int) (out : List Int) : Prop := (∃ i k : Nat, WhereI l a i k ∧ out = nbUp (nearP (tb l i)) k a (tsize (tb l i)).toNat) ∨ (out = [] ∧ ∀ i k, ¬ WhereI l a i k)
end Go.Proofs.Xx

/-
  HallNumbers: the seats of a hall are numbered without gaps.
-/
namespace Go.Proofs.Xx
open Go Go.Proofs
set_option linter.unusedSimpArgs false
set_option linter.unusedVariables false
set_option maxRecDepth 100000

theorem WhereR.is {l : List Tab} {s a b : Int} {f : Bool} (h : WhereR l s a b f) {i k : Nat} (q : WhereI l s i k) : a = i ∧ b = k ∧ f = true := h.unique (.inl ⟨rfl, i, k, rfl, rfl, q⟩)
theorem WhereR.no {l : List Tab} {s a b : Int} {f : Bool} (h : WhereR l s a b f) (q : ∀ i k, ¬ WhereI l s i k) : a = 0 ∧ b = 0 ∧ f = false := h.unique (.inr ⟨rfl, rfl, rfl, q⟩)
theorem MadeH.sz {cs : List Cod} {l : List Tab} (m : MadeH cs l) {i : Nat} (h : i < l.length) : TabS (tb l i) := by
  obtain ⟨t, h1, h2⟩ := m.tab i h
  refine TabS.of _ ?_
  rw [h2, tsize_xy]; exact h1.ts.pos
theorem MadeH.seats {cs : List Cod} {l : List Tab} (m : MadeH cs l) {i : Nat} (h : i < l.length) : seatsV (tb l i) = tsize (tb l i) := by
  unfold seatsV; rw [if_pos (m.chk h)]
theorem MadeH.first {cs : List Cod} {l : List Tab} (m : MadeH cs l) {i : Nat} (h : i < l.length) : firstV l i = sumT l i := by
  unfold firstV; rw [if_pos ⟨by omega, by omega, m.valid⟩, Int.toNat_natCast]
theorem MadeH.count {cs : List Cod} {l : List Tab} (m : MadeH cs l) : countV l = sumT l l.length := by
  unfold countV; rw [if_pos m.valid]
theorem MadeH.find {cs : List Cod} {l : List Tab} (m : MadeH cs l) {i : Nat} (hi : i < l.length) {k : Int} {f : Bool} (h : FindR l (tb l i).name k f) : k = i ∧ f = true := by
  rcases h with ⟨rfl, j, rfl, h1, h2, h3, h4⟩ | ⟨rfl, rfl, h1 | h1⟩
  · have := m.valid.one h2 hi h3
    exact ⟨by rw [this], rfl⟩
  · exact absurd m.valid h1
  · exact absurd rfl (h1 i hi)
def wZebra : List UInt8 := [122, 101, 98, 114, 97]

end Go.Proofs.Xx

/-
  Sorting by a key, in place: merging.
-/
namespace Go.Proofs.Xx
open Go Go.Proofs
set_option linter.unusedSimpArgs false
set_option linter.unusedVariables false
set_option maxRecDepth 100000

theorem IsRot.none {a b : Nat} {l : List Int} : IsRot a b b l l := fun k => by
  congr 1; unfold rot; split
  · rfl
  · split
    · omega
    · split
      · omega
      · rfl
end Go.Proofs.Xx

/-
  Distances are less than the number of places; lists in strict order with the same elements.
-/
namespace Go.Proofs.Xx
set_option linter.unusedVariables false

section
variable {N : Int → Int → Prop} {n s : Nat}
/-- On a least walk there is a place at each distance. -/
theorem IsDist.chain {d y : Nat} (h : IsDist N n s d y) (hy : y < n) : ∀ e, e ≤ d → ∃ x, x < n ∧ IsDist N n s e x := by
  induction d generalizing y with
  | zero => intro e he; exact ⟨y, hy, by rw [Nat.le_zero.1 he]; exact h⟩
  | succ d ih =>
    intro e he
    rcases Nat.lt_or_ge e (d + 1) with q | q
    · obtain ⟨x, hx, hw, hn⟩ := h.1
      obtain ⟨e', h1, h2⟩ := hw.least
      have : e' = d := by
        rcases Nat.lt_or_ge e' d with q1 | q1
        · exact absurd (show Wk N n s (e' + 1) y from ⟨x, hx, h2.1, hn⟩) (h.2 (e' + 1) (by omega))
        · omega
      subst this
      exact ih h2 hx e (by omega)
    · have : e = d + 1 := by omega
      subst this; exact ⟨y, hy, h⟩
end

/-- Two lists in strict order with the same elements are the same. -/
theorem strict_ext {α : Type} {lt : α → α → Prop} (irr : ∀ x, ¬ lt x x) (tr : ∀ {x y z}, lt x y → lt y z → lt x z) : ∀ {l m : List α}, l.Pairwise lt → m.Pairwise lt → (∀ x, x ∈ l ↔ x ∈ m) → l = m
  | [], [], _, _, _ => rfl
  | [], y :: m, _, _, h => by have := (h y).2 (by simp); simp at this
  | x :: l, [], _, _, h => by have := (h x).1 (by simp); simp at this
  | x :: l, y :: m, h1, h2, h => by
    rw [List.pairwise_cons] at h1 h2
    have e : x = y := by
      have a := (h x).1 (by simp)
      have b := (h y).2 (by simp)
      rw [List.mem_cons] at a b
      rcases a with a | a
      · exact a
      · rcases b with b | b
        · exact b.symm
        · exact absurd (tr (h1.1 y b) (h2.1 x a)) (irr x)
    subst e
    congr 1
    refine strict_ext irr tr h1.2 h2.2 fun z => ?_
    have hz := h z
    rw [List.mem_cons, List.mem_cons] at hz
    constructor
    · intro q
      rcases hz.1 (.inr q) with r | r
      · subst r; exact absurd (h1.1 z q) (irr z)
      · exact r
    · intro q
      rcases hz.2 (.inr q) with r | r
      · subst r; exact absurd (h2.1 z q) (irr z)
      · exact r
/-- The order of honour: by key, then by number. -/
def HonL (key : Int → Int) (f n : Int) (out : List Int) : Prop := out.Pairwise (lexi key) ∧ ∀ x, x ∈ out ↔ f ≤ x ∧ x < f + n
theorem HonL.unique {key : Int → Int} {f n : Int} {a b : List Int} (ha : HonL key f n a) (hb : HonL key f n b) : a = b :=
  strict_ext (lexi_ord key).irr (lexi_ord key).tr ha.1 hb.1 fun x => (ha.2 x).trans (hb.2 x).symm
end Go.Proofs.Xx

/-
  The order of honour.
-/
namespace Go.Proofs.Xx
open Go Go.Proofs
set_option linter.unusedSimpArgs false
set_option linter.unusedVariables false
set_option maxRecDepth 100000

theorem lvl_get (n : Nat) (l : List Int) (i : Nat) (h : i < l.length) : (lvl n l).getD i default = if l.getD i default < 0 then (n : Int) else l.getD i default := by
  simp [lvl, List.getD_eq_getElem?_getD, List.getElem?_map, List.getElem?_eq_getElem h]
/-- The first n seats of a table whose first seat is f. -/
def ups (f : Int) (n : Nat) : List Int := (List.range n).map fun k : Nat => f + (k : Int)
def HonR (l : List Tab) (t : Int) (out : List Int) : Prop :=
  (∃ (i n : Nat) (ld : List Int), t = i ∧ i < l.length ∧ ValidL l ∧ tsize (tb l i) = n ∧ DistL (nearP (tb l i)) n (tHon (tb l i)).toNat ld ∧ HonL (fun x => (lvl n ld).getD (x - sumT l i).toNat default) (sumT l i) n out) ∨ (¬ (0 ≤ t ∧ t < l.length ∧ ValidL l) ∧ out = [])
theorem HonR.unique {l : List Tab} {t : Int} {a b : List Int} (ha : HonR l t a) (hb : HonR l t b) : a = b := by
  rcases ha with ⟨i, n, ld, rfl, h1, h2, h3, h4, h5⟩ | ⟨h1, rfl⟩ <;> rcases hb with ⟨i', n', ld', e, g1, g2, g3, g4, g5⟩ | ⟨g1, rfl⟩
  · obtain rfl : i = i' := by omega
    obtain rfl : n = n' := by omega
    obtain rfl := h4.unique g4
    exact h5.unique g5
  · exact absurd ⟨by omega, by omega, h2⟩ g1
  · exact absurd ⟨by omega, by omega, g2⟩ h1
  · rfl

/-- The order of honour as far as it is told: levels below d, and d among the first k. -/
def HonPre (key : Int → Int) (f : Int) (n : Nat) (d : Int) (k : Nat) (out : List Int) : Prop := out.Pairwise (lexi key) ∧ ∀ x, x ∈ out ↔ ∃ j : Nat, j < n ∧ x = f + j ∧ (key x < d ∨ (key x = d ∧ j < k))
theorem HonPre.take {key : Int → Int} {f : Int} {n : Nat} {d : Int} {k : Nat} {out : List Int} (h : HonPre key f n d k out) (hk : k < n) (hq : key (f + k) = d) : HonPre key f n d (k + 1) (out ++ [f + k]) := by
  refine ⟨List.pairwise_append.2 ⟨h.1, by simp, fun a ha b hb => ?_⟩, fun x => ?_⟩
  · obtain ⟨j, h1, h2, h3⟩ := (h.2 a).1 ha
    rw [List.mem_singleton] at hb
    subst hb
    unfold lexi
    omega
  · rw [List.mem_append, List.mem_singleton, h.2]
    constructor
    · rintro (⟨j, h1, h2, h3⟩ | h1)
      · exact ⟨j, h1, h2, by omega⟩
      · exact ⟨k, hk, h1, by rw [h1]; omega⟩
    · rintro ⟨j, h1, h2, h3⟩
      rcases Nat.lt_trichotomy j k with q | q | q
      · exact .inl ⟨j, h1, h2, by omega⟩
      · subst q; exact .inr h2
      · exact .inl ⟨j, h1, h2, by omega⟩
theorem HonPre.pass {key : Int → Int} {f : Int} {n : Nat} {d : Int} {k : Nat} {out : List Int} (h : HonPre key f n d k out) (hq : key (f + k) ≠ d) : HonPre key f n d (k + 1) out := by
  refine ⟨h.1, fun x => ?_⟩
  rw [h.2]
  constructor
  · rintro ⟨j, h1, h2, h3⟩; exact ⟨j, h1, h2, by omega⟩
  · rintro ⟨j, h1, h2, h3⟩
    refine ⟨j, h1, h2, ?_⟩
    rcases h3 with h3 | ⟨h3, h4⟩
    · exact .inl h3
    · rcases Nat.lt_or_ge j k with q | q
      · exact .inr ⟨h3, q⟩
      · obtain rfl : j = k := by omega
        rw [h2] at h3; exact absurd h3 hq
theorem HonPre.level {key : Int → Int} {f : Int} {n : Nat} {d : Int} {out : List Int} (h : HonPre key f n d n out) : HonPre key f n (d + 1) 0 out := by
  refine ⟨h.1, fun x => ?_⟩
  rw [h.2]
  constructor
  · rintro ⟨j, h1, h2, h3⟩; exact ⟨j, h1, h2, by omega⟩
  · rintro ⟨j, h1, h2, h3⟩; exact ⟨j, h1, h2, by omega⟩
theorem HonPre.done {key : Int → Int} {f : Int} {n : Nat} {d : Int} {out : List Int} (h : HonPre key f n d 0 out) (hb : ∀ j : Nat, j < n → key (f + j) < d) : HonL key f n out := by
  refine ⟨h.1, fun x => ?_⟩
  rw [h.2]
  constructor
  · rintro ⟨j, h1, h2, h3⟩; omega
  · intro ⟨h1, h2⟩
    refine ⟨(x - f).toNat, by omega, by omega, .inl ?_⟩
    have := hb (x - f).toNat (by omega)
    rwa [show f + ((x - f).toNat : Int) = x by omega] at this

end Go.Proofs.Xx

/-
  Levels, near seats, the order of honour.
-/
namespace Go.Proofs.Xx
set_option linter.unusedVariables false

section
variable {N : Int → Int → Prop} {n s : Nat} {ld : List Int}
/-- The level of a place. -/
def lev (n : Nat) (ld : List Int) (k : Nat) : Int := if ld.getD k default < 0 then (n : Int) else ld.getD k default
end

/-! ### the order of honour, by index -/
section
variable {key : Int → Int} {f : Int} {n : Nat} {out : List Int}
theorem HonL.at_ (h : HonL key f n out) {i j : Nat} (hij : i < j) (hj : j < out.length) : lexi key (out.getD i default) (out.getD j default) := by
  have := List.pairwise_iff_getElem.1 h.1 i j (by omega) hj hij
  rw [List.getD_eq_getElem?_getD, List.getD_eq_getElem?_getD, List.getElem?_eq_getElem hj, List.getElem?_eq_getElem (show i < out.length by omega)]
  exact this
theorem HonL.mem_ (h : HonL key f n out) {i : Nat} (hi : i < out.length) : f ≤ out.getD i default ∧ out.getD i default < f + n := by
  refine (h.2 _).1 ?_
  rw [List.getD_eq_getElem?_getD, List.getElem?_eq_getElem hi]
  exact List.getElem_mem hi
theorem HonL.inj (h : HonL key f n out) {i j : Nat} (hi : i < out.length) (hj : j < out.length) (e : out.getD i default = out.getD j default) : i = j := by
  have irr := (lexi_ord key).irr
  rcases Nat.lt_trichotomy i j with q | q | q
  · have := h.at_ q hj; rw [e] at this; exact absurd this (irr _)
  · exact q
  · have := h.at_ q hi; rw [e] at this; exact absurd this (irr _)
theorem HonL.pos_ (h : HonL key f n out) {k : Nat} (hk : k < n) : ∃ i, i < out.length ∧ out.getD i default = f + k := by
  have := (h.2 (f + k)).2 ⟨by omega, by omega⟩
  obtain ⟨i, hi, e⟩ := List.getElem_of_mem this
  refine ⟨i, hi, ?_⟩
  rw [List.getD_eq_getElem?_getD, List.getElem?_eq_getElem hi]; exact e
theorem HonL.len (h : HonL key f n out) : out.length = n := by
  refine Nat.le_antisymm ?_ ?_
  · refine pigeon n out.length (fun i => (out.getD i default - f).toNat) (fun k hk => ?_) fun i j hi hj e => ?_
    · have := h.mem_ hk; show (out.getD k default - f).toNat < n; omega
    · have a := h.mem_ hi
      have b := h.mem_ hj
      have e : (out.getD i default - f).toNat = (out.getD j default - f).toNat := e
      exact h.inj hi hj (by omega)
  · have ch : ∀ k, ∃ i, k < n → i < out.length ∧ out.getD i default = f + k := fun k => by
      by_cases hk : k < n
      · obtain ⟨i, hi⟩ := h.pos_ hk; exact ⟨i, fun _ => hi⟩
      · exact ⟨0, fun q => absurd q hk⟩
    obtain ⟨g, hg⟩ := Classical.axiomOfChoice ch
    refine pigeon out.length n g (fun k hk => (hg k hk).1) fun i j hi hj e => ?_
    have a := (hg i hi).2
    have b := (hg j hj).2
    rw [e] at a
    omega
/-- The first in the order of honour is the only one with the key 0. -/
theorem HonL.zero (h : HonL key f n out) {s : Nat} (hs : s < n) (hz : ∀ k : Nat, k < n → (key (f + k) = 0 ↔ k = s)) (hb : ∀ k : Nat, k < n → 0 ≤ key (f + k)) {i : Nat} (hi : i < out.length) : key (out.getD i default) = 0 ↔ i = 0 := by
  have at' : ∀ {i : Nat}, i < out.length → ∃ k : Nat, k < n ∧ out.getD i default = f + k := fun {i} hi => by
    have := h.mem_ hi
    exact ⟨(out.getD i default - f).toNat, by omega, by omega⟩
  obtain ⟨j, hj, ej⟩ := h.pos_ hs
  have k0 : key (out.getD j default) = 0 := by rw [ej]; exact (hz s hs).2 rfl
  have uniq : ∀ {i : Nat}, i < out.length → key (out.getD i default) = 0 → i = j := fun {i} hi e => by
    obtain ⟨k, hk, ek⟩ := at' hi
    rw [ek] at e
    have := (hz k hk).1 e
    subst this
    exact h.inj hi hj (by rw [ek, ej])
  have j0 : j = 0 := by
    rcases Nat.eq_zero_or_pos j with q | q
    · exact q
    · exfalso
      have hl := h.at_ q hj
      obtain ⟨k, hk, ek⟩ := at' (show 0 < out.length by omega)
      have := hb k hk
      rw [← ek] at this
      unfold lexi at hl
      have e0 : key (out.getD 0 default) = 0 := by omega
      have := uniq (show 0 < out.length by omega) e0
      omega
  constructor
  · intro q; rw [uniq hi q, j0]
  · intro q; rw [q, ← j0]; exact k0
end
end Go.Proofs.Xx

/-
  HallLevels: the order of honour goes by levels.
-/
namespace Go.Proofs.Xx
open Go Go.Proofs
set_option linter.unusedSimpArgs false
set_option linter.unusedVariables false
set_option maxRecDepth 100000

theorem lvl_lev {n : Nat} {ld : List Int} {k : Nat} (h : k < ld.length) : (lvl n ld).getD k default = lev n ld k := by rw [lvl_get n ld k h]; rfl
theorem LevR.is {l : List Tab} {a d : Int} {i k n : Nat} {ld : List Int} (h : LevR l a d) (w : WhereI l a i k) (hn : tsize (tb l i) = n) (D : DistL (nearP (tb l i)) n (tHon (tb l i)).toNat ld) : d = lev n ld k := by
  have hnn : (tsize (tb l i)).toNat = n := by omega
  rcases h with ⟨i', k', ld', w', D', e⟩ | ⟨-, h⟩
  · obtain ⟨rfl, rfl⟩ := w.unique w'
    rw [hnn] at D' e
    obtain rfl := D.unique D'
    rw [e, lvl_lev]
    have := w.2.2.1
    rw [D.1]; omega
  · exact absurd w (h _ _)
theorem NbR.is {l : List Tab} {a : Int} {i k n : Nat} {out : List Int} (h : NbR l a out) (w : WhereI l a i k) (hn : tsize (tb l i) = n) : out = nbUp (nearP (tb l i)) k a n := by
  have hnn : (tsize (tb l i)).toNat = n := by omega
  rcases h with ⟨i', k', w', e⟩ | ⟨-, h⟩
  · obtain ⟨rfl, rfl⟩ := w.unique w'
    rw [e, hnn]
  · exact absurd w (h _ _)
theorem DistR.is {l : List Tab} {a b d : Int} {f : Bool} {i k m n : Nat} (h : DistR l a b d f) (w1 : WhereI l a i k) (w2 : WhereI l b i m) (hn : tsize (tb l i) = n) : f = true ↔ ∃ e, Wk (nearP (tb l i)) n k e m := by
  have hnn : (tsize (tb l i)).toNat = n := by omega
  rcases h with ⟨rfl, i', k', m', e, q1, q2, -, q3⟩ | ⟨rfl, -, q⟩
  · obtain ⟨rfl, rfl⟩ := w1.unique q1
    obtain ⟨-, rfl⟩ := w2.unique q2
    rw [hnn] at q3
    exact ⟨fun _ => ⟨e, q3.1⟩, fun _ => rfl⟩
  · refine ⟨fun q => (by cases q), fun ⟨e, he⟩ => ?_⟩
    obtain ⟨e', -, h2⟩ := he.least
    exact absurd (by rw [hnn]; exact h2) (q i k m e' w1 w2)
theorem HonR.is {l : List Tab} {i n : Nat} {out : List Int} (h : HonR l i out) (hi : i < l.length) (hv : ValidL l) (hn : tsize (tb l i) = n) : ∃ ld, DistL (nearP (tb l i)) n (tHon (tb l i)).toNat ld ∧ HonL (fun x => (lvl n ld).getD (x - sumT l i).toNat default) (sumT l i) n out := by
  rcases h with ⟨i', n', ld, e, h1, h2, h3, h4, h5⟩ | ⟨h1, -⟩
  · obtain rfl : i = i' := by omega
    obtain rfl : n = n' := by omega
    exact ⟨ld, h4, h5⟩
  · exact absurd ⟨by omega, by omega, hv⟩ h1
end Go.Proofs.Xx

/-
  Blocks of places that reach each other.
-/
namespace Go.Proofs.Xx
set_option linter.unusedVariables false

section
variable {N : Int → Int → Prop} {n : Nat}
def Rch (N : Int → Int → Prop) (n k m : Nat) : Prop := ∃ d, Wk N n k d m
theorem Rch.refl (k : Nat) : Rch N n k k := ⟨0, rfl⟩
theorem Wk.trans {s y : Nat} {d : Nat} (h : Wk N n s d y) : ∀ {e z : Nat}, Wk N n y e z → Wk N n s (d + e) z
  | 0, z, g => by
    have : z = y := g
    subst this; exact h
  | e + 1, z, ⟨x, hx, g, hn⟩ => ⟨x, hx, Wk.trans h g, hn⟩
theorem Wk.symm (hN : ∀ x y, N x y → N y x) {s : Nat} (hs : s < n) : ∀ {d y : Nat}, y < n → Wk N n s d y → Wk N n y d s
  | 0, y, hy, h => Eq.symm (show y = s from h)
  | d + 1, y, hy, ⟨x, hx, h, hn⟩ => by
    have h1 : Wk N n y 1 x := ⟨y, hy, rfl, hN _ _ hn⟩
    have := Wk.trans h1 (Wk.symm hN hs hx h)
    rwa [Nat.add_comm] at this
theorem Rch.trans {a b c : Nat} (h : Rch N n a b) (g : Rch N n b c) : Rch N n a c := by
  obtain ⟨d, h⟩ := h
  obtain ⟨e, g⟩ := g
  exact ⟨d + e, h.trans g⟩
theorem Rch.symm (hN : ∀ x y, N x y → N y x) {a b : Nat} (ha : a < n) (hb : b < n) (h : Rch N n a b) : Rch N n b a := by
  obtain ⟨d, h⟩ := h
  exact ⟨d, h.symm hN ha hb⟩
open Classical in
/-- What k reaches among the first m. -/
noncomputable def blkPre (N : Int → Int → Prop) (n : Nat) (f : Int) (k : Nat) : Nat → List Int
  | 0 => []
  | m + 1 => if Rch N n k m then blkPre N n f k m ++ [f + (m : Int)] else blkPre N n f k m
def leastP (N : Int → Int → Prop) (n k : Nat) : Prop := ∀ m, m < n → Rch N n k m → k ≤ m
open Classical in
/-- The blocks whose least place is among the first m. -/
noncomputable def blksPre (N : Int → Int → Prop) (n : Nat) (f : Int) : Nat → List (List Int)
  | 0 => []
  | m + 1 => if leastP N n m then blksPre N n f m ++ [blkPre N n f m n] else blksPre N n f m
end
end Go.Proofs.Xx

/-
  Lists of lists; the blocks of a table.
-/
namespace Go.Proofs.Xx
open Go Go.Proofs
set_option linter.unusedSimpArgs false
set_option linter.unusedVariables false
set_option maxRecDepth 100000

/-- The values vs read as the lists ls. -/
def LLs (vs : List Value) (ls : List (List Int)) (h : AH) (fp : Fp) : Prop := vs.length = ls.length ∧ ∀ j, j < ls.length → RdL h (vs.getD j default) 1 eI (ls.getD j default)
def RLL (h : AH) (v : Value) (ls : List (List Int)) : Prop := ∃ vs, RdL h v 1 eV vs ∧ vs.length = ls.length ∧ ∀ j, j < ls.length → RdL h (vs.getD j default) 1 eI (ls.getD j default)
theorem RLL.ext {h h' : AH} {v : Value} {ls : List (List Int)} (r : RLL h v ls) (w : WfH h) (x : Ext h h') : RLL h' v ls := by
  obtain ⟨vs, h1, h2, h3⟩ := r
  exact ⟨vs, h1.ext w x, h2, fun j hj => (h3 j hj).ext w x⟩
theorem RLL.nil {h : AH} : RLL h (.slice none 0 0) [] := ⟨[], Rd.none_ h 1, rfl, fun j hj => absurd hj (Nat.not_lt_zero _)⟩
theorem LLs.nil (h : AH) (fp : Fp) : LLs [] [] h fp := ⟨rfl, fun j hj => absurd hj (Nat.not_lt_zero _)⟩
theorem RLL.of {h0 h : AH} {rs : List Rs} {v : Value} {e : TypeId} {vs : List Value} {ls : List (List Int)} (S : Hs h0 h rs) (a : At rs (.sl v e 1 eV vs)) (b : At rs (.any (LLs vs ls))) : RLL h v ls := by
  obtain ⟨fp, k⟩ := S.anyP b
  exact ⟨vs, Rd.of_sl S a, k.1, k.2⟩

def BlkR (l : List Tab) (t : Int) (ls : List (List Int)) : Prop :=
  (∃ i n : Nat, t = i ∧ i < l.length ∧ ValidL l ∧ tsize (tb l i) = n ∧ ls = blksPre (nearP (tb l i)) n (sumT l i) n) ∨ (¬ (0 ≤ t ∧ t < l.length ∧ ValidL l) ∧ ls = [])
theorem BlkR.unique {l : List Tab} {t : Int} {a b : List (List Int)} (ha : BlkR l t a) (hb : BlkR l t b) : a = b := by
  rcases ha with ⟨i, n, rfl, h1, h2, h3, rfl⟩ | ⟨h1, rfl⟩ <;> rcases hb with ⟨i', n', e, g1, g2, g3, rfl⟩ | ⟨g1, rfl⟩
  · obtain rfl : i = i' := by omega
    obtain rfl : n = n' := by omega
    rfl
  · exact absurd ⟨by omega, by omega, h2⟩ g1
  · exact absurd ⟨by omega, by omega, g2⟩ h1
  · rfl
end Go.Proofs.Xx

/-
  HallRefuses: a hall with a mistake is refused, and nothing is told of it.
-/
namespace Go.Proofs.Xx
open Go Go.Proofs
set_option linter.unusedSimpArgs false
set_option linter.unusedVariables false
set_option maxRecDepth 100000

section
variable {P : Program} {X : Extern} {inR : Bool} {sz : Nat} {L : Ks} {h h0 : AH} {rs : List Rs} {ops : Array Oper} {os : List Oper} {o : Oper} {R : Ks → AH → Prop} {Q : KQ}
theorem bsn' {ty : TypeId} {n : Nat} {ps : Array (Nat × Operand)} {vs : List (Nat × Value)} {c : List Value} {e : TypeId} {α : Type} {z : Nat} {d : Tmp} (enc : α → List Value) (l : List α) (S : Hs h0 h rs) (w : ∀ u h', Hs h0 h' (.sl u e z enc l :: rs) → KO P X sz ops os (L.put d u) h' R) (ho : o.op = .buildSlice ty n ps := by exact rfl) (hg : guardA ops L.tree o.guard = some true := by exact rfl)
    (hx : kParts L ps.toList = some vs := by exact rfl) (hv : aBuildSlice P ty n vs h = some (.slice (some ⟨h.next, 0, none⟩) n n, h.add (.cells c e none false)) := by exact rfl) (hl : l.length = n := by exact rfl) (hc : c = l.flatMap enc := by exact rfl) (hz : c.length = l.length * z := by exact rfl) (hdst : o.dst = some d := by exact rfl) (hds : Nat.blt d sz = true := by exact rfl) : KO P X sz ops (o :: os) L h R := by
  subst hl
  exact KO_bslice ho hg hx hv (by simp only [putK, hdst, hds]) (w _ _ ((S.add c e).asSl (z := z) enc l hc hz))
end

def badNames : List (List UInt8) := [[], [65], [97, 32, 98], [97, 98, 99, 100, 101, 102, 103, 104, 105, 106, 107, 108, 109], [97, 10]]
end Go.Proofs.Xx

/-
  The builder of strings: copyCheck, WriteString, String.
-/
namespace Go.Proofs.Xx
open Go Go.Proofs
set_option linter.unusedSimpArgs false
set_option linter.unusedVariables false
set_option maxRecDepth 100000

section
variable {P : Program} {X : Extern} {inR : Bool} {sz : Nat} {L : Ks} {h h0 : AH} {rs : List Rs} {ops : Array Oper} {os : List Oper} {o : Oper} {R : Ks → AH → Prop} {Q : KQ}
/-- What holds behind this statement and the next one. -/
theorem K_join {σ : Type} {a b c : Code} (I : σ → AH → Prop) (sl : σ → Ks) (w1 : K P X inR sz a L h (thenK P X inR sz b (cutB I sl Q))) (w2 : ∀ s h', I s h' → K P X inR sz c (sl s) h' Q) : K P X inR sz a L h (thenK P X inR sz b (thenK P X inR sz c Q)) := by
  have key : ∀ x L' h', cutB I sl Q x L' h' → thenK P X inR sz c Q x L' h' := fun x L' h' q => by
    cases x with
    | norm => obtain ⟨s, q1, q2⟩ := q; exact (w2 s h' q1).le q2
    | exit id => exact q
    | ret => exact q
  refine w1.mono fun x L' h' q => ?_
  cases x with
  | norm => exact K.mono q key
  | exit id => exact q
  | ret => exact q
theorem K_joinR {σ : Type} {a b c : Code} (I : σ → AH → Prop) (sl : σ → Ks) (w1 : K P X inR sz a L h (thenK P X inR sz b (cutB I sl Q))) (w2 : ∀ s h', I s h' → K P X inR sz c (sl s) h' Q) : K P X inR sz a L h (thenK P X inR sz (.seq b c) Q) :=
  w1.mono fun x L' h' q => by
    cases x with
    | norm => exact K_cut I sl q w2
    | exit id => exact q
    | ret => exact q
end

/-- A builder in its block, with the bytes l in it. -/
abbrev bst (bb : Nat) (q v : Value) : Rs := .blk bb [q, v] 122
abbrev bsl (v : Value) (l : List UInt8) : Rs := .sl v 5 1 eU (l.map UInt8.toNat)
def QP (bb : Nat) (q : Value) : Prop := q = .pointer none ∨ q = .pointer (some ⟨bb, 0, none⟩)
end Go.Proofs.Xx

/-
  The moves of a shape: closures over its numbers.
-/
namespace Go.Proofs.Xx
open Go Go.Proofs
set_option linter.unusedSimpArgs false
set_option linter.unusedVariables false
set_option maxRecDepth 100000

theorem Hs.conv {h0 h : AH} {rs : List Rs} {r r' : Rs} (S : Hs h0 h (r :: rs)) (k : ∀ fp, r.ok h fp → r'.ok h fp) : Hs h0 h (r' :: rs) := by
  obtain ⟨fp, k1, k2⟩ := S.sep
  exact ⟨S.ext, fp, k fp k1, k2⟩
theorem gA1 {α : Type} {l m : List α} {j : Nat} {d : α} (h : j < l.length) : (l ++ m).getD j d = l.getD j d := by simp [List.getD, List.getElem?_append_left h]
theorem gA2 {α : Type} {l m : List α} {j : Nat} {d : α} (h : l.length ≤ j) : (l ++ m).getD j d = m.getD (j - l.length) d := by simp [List.getD, List.getElem?_append_right h]
/-- A function value: its number, what it holds. -/
abbrev FV := Nat × Array Value
def eF (x : FV) : List Value := [.func (.func x.1) #[] x.2]
/-- In every memory that agrees with h on fp the function value f gives g. -/
def MvAt (h : AH) (fp : Fp) (n : Int) (g : Int → Int) (f : FV) : Prop :=
  ∀ h2, WfH h2 → (∀ b, fp b → h2.get b = h.get b) → ∀ k : Int, 0 ≤ k → k < n → Fn Tryz.prog Xh f.1 (.int .i64 k :: f.2.toList) h2 (fun r h3 => r = .int .i64 (g k) ∧ Hs h2 h3 [])
theorem MvAt.mono {h : AH} {fp fp' : Fp} {n : Int} {g : Int → Int} {f : FV} (m : MvAt h fp n g f) (q : ∀ b, fp b → fp' b) : MvAt h fp' n g f := fun h2 w a => m h2 w fun b hb => a b (q b hb)
theorem MvAt.moved {h h' : AH} {fp : Fp} {n : Int} {g : Int → Int} {f : FV} (m : MvAt h fp n g f) (q : ∀ b, fp b → h'.get b = h.get b) : MvAt h' fp n g f := fun h2 w a => m h2 w fun b hb => (a b hb).trans (q b hb)
/-- The function values fs give g 0, g 1, .. -/
def MvR (n : Int) (N : Nat) (g : Nat → Int → Int) (fs : List FV) : AH → Fp → Prop := fun h fp => fs.length = N ∧ ∀ j, j < N → MvAt h fp n (g j) (fs.getD j default)
theorem MvR.ok {n : Int} {N : Nat} {g : Nat → Int → Int} {fs : List FV} {h : AH} {fp : Fp} (m : MvR n N g fs h fp) : (Rs.any (MvR n N g fs)).ok h fp := fun h' q => ⟨m.1, fun j hj => (m.2 j hj).moved q⟩

/-! round tables -/
def rgv (A : Int) (j : Nat) (k : Int) : Int := if j % 2 = 0 then (k + (j / 2 : Nat)) % A else ((j / 2 : Nat) - k + A) % A
theorem rm1_ok {h0 : AH} (w : WfH h0) {k r A : Int} {b6 b2 : Nat} (h1 : h0.get b6 = some (.cells [.int .i64 r] 3 none false)) (h2 : h0.get b2 = some (.cells [.int .i64 A] 3 none false)) (hk : 0 ≤ k ∧ k < A) (hr : 0 ≤ r ∧ r < A) (hA : A ≤ 24) :
    Fn Tryz.prog Xh 190 [.int .i64 k, .pointer (some ⟨b6, 0, none⟩), .pointer (some ⟨b2, 0, none⟩)] h0 (fun v h' => v = .int .i64 ((k + r) % A) ∧ Hs h0 h' []) := by
  have S := Hs.start w
  refine Fn_K rfl Tryz.func190 rfl rfl ?_
  all_goals (repeat' (first | refine K_seq ?_ | (refine K_region (id := 0) ?_; refine mv ?_; refine KO_nil ?_) | (refine K_region (id := 1) ?_; refine mv ?_; refine lH S ?_; refine ad ?_; refine lH S ?_; refine rm ?_; refine mv ?_; refine KO_nil ?_)))
  refine K_ret ⟨_, rfl, ?_⟩
  exact ⟨rfl, S⟩
theorem rm2_ok {h0 : AH} (w : WfH h0) {k r A : Int} {b6 b2 : Nat} (h1 : h0.get b6 = some (.cells [.int .i64 r] 3 none false)) (h2 : h0.get b2 = some (.cells [.int .i64 A] 3 none false)) (hk : 0 ≤ k ∧ k < A) (hr : 0 ≤ r ∧ r < A) (hA : A ≤ 24) :
    Fn Tryz.prog Xh 191 [.int .i64 k, .pointer (some ⟨b6, 0, none⟩), .pointer (some ⟨b2, 0, none⟩)] h0 (fun v h' => v = .int .i64 ((r - k + A) % A) ∧ Hs h0 h' []) := by
  have S := Hs.start w
  refine Fn_K rfl Tryz.func191 rfl rfl ?_
  all_goals (repeat' (first | refine K_seq ?_ | (refine K_region (id := 0) ?_; refine mv ?_; refine KO_nil ?_) | (refine K_region (id := 1) ?_; refine lH S ?_; refine mv ?_; refine sb ?_; refine lH S ?_; refine ad ?_; refine lH S ?_; refine rm ?_; refine mv ?_; refine KO_nil ?_)))
  refine K_ret ⟨_, rfl, ?_⟩
  exact ⟨rfl, S⟩
def RMp (A : Int) (b2 : Nat) (N : Nat) (fs : List FV) : AH → Fp → Prop := fun h fp => fp b2 ∧ h.get b2 = some (.cells [.int .i64 A] 3 none false) ∧ MvR A N (rgv A) fs h fp
theorem RMp.ok {A : Int} {b2 N : Nat} {fs : List FV} {h : AH} {fp : Fp} (m : RMp A b2 N fs h fp) : (Rs.any (RMp A b2 N fs)).ok h fp := fun h' q => ⟨m.1, (q _ m.1).trans m.2.1, MvR.ok m.2.2 h' q⟩
theorem roundMoves_ok {h0 : AH} (w : WfH h0) (A B : Int) (hA : 1 ≤ A ∧ A ≤ 24) : Fn Tryz.prog Xh 147 [.int .i64 A, .int .i64 B] h0 (fun v h' => ∃ fs : List FV, Hs h0 h' [.sl v 152 1 eF fs, .any (MvR A (2 * A).toNat (rgv A) fs)]) := by
  have S := Hs.start w
  refine Fn_K rfl Tryz.func147 rfl rfl ?_
  all_goals (repeat' (first | refine K_seq ?_ | refine k_block ?_ | (refine K_region (id := 0) ?_; (refine bx S ?_; clear S; intro b h S); refine mv ?_; refine KO_nil ?_) | (refine K_region (id := 1) ?_; refine mv ?_; refine KO_nil ?_) | (refine K_region (id := 2) ?_; refine lB S rfl rfl ?_; refine mv ?_; refine KO_nil ?_)))
  obtain ⟨b2, hnm⟩ : ∃ x, x = b := ⟨_, rfl⟩; subst hnm
  replace S := (S.conv (r' := .any (RMp A b2 0 [])) fun fp q => RMp.ok ⟨q.2, q.1, rfl, fun j hj => absurd hj (Nat.not_lt_zero _)⟩).nilS (e := 152) (z := 1) (enc := eF)
  refine k_loop (σ := Nat × Value) (fun (r, vs) h' => ∃ fs : List FV, Hs h0 h' [.sl vs 152 1 eF fs, .any (RMp A b2 (2 * r) fs)] ∧ (r : Int) ≤ A ∧ fs.length = 2 * r) (fun (r, vs) => A.toNat - r) (fun (r, vs) => [(2, .pointer (some ⟨b2, 0, none⟩)), (5, vs), (7, .int .i64 A), (8, .int .i64 r)]) (0, .slice none 0 0) (by repeat (first | exact Ks.le_nil _ | refine Ks.le_cons rfl ?_)) ?_ ?_
  · exact ⟨[], S, by omega, rfl⟩
  clear S
  rintro ⟨r, vs⟩ h ⟨fs, S, hr, hl⟩
  all_goals (repeat' (first | refine K_seq ?_ | refine k_cond rfl ?_ | refine K_skip ?_ | refine K_exit ?_ | refine k_block ?_ | (refine K_region (id := 3) ?_; (first | (refine cS ?_ ?_ <;> intro hc)) <;> (refine KO_nil ?_)) | (refine K_region (id := 4) ?_; refine mv ?_; (refine al S ?_; clear S; intro b h S); (first | (refine sB S rfl rfl ?_; clear S; intro h S)); refine KO_nil ?_) | (refine K_region (id := 5) ?_; refine mv ?_; refine vl ?_; refine vl ?_) | (refine K_region (id := 7) ?_; refine mv ?_; refine mv ?_; refine KO_nil ?_)))
  · obtain ⟨b6, hnm⟩ : ∃ x, x = b := ⟨_, rfl⟩; subst hnm
    refine bsn' (z := 1) eF [(190, #[.pointer (some ⟨b6, 0, none⟩), .pointer (some ⟨b2, 0, none⟩)]), (191, #[.pointer (some ⟨b6, 0, none⟩), .pointer (some ⟨b2, 0, none⟩)])] S ?_; clear S; intro u2 h S
    refine apd S rfl rfl (Rd.of_sl S .here) ?_; clear S; intro v2 h S
    replace S := ((S.del (.there .here)).front (.there (.there .here))).front (.there (.there .here))
    replace S := (S.merge (r := .any (RMp A b2 (2 * (r + 1)) (fs ++ [(190, #[.pointer (some ⟨b6, 0, none⟩), .pointer (some ⟨b2, 0, none⟩)]), (191, #[.pointer (some ⟨b6, 0, none⟩), .pointer (some ⟨b2, 0, none⟩)])]))) fun fp1 fp2 q1 q2 => by
      obtain ⟨a1, a2⟩ := q1
      obtain ⟨c1, c2, c3, c4⟩ := q2 h fun _ _ => rfl
      refine RMp.ok ⟨.inr c1, c2, by simp only [List.length_append, List.length_cons, List.length_nil]; omega, fun j hj => ?_⟩
      by_cases q : j < 2 * r
      · rw [gA1 (by omega)]
        exact (c4 j q).mono fun b hb => .inr hb
      · rw [gA2 (by omega), hl]
        by_cases q0 : j = 2 * r
        · subst q0
          rw [Nat.sub_self]
          intro h2 w2 ag k k1 k2
          refine (rm1_ok w2 (k := k) (r := r) (A := A) ((ag b6 (.inl a2)).trans a1) ((ag b2 (.inr c1)).trans c2) ⟨k1, k2⟩ (by omega) hA.2).mono fun v h3 q => ⟨?_, q.2⟩
          rw [q.1]; unfold rgv; rw [if_pos (by omega), show 2 * r / 2 = r by omega]
        · have q1 : j = 2 * r + 1 := by omega
          subst q1
          rw [show 2 * r + 1 - 2 * r = 1 by omega]
          intro h2 w2 ag k k1 k2
          refine (rm2_ok w2 (k := k) (r := r) (A := A) ((ag b6 (.inl a2)).trans a1) ((ag b2 (.inr c1)).trans c2) ⟨k1, k2⟩ (by omega) hA.2).mono fun v h3 q => ⟨?_, q.2⟩
          rw [q.1]; unfold rgv; rw [if_neg (by omega), show (2 * r + 1) / 2 = r by omega]).front (.there .here)
    refine mv ?_; refine KO_nil ?_
    all_goals (repeat' (first | (refine K_region (id := 6) ?_; refine ad ?_; refine mv ?_; refine KO_nil ?_)))
    refine ⟨(r + 1, v2), ?_, ?_, (by repeat (first | exact Ks.le_nil _ | refine Ks.le_cons rfl ?_))⟩
    · show A.toNat - (r + 1) < A.toNat - r; omega
    · exact ⟨_, S, by omega, by simp only [List.length_append, List.length_cons, List.length_nil]; omega⟩
  · all_goals (repeat' (fail))
    refine K_ret ⟨_, rfl, ?_⟩
    have e : (2 * A).toNat = 2 * r := by omega
    rw [e]
    exact ⟨fs, ((S.front (.there .here)).conv fun fp q => MvR.ok (q _ fun _ _ => rfl).2.2).front (.there .here)⟩

/-! the other shapes -/
/-- Blocks of one's own. -/
def BL (bl : List (Nat × List Value × TypeId)) : AH → Fp → Prop := fun h fp => ∀ x, x ∈ bl → h.get x.1 = some (.cells x.2.1 x.2.2 none false) ∧ fp x.1
theorem Hs.mergeB {h0 h : AH} {rs : List Rs} {b : Nat} {c : List Value} {e : TypeId} {bl : List (Nat × List Value × TypeId)} (S : Hs h0 h (.blk b c e :: .any (BL bl) :: rs)) : Hs h0 h (.any (BL ((b, c, e) :: bl)) :: rs) :=
  S.merge fun fp1 fp2 q1 q2 h' ag x hx => by
    rcases List.mem_cons.1 hx with rfl | hx
    · exact ⟨(ag _ (.inl q1.2)).trans q1.1, .inl q1.2⟩
    · have := q2 h (fun _ _ => rfl) x hx
      exact ⟨(ag _ (.inr this.2)).trans this.1, .inr this.2⟩
theorem Hs.blNil {h0 h : AH} {rs : List Rs} (S : Hs h0 h rs) : Hs h0 h (.any (BL []) :: rs) := S.anyS fun h' x hx => by cases hx
theorem same_ok0 {h0 : AH} (w : WfH h0) (k : Int) : Fn Tryz.prog Xh 196 [.int .i64 k] h0 (fun v h' => v = .int .i64 k ∧ Hs h0 h' []) := by
  have S := Hs.start w
  refine Fn_K rfl Tryz.func196 rfl rfl ?_
  all_goals (repeat' (first | refine K_seq ?_ | (refine K_region (id := 0) ?_; refine mv ?_; refine KO_nil ?_) | (refine K_region (id := 1) ?_; refine mv ?_; refine mv ?_; refine KO_nil ?_)))
  refine K_ret ⟨_, rfl, ?_⟩
  exact ⟨rfl, S⟩
def hdP (a b k : Int) : Prop := (0 < b ∧ k = a) ∨ (b = 2 ∧ k = 2 * a + 1)
instance (a b k : Int) : Decidable (hdP a b k) := by unfold hdP; infer_instance
def sdF (a b k : Int) : Int := if hdP a b k then k else (a + min b 1) + a - 1 - k
def enF (a b k : Int) : Int := if hdP a b k then 3 * a + 1 - k else if k < a then a - 1 - k else 2 * (a + min b 1) + a - 1 - k
abbrev PT (b : Nat) : Value := .pointer (some ⟨b, 0, none⟩)
theorem lm1_ok {h0 : AH} (w : WfH h0) {k a b : Int} {b3 b2 : Nat} (h1 : h0.get b3 = some (.cells [.int .i64 b] 3 none false)) (h2 : h0.get b2 = some (.cells [.int .i64 a] 3 none false)) (hk : -1000 ≤ k ∧ k ≤ 1000) (ha : 0 ≤ a ∧ a ≤ 24) (hb : 0 ≤ b ∧ b ≤ 2) :
    Fn Tryz.prog Xh 193 [.int .i64 k, PT b3, PT b2] h0 (fun v h' => BoolIs v (hdP a b k) ∧ Hs h0 h' []) := by
  have S := Hs.start w
  refine Fn_K rfl Tryz.func193 rfl rfl ?_
  all_goals (repeat' (first | refine K_seq ?_ | (refine K_region (id := 0) ?_; refine mv ?_; refine KO_nil ?_) | (refine K_region (id := 1) ?_; refine lH S ?_; (first | (refine cS ?_ ?_ <;> intro hc)) <;> (refine mv ?_; (first | refine off ?_ | refine mv ?_); (first | refine off ?_ | (refine lH S ?_)); (first | refine off ?_ | (first | (refine cS ?_ ?_ <;> intro hc))) <;> (refine vl ?_; refine mv ?_; (first | refine off ?_ | (refine lH S ?_)); (first | refine off ?_ | (first | refine cF ?_ | (refine cS ?_ ?_ <;> intro hc))) <;> ((first | refine off ?_ | refine mv ?_); (first | refine off ?_ | refine mv ?_); (first | refine off ?_ | (refine lH S ?_)); (first | refine off ?_ | (refine ml ?_)); (first | refine off ?_ | (refine ad ?_)); (first | refine off ?_ | (first | (refine cS ?_ ?_ <;> intro hc))) <;> ((first | refine off ?_ | refine vl ?_); refine vl ?_; refine mv ?_; refine KO_nil ?_)))))))
  all_goals (refine K_ret ⟨_, rfl, ?_⟩)
  all_goals (first | exact ⟨.inl ⟨rfl, by unfold hdP; omega⟩, S⟩ | exact ⟨.inr ⟨rfl, by unfold hdP; omega⟩, S⟩)
abbrev hdV (b3 b2 : Nat) : Value := .func (.func 193) #[] #[PT b3, PT b2]
theorem lm2_ok {h0 : AH} (w : WfH h0) {k a b s : Int} {b6 b5 b3 b2 : Nat} (h6 : h0.get b6 = some (.cells [hdV b3 b2] 90 none false)) (h5 : h0.get b5 = some (.cells [.int .i64 s] 3 none false)) (h1 : h0.get b3 = some (.cells [.int .i64 b] 3 none false)) (h2 : h0.get b2 = some (.cells [.int .i64 a] 3 none false)) (hk : -1000 ≤ k ∧ k ≤ 1000) (ha : 0 ≤ a ∧ a ≤ 24) (hb : 0 ≤ b ∧ b ≤ 2) (hs : s = a + min b 1) :
    Fn Tryz.prog Xh 194 [.int .i64 k, PT b6, PT b5, PT b2] h0 (fun v h' => v = .int .i64 (sdF a b k) ∧ Hs h0 h' []) := by
  have S := Hs.start w
  refine Fn_K rfl Tryz.func194 rfl rfl ?_
  all_goals (repeat' (first | refine K_seq ?_ | (refine K_region (id := 0) ?_; refine mv ?_; refine KO_nil ?_) | (refine K_region (id := 1) ?_; refine lH S ?_; refine mv ?_)))
  (refine KO_call rfl rfl rfl rfl ((lm1_ok S.wf (S.ext.get w h1) (S.ext.get w h2) hk ha hb).mono ?_); rintro _ h ⟨⟨rfl, hq⟩ | ⟨rfl, hq⟩, x⟩) <;> (replace S := S.join0 x; clear x; refine KO_nil ?_)
  · all_goals (repeat' (first | refine K_seq ?_ | refine k_cond rfl ?_ | (refine K_region (id := 2) ?_; refine mv ?_; refine mv ?_; refine KO_nil ?_)))
    refine K_ret ⟨_, rfl, ?_⟩
    exact ⟨by unfold sdF; rw [if_pos hq]; rfl, S⟩
  · all_goals (repeat' (first | refine K_seq ?_ | refine k_cond rfl ?_ | refine K_skip ?_ | (refine K_region (id := 3) ?_; refine lH S ?_; refine lH S ?_; refine ad ?_; refine sb ?_; refine mv ?_; refine sb ?_; refine mv ?_; refine KO_nil ?_)))
    refine K_ret ⟨_, rfl, ?_⟩
    exact ⟨by unfold sdF; rw [if_neg hq, hs]; rfl, S⟩
theorem lm3_ok {h0 : AH} (w : WfH h0) {k a b s : Int} {b6 b5 b3 b2 : Nat} (h6 : h0.get b6 = some (.cells [hdV b3 b2] 90 none false)) (h5 : h0.get b5 = some (.cells [.int .i64 s] 3 none false)) (h1 : h0.get b3 = some (.cells [.int .i64 b] 3 none false)) (h2 : h0.get b2 = some (.cells [.int .i64 a] 3 none false)) (hk : -1000 ≤ k ∧ k ≤ 1000) (ha : 0 ≤ a ∧ a ≤ 24) (hb : 0 ≤ b ∧ b ≤ 2) (hs : s = a + min b 1) :
    Fn Tryz.prog Xh 195 [.int .i64 k, PT b6, PT b2, PT b5] h0 (fun v h' => v = .int .i64 (enF a b k) ∧ Hs h0 h' []) := by
  have S := Hs.start w
  refine Fn_K rfl Tryz.func195 rfl rfl ?_
  all_goals (repeat' (first | refine K_seq ?_ | refine k_block ?_ | (refine K_region (id := 0) ?_; refine mv ?_; refine KO_nil ?_) | (refine K_region (id := 1) ?_; refine lH S ?_; refine mv ?_)))
  (refine KO_call rfl rfl rfl rfl ((lm1_ok S.wf (S.ext.get w h1) (S.ext.get w h2) hk ha hb).mono ?_); rintro _ h ⟨⟨rfl, hq⟩ | ⟨rfl, hq⟩, x⟩) <;> (replace S := S.join0 x; clear x; refine mv ?_; refine KO_nil ?_)
  · all_goals (repeat' (first | refine K_seq ?_ | refine k_cond rfl ?_ | (refine K_region (id := 2) ?_; refine lH S ?_; refine ml ?_; refine ad ?_; refine mv ?_; refine sb ?_; refine mv ?_; refine KO_nil ?_)))
    refine K_ret ⟨_, rfl, ?_⟩
    exact ⟨by unfold enF; rw [if_pos hq]; rfl, S⟩
  · all_goals (repeat' (first | refine K_seq ?_ | refine k_cond rfl ?_ | refine K_skip ?_ | (refine K_region (id := 3) ?_; refine mv ?_; refine lH S ?_; (first | (refine cS ?_ ?_ <;> intro hc)) <;> (refine mv ?_; refine KO_nil ?_)) | (refine K_region (id := 4) ?_; refine lH S ?_; refine sb ?_; refine mv ?_; refine sb ?_; refine mv ?_; refine KO_nil ?_) | (refine K_region (id := 5) ?_; refine lH S ?_; refine ml ?_; refine lH S ?_; refine ad ?_; refine sb ?_; refine mv ?_; refine sb ?_; refine mv ?_; refine KO_nil ?_)))
    · refine K_ret ⟨_, rfl, ?_⟩
      exact ⟨by unfold enF; rw [if_neg hq, if_pos (by omega)]; rfl, S⟩
    · refine K_ret ⟨_, rfl, ?_⟩
      exact ⟨by unfold enF; rw [if_neg hq, if_neg (by omega), hs]; rfl, S⟩
abbrev sdV (b6 b5 b2 : Nat) : Value := .func (.func 194) #[] #[PT b6, PT b5, PT b2]
abbrev enV (b6 b2 b5 : Nat) : Value := .func (.func 195) #[] #[PT b6, PT b2, PT b5]
theorem lm4_ok {h0 : AH} (w : WfH h0) {k a b s : Int} {b8 b7 b6 b5 b3 b2 : Nat} (h8 : h0.get b8 = some (.cells [enV b6 b2 b5] 152 none false)) (h7 : h0.get b7 = some (.cells [sdV b6 b5 b2] 152 none false)) (h6 : h0.get b6 = some (.cells [hdV b3 b2] 90 none false)) (h5 : h0.get b5 = some (.cells [.int .i64 s] 3 none false)) (h1 : h0.get b3 = some (.cells [.int .i64 b] 3 none false)) (h2 : h0.get b2 = some (.cells [.int .i64 a] 3 none false)) (hk : 0 ≤ k ∧ k ≤ 100) (ha : 0 ≤ a ∧ a ≤ 24) (hb : 0 ≤ b ∧ b ≤ 2) (hs : s = a + min b 1) :
    Fn Tryz.prog Xh 197 [.int .i64 k, PT b7, PT b8] h0 (fun v h' => v = .int .i64 (sdF a b (enF a b k)) ∧ Hs h0 h' []) := by
  have S := Hs.start w
  have he : -1000 ≤ enF a b k ∧ enF a b k ≤ 1000 := by unfold enF; split <;> (try split) <;> omega
  refine Fn_K rfl Tryz.func197 rfl rfl ?_
  all_goals (repeat' (first | refine K_seq ?_ | (refine K_region (id := 0) ?_; refine mv ?_; refine KO_nil ?_)))
  refine K_drawX (id := 1) [(0, (0, 1))] [some (b7)] ?_; refine KX_cons ?_; (first | (refine lH S ?_ <;> refine KO_nil ⟨⟨by (first | exact Or.inr rfl), rfl⟩, ?_⟩)); refine KX_cons ?_; (first | (refine lH S ?_ <;> refine KO_nil ⟨⟨by (first | exact True.intro), rfl⟩, ?_⟩)); refine KX_cons ?_; (first | (refine mv ?_ <;> refine KO_nil ⟨⟨by (first | exact True.intro), rfl⟩, ?_⟩))
  ((refine KX_cons ?_; first | refine KO_call rfl rfl rfl rfl ((lm3_ok S.wf (S.ext.get w h6) (S.ext.get w h5) (S.ext.get w h1) (S.ext.get w h2) ⟨by omega, by omega⟩ ha hb hs).mono ?_)); rintro _ h ⟨rfl, x⟩) <;> ((refine KO_nil ⟨⟨True.intro, ?_⟩, ?_⟩; (focus ((show keepsX _ _ _ _ _; simp only [keepsX]; (repeat' (first | exact True.intro | refine And.intro ?_ ?_)); all_goals (intro hw; first | exact x.ext.old _ (S.bY (by assumption) (by assumption))))))); replace S := S.join0 x; clear x)
  ((refine KX_cons ?_; first | refine KO_call rfl rfl rfl rfl ((lm2_ok S.wf (S.ext.get w h6) (S.ext.get w h5) (S.ext.get w h1) (S.ext.get w h2) he ha hb hs).mono ?_)); rintro _ h ⟨rfl, x⟩) <;> ((refine KO_nil ⟨⟨True.intro, ?_⟩, ?_⟩; (focus ((show keepsX _ _ _ _ _; simp only [keepsX]; (repeat' (first | exact True.intro | refine And.intro ?_ ?_)); all_goals (intro hw; first | exact x.ext.old _ (S.bY (by assumption) (by assumption))))))); replace S := S.join0 x; clear x; refine KX_cons ?_; (first | (refine mv ?_ <;> refine KO_nil ⟨⟨by (first | exact True.intro), rfl⟩, ?_⟩)); refine KX_nil ?_)
  all_goals (repeat' (fail))
  refine K_ret ⟨_, rfl, ?_⟩
  exact ⟨rfl, S⟩
theorem sm_ok {h0 : AH} (w : WfH h0) {k a b : Int} {b3 b2 : Nat} (h1 : h0.get b3 = some (.cells [.int .i64 b] 3 none false)) (h2 : h0.get b2 = some (.cells [.int .i64 a] 3 none false)) (hk : 0 ≤ k ∧ k ≤ 100) (ha : 0 ≤ a ∧ a ≤ 24) (hb : 0 ≤ b ∧ b ≤ 24) :
    Fn Tryz.prog Xh 198 [.int .i64 k, PT b2, PT b3] h0 (fun v h' => v = .int .i64 (a + 2 * b - 1 - k) ∧ Hs h0 h' []) := by
  have S := Hs.start w
  refine Fn_K rfl Tryz.func198 rfl rfl ?_
  all_goals (repeat' (first | refine K_seq ?_ | (refine K_region (id := 0) ?_; refine mv ?_; refine KO_nil ?_) | (refine K_region (id := 1) ?_; refine lH S ?_; refine lH S ?_; refine ml ?_; refine ad ?_; refine sb ?_; refine mv ?_; refine sb ?_; refine mv ?_; refine KO_nil ?_)))
  refine K_ret ⟨_, rfl, ?_⟩
  exact ⟨rfl, S⟩
theorem wm_ok {h0 : AH} (w : WfH h0) {k a : Int} {b2 : Nat} (h2 : h0.get b2 = some (.cells [.int .i64 a] 3 none false)) (hk : 0 ≤ k ∧ k ≤ 100) (ha : 0 ≤ a ∧ a ≤ 24) :
    Fn Tryz.prog Xh 199 [.int .i64 k, PT b2] h0 (fun v h' => v = .int .i64 (a - 1 - k) ∧ Hs h0 h' []) := by
  have S := Hs.start w
  refine Fn_K rfl Tryz.func199 rfl rfl ?_
  all_goals (repeat' (first | refine K_seq ?_ | (refine K_region (id := 0) ?_; refine mv ?_; refine KO_nil ?_) | (refine K_region (id := 1) ?_; refine lH S ?_; refine sb ?_; refine mv ?_; refine sb ?_; refine mv ?_; refine KO_nil ?_)))
  refine K_ret ⟨_, rfl, ?_⟩
  exact ⟨rfl, S⟩
/-- The number of moves of a table, and the moves. -/
def mvn (t : Tab) : Nat := if t.shape = 1 then (2 * t.A).toNat else if t.shape = 2 then (if t.B = 1 then 2 else 4) else 2
def mvg (t : Tab) (j : Nat) (k : Int) : Int :=
  if t.shape = 1 then rgv t.A j k
  else if t.shape = 2 then (match j with | 0 => k | 1 => sdF t.A t.B k | 2 => enF t.A t.B k | _ => sdF t.A t.B (enF t.A t.B k))
  else (match j with | 0 => k | _ => tsize t - 1 - k)
abbrev MovR (t : Tab) (fs : List FV) : AH → Fp → Prop := MvR (tsize t) (mvn t) (mvg t) fs
theorem roundMoves_okT {h0 : AH} (w : WfH h0) (t : Tab) (hs : TabS t) (q : t.shape = 1) : Fn Tryz.prog Xh 147 [.int .i64 t.A, .int .i64 t.B] h0 (fun v h' => ∃ fs : List FV, Hs h0 h' [.sl v 152 1 eF fs, .any (MovR t fs)]) := by
  have k := hs.s1 q
  refine (roundMoves_ok w t.A t.B ⟨k.1, k.2.1⟩).mono fun v h' ⟨fs, S⟩ => ⟨fs, ?_⟩
  have e1 : tsize t = t.A := k.2.2.2
  have e2 : mvn t = (2 * t.A).toNat := by unfold mvn; rw [if_pos q]
  have e3 : mvg t = rgv t.A := by funext j k; unfold mvg; rw [if_pos q]
  unfold MovR
  rw [e1, e2, e3]
  exact S
theorem shoeMoves_okT {h0 : AH} (w : WfH h0) (t : Tab) (hs : TabS t) (q : t.shape = 3) : Fn Tryz.prog Xh 157 [.int .i64 t.A, .int .i64 t.B] h0 (fun v h' => ∃ fs : List FV, Hs h0 h' [.sl v 152 1 eF fs, .any (MovR t fs)]) := by
  have S := Hs.start w
  have kk := hs.s3 q
  have e2 : mvn t = 2 := by unfold mvn; rw [if_neg (by omega), if_neg (by omega)]
  refine Fn_K rfl Tryz.func157 rfl rfl ?_
  all_goals (repeat' (first | refine K_seq ?_ | (refine K_region (id := 0) ?_; (refine bx S ?_; clear S; intro b h S); (refine bx S ?_; clear S; intro b h S); refine mv ?_; refine KO_nil ?_) | (refine K_region (id := 1) ?_; refine vl ?_)))
  obtain ⟨b3, hnm⟩ : ∃ x, x = b := ⟨_, rfl⟩; subst hnm
  obtain ⟨b2, hnm⟩ : ∃ x, x = b := ⟨_, rfl⟩; subst hnm
  refine bsn' (z := 1) eF [(196, #[]), (198, #[PT b2, PT b3])] S ?_; clear S; intro u2 h S
  refine mv ?_; refine KO_nil ?_
  all_goals (repeat' (fail))
  refine K_ret ⟨_, rfl, ?_⟩
  refine ⟨[(196, #[]), (198, #[PT b2, PT b3])], ?_⟩
  replace S := (S.blNil.front (.there (.there (.there .here)))).mergeB
  replace S := (S.front (.there (.there .here))).mergeB
  refine (S.conv fun fp q' => ?_).front (.there .here)
  have q1 := q' h fun _ _ => rfl
  have a3 := q1 _ (.head _)
  have a2 := q1 _ (.tail _ (.head _))
  refine MvR.ok ⟨e2.symm, fun j hj => ?_⟩
  rw [e2] at hj
  intro h2 w2 ag k k1 k2
  match j, hj with
  | 0, _ =>
    refine (same_ok0 w2 k).mono fun v h3 z => ⟨?_, z.2⟩
    rw [z.1]; unfold mvg; rw [if_neg (by omega), if_neg (by omega)]; rfl
  | 1, _ =>
    refine (sm_ok w2 (k := k) (a := t.A) (b := t.B) ((ag b3 a3.2).trans a3.1) ((ag b2 a2.2).trans a2.1) ⟨k1, by omega⟩ (by omega) (by omega)).mono fun v h3 z => ⟨?_, z.2⟩
    rw [z.1]; unfold mvg; rw [if_neg (by omega), if_neg (by omega), kk.2.2.2.2]; rfl
theorem rowMoves_okT {h0 : AH} (w : WfH h0) (t : Tab) (hs : TabS t) (q : t.shape = 4) : Fn Tryz.prog Xh 162 [.int .i64 t.A, .int .i64 t.B] h0 (fun v h' => ∃ fs : List FV, Hs h0 h' [.sl v 152 1 eF fs, .any (MovR t fs)]) := by
  have S := Hs.start w
  have kk := hs.s4 q
  have e2 : mvn t = 2 := by unfold mvn; rw [if_neg (by omega), if_neg (by omega)]
  refine Fn_K rfl Tryz.func162 rfl rfl ?_
  all_goals (repeat' (first | refine K_seq ?_ | (refine K_region (id := 0) ?_; (refine bx S ?_; clear S; intro b h S); refine mv ?_; refine KO_nil ?_) | (refine K_region (id := 1) ?_; refine vl ?_)))
  obtain ⟨b2, hnm⟩ : ∃ x, x = b := ⟨_, rfl⟩; subst hnm
  refine bsn' (z := 1) eF [(196, #[]), (199, #[PT b2])] S ?_; clear S; intro u2 h S
  refine mv ?_; refine KO_nil ?_
  all_goals (repeat' (fail))
  refine K_ret ⟨_, rfl, ?_⟩
  refine ⟨[(196, #[]), (199, #[PT b2])], ?_⟩
  replace S := (S.blNil.front (.there (.there .here))).mergeB
  refine (S.conv fun fp q' => ?_).front (.there .here)
  have q1 := q' h fun _ _ => rfl
  have a2 := q1 _ (.head _)
  refine MvR.ok ⟨e2.symm, fun j hj => ?_⟩
  rw [e2] at hj
  intro h2 w2 ag k k1 k2
  match j, hj with
  | 0, _ =>
    refine (same_ok0 w2 k).mono fun v h3 z => ⟨?_, z.2⟩
    rw [z.1]; unfold mvg; rw [if_neg (by omega), if_neg (by omega)]; rfl
  | 1, _ =>
    refine (wm_ok w2 (k := k) (a := t.A) ((ag b2 a2.2).trans a2.1) ⟨k1, by omega⟩ (by omega)).mono fun v h3 z => ⟨?_, z.2⟩
    rw [z.1]; unfold mvg; rw [if_neg (by omega), if_neg (by omega), kk.2.2.2.2]; rfl
def lfs2 (b2 b5 b6 : Nat) : List FV := [(196, #[]), (194, #[PT b6, PT b5, PT b2])]
def lfs3 (b2 b5 b6 b7 b8 : Nat) : List FV := [(195, #[PT b6, PT b2, PT b5]), (197, #[PT b7, PT b8])]
def lbl (a b : Int) (b2 b3 b5 b6 b7 b8 : Nat) : List (Nat × List Value × TypeId) := [(b2, [.int .i64 a], 3), (b3, [.int .i64 b], 3), (b5, [.int .i64 (a + min b 1)], 3), (b6, [hdV b3 b2], 90), (b7, [sdV b6 b5 b2], 152), (b8, [enV b6 b2 b5], 152)]
theorem longMvR {t : Tab} (hs : TabS t) (q : t.shape = 2) {b2 b3 b5 b6 b7 b8 : Nat} {h : AH} {fp : Fp} {fs : List FV} (hf : fs = if t.B = 1 then lfs2 b2 b5 b6 else lfs2 b2 b5 b6 ++ lfs3 b2 b5 b6 b7 b8) (q1 : BL (lbl t.A t.B b2 b3 b5 b6 b7 b8) h fp) : MovR t fs h fp := by
  have kk := hs.s2 q
  obtain ⟨k1, k2, k3, k4, k5⟩ := kk
  have a2 := q1 _ (.head _)
  have a3 := q1 _ (.tail _ (.head _))
  have a5 := q1 _ (.tail _ (.tail _ (.head _)))
  have a6 := q1 _ (.tail _ (.tail _ (.tail _ (.head _))))
  have a7 := q1 _ (.tail _ (.tail _ (.tail _ (.tail _ (.head _)))))
  have a8 := q1 _ (.tail _ (.tail _ (.tail _ (.tail _ (.tail _ (.head _))))))
  have get : ∀ j, j < mvn t → fs.getD j default = (lfs2 b2 b5 b6 ++ lfs3 b2 b5 b6 b7 b8).getD j default := fun j hj => by
    subst hf
    unfold mvn at hj
    rw [if_neg (by omega), if_pos q] at hj
    by_cases hb : t.B = 1
    · rw [if_pos hb] at hj ⊢
      match j, hj with
      | 0, _ => rfl
      | 1, _ => rfl
    · rw [if_neg hb]
  have len : fs.length = mvn t := by
    subst hf
    unfold mvn
    rw [if_neg (show ¬ t.shape = 1 by omega), if_pos q]
    split <;> rfl
  have hn : mvn t ≤ 4 := by unfold mvn; rw [if_neg (by omega), if_pos q]; split <;> omega
  refine ⟨len, fun j hj => ?_⟩
  rw [get j hj]
  intro h2 w2 ag k e1 e2
  have g2 := (ag b2 a2.2).trans a2.1
  have g3 := (ag b3 a3.2).trans a3.1
  have g5 := (ag b5 a5.2).trans a5.1
  have g6 := (ag b6 a6.2).trans a6.1
  have g7 := (ag b7 a7.2).trans a7.1
  have g8 := (ag b8 a8.2).trans a8.1
  have hj4 : j < 4 := by omega
  match j, hj4 with
  | 0, _ =>
    refine (same_ok0 w2 k).mono fun v h3 z => ⟨?_, z.2⟩
    rw [z.1]; unfold mvg; rw [if_neg (by omega), if_pos q]; rfl
  | 1, _ =>
    refine (lm2_ok w2 (k := k) g6 g5 g3 g2 ⟨by omega, by omega⟩ (by omega) ⟨k3, k4⟩ rfl).mono fun v h3 z => ⟨?_, z.2⟩
    rw [z.1]; unfold mvg; rw [if_neg (by omega), if_pos q]; rfl
  | 2, _ =>
    refine (lm3_ok w2 (k := k) g6 g5 g3 g2 ⟨by omega, by omega⟩ (by omega) ⟨k3, k4⟩ rfl).mono fun v h3 z => ⟨?_, z.2⟩
    rw [z.1]; unfold mvg; rw [if_neg (by omega), if_pos q]; rfl
  | 3, _ =>
    refine (lm4_ok w2 (k := k) g8 g7 g6 g5 g3 g2 ⟨by omega, by omega⟩ (by omega) ⟨k3, k4⟩ rfl).mono fun v h3 z => ⟨?_, z.2⟩
    rw [z.1]; unfold mvg; rw [if_neg (by omega), if_pos q]; rfl
theorem longMoves_okT {h0 : AH} (w : WfH h0) (t : Tab) (hs : TabS t) (q : t.shape = 2) : Fn Tryz.prog Xh 152 [.int .i64 t.A, .int .i64 t.B] h0 (fun v h' => ∃ fs : List FV, Hs h0 h' [.sl v 152 1 eF fs, .any (MovR t fs)]) := by
  have S := Hs.start w
  have kk := hs.s2 q
  obtain ⟨k1, k2, k3, k4, k5⟩ := kk
  refine Fn_K rfl Tryz.func152 rfl rfl ?_
  all_goals (repeat' (first | refine K_seq ?_ | (refine K_region (id := 0) ?_; (refine bx S ?_; clear S; intro b h S); (refine bx S ?_; clear S; intro b h S); refine mv ?_; refine KO_nil ?_) | (refine K_region (id := 1) ?_; refine lB S rfl rfl ?_; refine lB S rfl rfl ?_)))
  obtain ⟨b3, hnm⟩ : ∃ x, x = b := ⟨_, rfl⟩; subst hnm
  obtain ⟨b2, hnm⟩ : ∃ x, x = b := ⟨_, rfl⟩; subst hnm
  (refine KO_fn rfl rfl rfl rfl rfl ((two_ok _ _ ⟨by omega, by omega, by omega, by omega⟩).mono ?_); rintro _ h ⟨rfl, rfl⟩) <;> ((refine al S ?_; clear S; intro b h S); (first | (refine sB S rfl rfl ?_; clear S; intro h S)); refine KO_nil ?_)
  all_goals (repeat' (first | refine K_seq ?_ | (refine K_region (id := 2) ?_; refine vl ?_; (refine al S ?_; clear S; intro b h S); (first | (refine sB S rfl rfl ?_; clear S; intro h S)); refine KO_nil ?_) | (refine K_region (id := 3) ?_; refine vl ?_; (refine al S ?_; clear S; intro b h S); (first | (refine sB S rfl rfl ?_; clear S; intro h S)); refine KO_nil ?_) | (refine K_region (id := 4) ?_; refine vl ?_; (refine al S ?_; clear S; intro b h S); (first | (refine sB S rfl rfl ?_; clear S; intro h S)); refine KO_nil ?_) | (refine K_region (id := 5) ?_; refine lB S rfl rfl ?_)))
  obtain ⟨b8, hnm⟩ : ∃ x, x = b := ⟨_, rfl⟩; subst hnm
  obtain ⟨b7, hnm⟩ : ∃ x, x = b := ⟨_, rfl⟩; subst hnm
  obtain ⟨b6, hnm⟩ : ∃ x, x = b := ⟨_, rfl⟩; subst hnm
  obtain ⟨b5, hnm⟩ : ∃ x, x = b := ⟨_, rfl⟩; subst hnm
  refine bsn' (z := 1) eF (lfs2 b2 b5 b6) S ?_; clear S; intro u2 h S
  refine mv ?_; refine KO_nil ?_
  all_goals (repeat' (first | refine K_seq ?_ | refine k_cond rfl ?_ | refine K_skip ?_ | (refine K_region (id := 6) ?_; refine lB S rfl rfl ?_; (first | (refine cS ?_ ?_ <;> intro hc)) <;> (refine KO_nil ?_)) | (refine K_region (id := 7) ?_; refine mv ?_; refine lB S rfl rfl ?_; refine vl ?_) | (refine K_region (id := 8) ?_; refine mv ?_; refine mv ?_; refine KO_nil ?_)))
  · refine bsn' (z := 1) eF (lfs3 b2 b5 b6 b7 b8) S ?_; clear S; intro u3 h S
    refine apd S rfl rfl (Rd.of_sl S .here) ?_ (hsz := by simp only [lfs2, lfs3, List.length_cons, List.length_nil]; omega); clear S; intro v2 h S
    refine mv ?_; refine KO_nil ?_
    all_goals (repeat' (first | refine K_seq ?_ | (refine K_region (id := 8) ?_; refine mv ?_; refine mv ?_; refine KO_nil ?_)))
    refine K_ret ⟨_, rfl, ?_⟩
    replace S := (S.del (.there .here)).blNil
    iterate 6 replace S := (S.front (.there (.there .here))).mergeB
    exact ⟨_, (S.conv fun fp q' => MvR.ok (longMvR hs q (by rw [if_neg hc]) (q' h fun _ _ => rfl))).front (.there .here)⟩
  · all_goals (repeat' (fail))
    refine K_ret ⟨_, rfl, ?_⟩
    replace S := S.blNil
    iterate 6 replace S := (S.front (.there (.there .here))).mergeB
    exact ⟨_, (S.conv fun fp q' => MvR.ok (longMvR hs q (by rw [if_pos (by omega)]) (q' h fun _ _ => rfl))).front (.there .here)⟩
end Go.Proofs.Xx
