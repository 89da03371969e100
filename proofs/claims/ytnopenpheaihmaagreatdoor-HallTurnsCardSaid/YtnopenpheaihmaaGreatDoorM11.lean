/-
  HallRefuses: a hall with a mistake is refused, and nothing is told of it.
-/
import Derived.Test.YtnopenpheaihmaaGreatDoorM10
import Derived.Test.YtnopenpheaihmaaGreatDoorM6

namespace Go.Proofs.Xx
open Go Go.Proofs
set_option linter.unusedSimpArgs false
set_option linter.unusedVariables false
set_option maxRecDepth 100000

section
variable {P : Program} {X : Extern} {inR : Bool} {sz : Nat} {L : Ks} {h h0 : AH} {rs : List Rs} {ops : Array Oper} {os : List Oper} {o : Oper} {R : Ks → AH → Prop} {Q : KQ}
theorem bsn' {ty : TypeId} {n : Nat} {ps : Array (Nat × Operand)} {vs : List (Nat × Value)} {c : List Value} {e : TypeId} {α : Type} {z : Nat} {d : Tmp} (enc : α → List Value) (l : List α) (S : Hs h0 h rs) (w : ∀ u h', Hs h0 h' (.sl u e z enc l :: rs) → KO P X sz ops os (L.put d u) h' R) (ho : o.op = .buildSlice ty n ps := by exact rfl) (hg : guardA ops L.tree o.guard = some true := by exact rfl)
    (hx : kParts L ps.toList = some vs := by exact rfl) (hv : aBuildSlice P ty n vs h = some (.slice (some ⟨h.next, 0, none⟩) n n, h.add (.cells c e none false)) := by exact rfl) (hl : l.length = n := by exact rfl) (hc : c = l.flatMap enc := by exact rfl) (hz : c.length = l.length * z := by exact rfl) (hdst : o.dst = some d := by exact rfl) (hds : Nat.blt d sz = true := by exact rfl) : KO P X sz ops (o :: os) L h R := by
  subst hl
  exact KO_bslice ho hg hx hv (by simp only [putK, hdst, hds]) (w _ _ ((S.add c e).asSl (z := z) enc l hc hz))
end

def badNames : List (List UInt8) := [[], [65], [97, 32, 98], [97, 98, 99, 100, 101, 102, 103, 104, 105, 106, 107, 108, 109], [97, 10]]
end Go.Proofs.Xx

/-
  The builder of strings: copyCheck, WriteString, String.
-/
namespace Go.Proofs.Xx
open Go Go.Proofs
set_option linter.unusedSimpArgs false
set_option linter.unusedVariables false
set_option maxRecDepth 100000

section
variable {P : Program} {X : Extern} {inR : Bool} {sz : Nat} {L : Ks} {h h0 : AH} {rs : List Rs} {ops : Array Oper} {os : List Oper} {o : Oper} {R : Ks → AH → Prop} {Q : KQ}
/-- What holds behind this statement and the next one. -/
theorem K_join {σ : Type} {a b c : Code} (I : σ → AH → Prop) (sl : σ → Ks) (w1 : K P X inR sz a L h (thenK P X inR sz b (cutB I sl Q))) (w2 : ∀ s h', I s h' → K P X inR sz c (sl s) h' Q) : K P X inR sz a L h (thenK P X inR sz b (thenK P X inR sz c Q)) := by
  have key : ∀ x L' h', cutB I sl Q x L' h' → thenK P X inR sz c Q x L' h' := fun x L' h' q => by
    cases x with
    | norm => obtain ⟨s, q1, q2⟩ := q; exact (w2 s h' q1).le q2
    | exit id => exact q
    | ret => exact q
  refine w1.mono fun x L' h' q => ?_
  cases x with
  | norm => exact K.mono q key
  | exit id => exact q
  | ret => exact q
/-- The same behind this statement alone. -/
theorem K_join1 {σ : Type} {a c : Code} (I : σ → AH → Prop) (sl : σ → Ks) (w1 : K P X inR sz a L h (cutB I sl Q)) (w2 : ∀ s h', I s h' → K P X inR sz c (sl s) h' Q) : K P X inR sz a L h (thenK P X inR sz c Q) :=
  w1.mono fun x L' h' q => by
    cases x with
    | norm => obtain ⟨s, q1, q2⟩ := q; exact (w2 s h' q1).le q2
    | exit id => exact q
    | ret => exact q
end

/-- A builder in its block, with the bytes l in it. -/
abbrev bst (bb : Nat) (q v : Value) : Rs := .blk bb [q, v] 122
abbrev bsl (v : Value) (l : List UInt8) : Rs := .sl v 5 1 eU (l.map UInt8.toNat)
def QP (bb : Nat) (q : Value) : Prop := q = .pointer none ∨ q = .pointer (some ⟨bb, 0, none⟩)
end Go.Proofs.Xx

/-
  The moves of a shape: closures over its numbers.
-/
namespace Go.Proofs.Xx
open Go Go.Proofs
set_option linter.unusedSimpArgs false
set_option linter.unusedVariables false
set_option maxRecDepth 100000

theorem Hs.conv {h0 h : AH} {rs : List Rs} {r r' : Rs} (S : Hs h0 h (r :: rs)) (k : ∀ fp, r.ok h fp → r'.ok h fp) : Hs h0 h (r' :: rs) := by
  obtain ⟨fp, k1, k2⟩ := S.sep
  exact ⟨S.ext, fp, k fp k1, k2⟩
theorem gA1 {α : Type} {l m : List α} {j : Nat} {d : α} (h : j < l.length) : (l ++ m).getD j d = l.getD j d := by simp [List.getD, List.getElem?_append_left h]
theorem gA2 {α : Type} {l m : List α} {j : Nat} {d : α} (h : l.length ≤ j) : (l ++ m).getD j d = m.getD (j - l.length) d := by simp [List.getD, List.getElem?_append_right h]
/-- A function value: its number, what it holds. -/
abbrev FV := Nat × Array Value
def eF (x : FV) : List Value := [.func (.func x.1) #[] x.2]
/-- In every memory that agrees with h on fp the function value f gives g. -/
def MvAt (h : AH) (fp : Fp) (n : Int) (g : Int → Int) (f : FV) : Prop :=
  ∀ h2, WfH h2 → (∀ b, fp b → h2.get b = h.get b) → ∀ k : Int, 0 ≤ k → k < n → Fn Tryz.prog Xh f.1 (.int .i64 k :: f.2.toList) h2 (fun r h3 => r = .int .i64 (g k) ∧ Hs h2 h3 [])
theorem MvAt.mono {h : AH} {fp fp' : Fp} {n : Int} {g : Int → Int} {f : FV} (m : MvAt h fp n g f) (q : ∀ b, fp b → fp' b) : MvAt h fp' n g f := fun h2 w a => m h2 w fun b hb => a b (q b hb)
theorem MvAt.moved {h h' : AH} {fp : Fp} {n : Int} {g : Int → Int} {f : FV} (m : MvAt h fp n g f) (q : ∀ b, fp b → h'.get b = h.get b) : MvAt h' fp n g f := fun h2 w a => m h2 w fun b hb => (a b hb).trans (q b hb)
/-- The function values fs give g 0, g 1, .. -/
def MvR (n : Int) (N : Nat) (g : Nat → Int → Int) (fs : List FV) : AH → Fp → Prop := fun h fp => fs.length = N ∧ ∀ j, j < N → MvAt h fp n (g j) (fs.getD j default)
theorem MvR.ok {n : Int} {N : Nat} {g : Nat → Int → Int} {fs : List FV} {h : AH} {fp : Fp} (m : MvR n N g fs h fp) : (Rs.any (MvR n N g fs)).ok h fp := fun h' q => ⟨m.1, fun j hj => (m.2 j hj).moved q⟩

/-! round tables -/
def rgv (A : Int) (j : Nat) (k : Int) : Int := if j % 2 = 0 then (k + (j / 2 : Nat)) % A else ((j / 2 : Nat) - k + A) % A
theorem rm1_ok {h0 : AH} (w : WfH h0) {k r A : Int} {b6 b2 : Nat} (h1 : h0.get b6 = some (.cells [.int .i64 r] 3 none false)) (h2 : h0.get b2 = some (.cells [.int .i64 A] 3 none false)) (hk : 0 ≤ k ∧ k < A) (hr : 0 ≤ r ∧ r < A) (hA : A ≤ 24) :
    Fn Tryz.prog Xh 190 [.int .i64 k, .pointer (some ⟨b6, 0, none⟩), .pointer (some ⟨b2, 0, none⟩)] h0 (fun v h' => v = .int .i64 ((k + r) % A) ∧ Hs h0 h' []) := by
  have S := Hs.start w
  refine Fn_K rfl Tryz.func190 rfl rfl ?_
  all_goals (repeat' (first | refine K_seq ?_ | refine k_cond rfl ?_ | refine K_skip ?_ | refine K_exit ?_ | refine k_block ?_ | refine K_scope ?_ | (refine K_region (id := 0) ?_; refine mv ?_; refine KO_nil ?_) | (refine K_region (id := 1) ?_; refine mv ?_; (first | refine lB S rfl rfl ?_ | refine lES2 S rfl rfl ?_ | refine lEB S ?_ | refine lH S ?_); (first | refine ad ?_ | refine vl ?_); (first | refine lB S rfl rfl ?_ | refine lES2 S rfl rfl ?_ | refine lEB S ?_ | refine lH S ?_); (first | refine rm ?_ | refine vl ?_); refine mv ?_; refine KO_nil ?_)))
  refine K_ret ⟨_, rfl, ?_⟩
  exact ⟨rfl, S⟩
theorem rm2_ok {h0 : AH} (w : WfH h0) {k r A : Int} {b6 b2 : Nat} (h1 : h0.get b6 = some (.cells [.int .i64 r] 3 none false)) (h2 : h0.get b2 = some (.cells [.int .i64 A] 3 none false)) (hk : 0 ≤ k ∧ k < A) (hr : 0 ≤ r ∧ r < A) (hA : A ≤ 24) :
    Fn Tryz.prog Xh 191 [.int .i64 k, .pointer (some ⟨b6, 0, none⟩), .pointer (some ⟨b2, 0, none⟩)] h0 (fun v h' => v = .int .i64 ((r - k + A) % A) ∧ Hs h0 h' []) := by
  have S := Hs.start w
  refine Fn_K rfl Tryz.func191 rfl rfl ?_
  all_goals (repeat' (first | refine K_seq ?_ | refine k_cond rfl ?_ | refine K_skip ?_ | refine K_exit ?_ | refine k_block ?_ | refine K_scope ?_ | (refine K_region (id := 0) ?_; refine mv ?_; refine KO_nil ?_) | (refine K_region (id := 1) ?_; (first | refine lB S rfl rfl ?_ | refine lES2 S rfl rfl ?_ | refine lEB S ?_ | refine lH S ?_); refine mv ?_; (first | refine sb ?_ | refine vl ?_); (first | refine lB S rfl rfl ?_ | refine lES2 S rfl rfl ?_ | refine lEB S ?_ | refine lH S ?_); (first | refine ad ?_ | refine vl ?_); (first | refine lB S rfl rfl ?_ | refine lES2 S rfl rfl ?_ | refine lEB S ?_ | refine lH S ?_); (first | refine rm ?_ | refine vl ?_); refine mv ?_; refine KO_nil ?_)))
  refine K_ret ⟨_, rfl, ?_⟩
  exact ⟨rfl, S⟩
def RMp (A : Int) (b2 : Nat) (N : Nat) (fs : List FV) : AH → Fp → Prop := fun h fp => fp b2 ∧ h.get b2 = some (.cells [.int .i64 A] 3 none false) ∧ MvR A N (rgv A) fs h fp
theorem RMp.ok {A : Int} {b2 N : Nat} {fs : List FV} {h : AH} {fp : Fp} (m : RMp A b2 N fs h fp) : (Rs.any (RMp A b2 N fs)).ok h fp := fun h' q => ⟨m.1, (q _ m.1).trans m.2.1, MvR.ok m.2.2 h' q⟩
theorem roundMoves_ok {h0 : AH} (w : WfH h0) (A B : Int) (hA : 1 ≤ A ∧ A ≤ 24) : Fn Tryz.prog Xh 147 [.int .i64 A, .int .i64 B] h0 (fun v h' => ∃ fs : List FV, Hs h0 h' [.sl v 152 1 eF fs, .any (MvR A (2 * A).toNat (rgv A) fs)]) := by
  have S := Hs.start w
  refine Fn_K rfl Tryz.func147 rfl rfl ?_
  all_goals (repeat' (first | refine K_seq ?_ | refine k_cond rfl ?_ | refine K_skip ?_ | refine K_exit ?_ | refine k_block ?_ | refine K_scope ?_ | (refine K_region (id := 0) ?_; (refine bx S ?_; clear S; intro b h S); refine mv ?_; refine KO_nil ?_) | (refine K_region (id := 1) ?_; refine mv ?_; refine KO_nil ?_) | (refine K_region (id := 2) ?_; (first | refine lB S rfl rfl ?_ | refine lES2 S rfl rfl ?_ | refine lEB S ?_ | refine lH S ?_); refine mv ?_; refine KO_nil ?_)))
  obtain ⟨b2, hnm⟩ : ∃ x, x = b := ⟨_, rfl⟩; subst hnm
  replace S := (S.conv (r' := .any (RMp A b2 0 [])) fun fp q => RMp.ok ⟨q.2, q.1, rfl, fun j hj => absurd hj (Nat.not_lt_zero _)⟩).nilS (e := 152) (z := 1) (enc := eF)
  refine k_loop (σ := Nat × Value) (fun (r, vs) h' => ∃ fs : List FV, Hs h0 h' [.sl vs 152 1 eF fs, .any (RMp A b2 (2 * r) fs)] ∧ (r : Int) ≤ A ∧ fs.length = 2 * r) (fun (r, vs) => A.toNat - r) (fun (r, vs) => [(2, .pointer (some ⟨b2, 0, none⟩)), (5, vs), (7, .int .i64 A), (8, .int .i64 r)]) (0, .slice none 0 0) (by repeat (first | exact Ks.le_nil _ | refine Ks.le_cons rfl ?_ | refine Ks.le_int ?_)) ?_ ?_
  · exact ⟨[], S, by omega, rfl⟩
  clear S
  rintro ⟨r, vs⟩ h ⟨fs, S, hr, hl⟩
  all_goals (repeat' (first | refine K_seq ?_ | refine k_cond rfl ?_ | refine K_skip ?_ | refine K_exit ?_ | refine k_block ?_ | refine K_scope ?_ | (refine K_region (id := 3) ?_; (first | refine cT ?_ | refine cF ?_ | (refine cS ?_ ?_ <;> intro hc)) <;> (refine KO_nil ?_)) | (refine K_region (id := 4) ?_; refine mv ?_; (refine al S ?_; clear S; intro b h S); (first | (refine sB S rfl rfl ?_; clear S; intro h S) | (refine sE2 S rfl rfl ?_; clear S; intro h S)); refine KO_nil ?_) | (refine K_region (id := 5) ?_; refine mv ?_; refine vl ?_; refine vl ?_) | (refine K_region (id := 7) ?_; refine mv ?_; refine mv ?_; refine KO_nil ?_)))
  · obtain ⟨b6, hnm⟩ : ∃ x, x = b := ⟨_, rfl⟩; subst hnm
    refine bsn' (z := 1) eF [(190, #[.pointer (some ⟨b6, 0, none⟩), .pointer (some ⟨b2, 0, none⟩)]), (191, #[.pointer (some ⟨b6, 0, none⟩), .pointer (some ⟨b2, 0, none⟩)])] S ?_; clear S; intro u2 h S
    refine apd S rfl rfl (Rd.of_sl S .here) ?_; clear S; intro v2 h S
    replace S := ((S.del (.there .here)).front (.there (.there .here))).front (.there (.there .here))
    replace S := (S.merge (r := .any (RMp A b2 (2 * (r + 1)) (fs ++ [(190, #[.pointer (some ⟨b6, 0, none⟩), .pointer (some ⟨b2, 0, none⟩)]), (191, #[.pointer (some ⟨b6, 0, none⟩), .pointer (some ⟨b2, 0, none⟩)])]))) fun fp1 fp2 q1 q2 => by
      obtain ⟨a1, a2⟩ := q1
      obtain ⟨c1, c2, c3, c4⟩ := q2 h fun _ _ => rfl
      refine RMp.ok ⟨.inr c1, c2, by simp only [List.length_append, List.length_cons, List.length_nil]; omega, fun j hj => ?_⟩
      by_cases q : j < 2 * r
      · rw [gA1 (by omega)]
        exact (c4 j q).mono fun b hb => .inr hb
      · rw [gA2 (by omega), hl]
        by_cases q0 : j = 2 * r
        · subst q0
          rw [Nat.sub_self]
          intro h2 w2 ag k k1 k2
          refine (rm1_ok w2 (k := k) (r := r) (A := A) ((ag b6 (.inl a2)).trans a1) ((ag b2 (.inr c1)).trans c2) ⟨k1, k2⟩ (by omega) hA.2).mono fun v h3 q => ⟨?_, q.2⟩
          rw [q.1]; unfold rgv; rw [if_pos (by omega), show 2 * r / 2 = r by omega]
        · have q1 : j = 2 * r + 1 := by omega
          subst q1
          rw [show 2 * r + 1 - 2 * r = 1 by omega]
          intro h2 w2 ag k k1 k2
          refine (rm2_ok w2 (k := k) (r := r) (A := A) ((ag b6 (.inl a2)).trans a1) ((ag b2 (.inr c1)).trans c2) ⟨k1, k2⟩ (by omega) hA.2).mono fun v h3 q => ⟨?_, q.2⟩
          rw [q.1]; unfold rgv; rw [if_neg (by omega), show (2 * r + 1) / 2 = r by omega]).front (.there .here)
    refine mv ?_; refine KO_nil ?_
    all_goals (repeat' (first | refine K_seq ?_ | refine k_cond rfl ?_ | refine K_skip ?_ | refine K_exit ?_ | refine k_block ?_ | refine K_scope ?_ | (refine K_region (id := 6) ?_; (first | refine ad ?_ | refine vl ?_); refine mv ?_; refine KO_nil ?_)))
    refine ⟨(r + 1, v2), ?_, ?_, (by repeat (first | exact Ks.le_nil _ | refine Ks.le_cons rfl ?_ | refine Ks.le_int ?_))⟩
    · show A.toNat - (r + 1) < A.toNat - r; omega
    · exact ⟨_, S, by omega, by simp only [List.length_append, List.length_cons, List.length_nil]; omega⟩
  · all_goals (repeat' (first | refine K_seq ?_ | refine k_cond rfl ?_ | refine K_skip ?_ | refine K_exit ?_ | refine k_block ?_ | refine K_scope ?_ | (refine K_region (id := 6) ?_; (first | refine ad ?_ | refine vl ?_); refine mv ?_; refine KO_nil ?_)))
    refine K_ret ⟨_, rfl, ?_⟩
    have e : (2 * A).toNat = 2 * r := by omega
    rw [e]
    exact ⟨fs, ((S.front (.there .here)).conv fun fp q => MvR.ok (q _ fun _ _ => rfl).2.2).front (.there .here)⟩

/-! the other shapes -/
/-- Blocks of one's own. -/
def BL (bl : List (Nat × List Value × TypeId)) : AH → Fp → Prop := fun h fp => ∀ x, x ∈ bl → h.get x.1 = some (.cells x.2.1 x.2.2 none false) ∧ fp x.1
theorem Hs.mergeB {h0 h : AH} {rs : List Rs} {b : Nat} {c : List Value} {e : TypeId} {bl : List (Nat × List Value × TypeId)} (S : Hs h0 h (.blk b c e :: .any (BL bl) :: rs)) : Hs h0 h (.any (BL ((b, c, e) :: bl)) :: rs) :=
  S.merge fun fp1 fp2 q1 q2 h' ag x hx => by
    rcases List.mem_cons.1 hx with rfl | hx
    · exact ⟨(ag _ (.inl q1.2)).trans q1.1, .inl q1.2⟩
    · have := q2 h (fun _ _ => rfl) x hx
      exact ⟨(ag _ (.inr this.2)).trans this.1, .inr this.2⟩
theorem Hs.blNil {h0 h : AH} {rs : List Rs} (S : Hs h0 h rs) : Hs h0 h (.any (BL []) :: rs) := S.anyS fun h' x hx => by cases hx
theorem same_ok0 {h0 : AH} (w : WfH h0) (k : Int) : Fn Tryz.prog Xh 196 [.int .i64 k] h0 (fun v h' => v = .int .i64 k ∧ Hs h0 h' []) := by
  have S := Hs.start w
  refine Fn_K rfl Tryz.func196 rfl rfl ?_
  all_goals (repeat' (first | refine K_seq ?_ | refine k_cond rfl ?_ | refine K_skip ?_ | refine K_exit ?_ | refine k_block ?_ | refine K_scope ?_ | (refine K_region (id := 0) ?_; refine mv ?_; refine KO_nil ?_) | (refine K_region (id := 1) ?_; refine mv ?_; refine mv ?_; refine KO_nil ?_)))
  refine K_ret ⟨_, rfl, ?_⟩
  exact ⟨rfl, S⟩
def hdP (a b k : Int) : Prop := (0 < b ∧ k = a) ∨ (b = 2 ∧ k = 2 * a + 1)
instance (a b k : Int) : Decidable (hdP a b k) := by unfold hdP; infer_instance
def sdF (a b k : Int) : Int := if hdP a b k then k else (a + min b 1) + a - 1 - k
def enF (a b k : Int) : Int := if hdP a b k then 3 * a + 1 - k else if k < a then a - 1 - k else 2 * (a + min b 1) + a - 1 - k
abbrev PT (b : Nat) : Value := .pointer (some ⟨b, 0, none⟩)
theorem lm1_ok {h0 : AH} (w : WfH h0) {k a b : Int} {b3 b2 : Nat} (h1 : h0.get b3 = some (.cells [.int .i64 b] 3 none false)) (h2 : h0.get b2 = some (.cells [.int .i64 a] 3 none false)) (hk : -1000 ≤ k ∧ k ≤ 1000) (ha : 0 ≤ a ∧ a ≤ 24) (hb : 0 ≤ b ∧ b ≤ 2) :
    Fn Tryz.prog Xh 193 [.int .i64 k, PT b3, PT b2] h0 (fun v h' => BoolIs v (hdP a b k) ∧ Hs h0 h' []) := by
  have S := Hs.start w
  refine Fn_K rfl Tryz.func193 rfl rfl ?_
  all_goals (repeat' (first | refine K_seq ?_ | refine k_cond rfl ?_ | refine K_skip ?_ | refine K_exit ?_ | refine k_block ?_ | refine K_scope ?_ | (refine K_region (id := 0) ?_; refine mv ?_; refine KO_nil ?_) | (refine K_region (id := 1) ?_; (first | refine lB S rfl rfl ?_ | refine lES2 S rfl rfl ?_ | refine lEB S ?_ | refine lH S ?_); (first | refine cT ?_ | refine cF ?_ | (refine cS ?_ ?_ <;> intro hc)) <;> (refine mv ?_; (first | refine off ?_ | refine mv ?_); (first | refine off ?_ | (first | refine lB S rfl rfl ?_ | refine lES2 S rfl rfl ?_ | refine lEB S ?_ | refine lH S ?_)); (first | refine off ?_ | (first | refine cT ?_ | refine cF ?_ | (refine cS ?_ ?_ <;> intro hc))) <;> (refine vl ?_; refine mv ?_; (first | refine off ?_ | (first | refine lB S rfl rfl ?_ | refine lES2 S rfl rfl ?_ | refine lEB S ?_ | refine lH S ?_)); (first | refine off ?_ | (first | refine cT ?_ | refine cF ?_ | (refine cS ?_ ?_ <;> intro hc))) <;> ((first | refine off ?_ | refine mv ?_); (first | refine off ?_ | refine mv ?_); (first | refine off ?_ | (first | refine lB S rfl rfl ?_ | refine lES2 S rfl rfl ?_ | refine lEB S ?_ | refine lH S ?_)); (first | refine off ?_ | (first | refine ml ?_ | refine vl ?_)); (first | refine off ?_ | (first | refine ad ?_ | refine vl ?_)); (first | refine off ?_ | (first | refine cT ?_ | refine cF ?_ | (refine cS ?_ ?_ <;> intro hc))) <;> ((first | refine off ?_ | refine vl ?_); refine vl ?_; refine mv ?_; refine KO_nil ?_)))))))
  all_goals (refine K_ret ⟨_, rfl, ?_⟩)
  all_goals (first | exact ⟨.inl ⟨rfl, by unfold hdP; omega⟩, S⟩ | exact ⟨.inr ⟨rfl, by unfold hdP; omega⟩, S⟩)
abbrev hdV (b3 b2 : Nat) : Value := .func (.func 193) #[] #[PT b3, PT b2]
theorem lm2_ok {h0 : AH} (w : WfH h0) {k a b s : Int} {b6 b5 b3 b2 : Nat} (h6 : h0.get b6 = some (.cells [hdV b3 b2] 90 none false)) (h5 : h0.get b5 = some (.cells [.int .i64 s] 3 none false)) (h1 : h0.get b3 = some (.cells [.int .i64 b] 3 none false)) (h2 : h0.get b2 = some (.cells [.int .i64 a] 3 none false)) (hk : -1000 ≤ k ∧ k ≤ 1000) (ha : 0 ≤ a ∧ a ≤ 24) (hb : 0 ≤ b ∧ b ≤ 2) (hs : s = a + min b 1) :
    Fn Tryz.prog Xh 194 [.int .i64 k, PT b6, PT b5, PT b2] h0 (fun v h' => v = .int .i64 (sdF a b k) ∧ Hs h0 h' []) := by
  have S := Hs.start w
  refine Fn_K rfl Tryz.func194 rfl rfl ?_
  all_goals (repeat' (first | refine K_seq ?_ | refine k_cond rfl ?_ | refine K_skip ?_ | refine K_exit ?_ | refine k_block ?_ | refine K_scope ?_ | (refine K_region (id := 0) ?_; refine mv ?_; refine KO_nil ?_) | (refine K_region (id := 1) ?_; (first | refine lB S rfl rfl ?_ | refine lES2 S rfl rfl ?_ | refine lEB S ?_ | refine lH S ?_); refine mv ?_)))
  (refine KO_call rfl rfl rfl rfl ((lm1_ok S.wf (S.ext.get w h1) (S.ext.get w h2) hk ha hb).mono ?_); rintro _ h ⟨⟨rfl, hq⟩ | ⟨rfl, hq⟩, x⟩) <;> (replace S := S.join0 x; clear x; refine KO_nil ?_)
  · all_goals (repeat' (first | refine K_seq ?_ | refine k_cond rfl ?_ | refine K_skip ?_ | refine K_exit ?_ | refine k_block ?_ | refine K_scope ?_ | (refine K_region (id := 2) ?_; refine mv ?_; refine mv ?_; refine KO_nil ?_) | (refine K_region (id := 3) ?_; (first | refine lB S rfl rfl ?_ | refine lES2 S rfl rfl ?_ | refine lEB S ?_ | refine lH S ?_); (first | refine lB S rfl rfl ?_ | refine lES2 S rfl rfl ?_ | refine lEB S ?_ | refine lH S ?_); (first | refine ad ?_ | refine vl ?_); (first | refine sb ?_ | refine vl ?_); refine mv ?_; (first | refine sb ?_ | refine vl ?_); refine mv ?_; refine KO_nil ?_)))
    refine K_ret ⟨_, rfl, ?_⟩
    exact ⟨by unfold sdF; rw [if_pos hq]; rfl, S⟩
  · all_goals (repeat' (first | refine K_seq ?_ | refine k_cond rfl ?_ | refine K_skip ?_ | refine K_exit ?_ | refine k_block ?_ | refine K_scope ?_ | (refine K_region (id := 2) ?_; refine mv ?_; refine mv ?_; refine KO_nil ?_) | (refine K_region (id := 3) ?_; (first | refine lB S rfl rfl ?_ | refine lES2 S rfl rfl ?_ | refine lEB S ?_ | refine lH S ?_); (first | refine lB S rfl rfl ?_ | refine lES2 S rfl rfl ?_ | refine lEB S ?_ | refine lH S ?_); (first | refine ad ?_ | refine vl ?_); (first | refine sb ?_ | refine vl ?_); refine mv ?_; (first | refine sb ?_ | refine vl ?_); refine mv ?_; refine KO_nil ?_)))
    refine K_ret ⟨_, rfl, ?_⟩
    exact ⟨by unfold sdF; rw [if_neg hq, hs]; rfl, S⟩
theorem lm3_ok {h0 : AH} (w : WfH h0) {k a b s : Int} {b6 b5 b3 b2 : Nat} (h6 : h0.get b6 = some (.cells [hdV b3 b2] 90 none false)) (h5 : h0.get b5 = some (.cells [.int .i64 s] 3 none false)) (h1 : h0.get b3 = some (.cells [.int .i64 b] 3 none false)) (h2 : h0.get b2 = some (.cells [.int .i64 a] 3 none false)) (hk : -1000 ≤ k ∧ k ≤ 1000) (ha : 0 ≤ a ∧ a ≤ 24) (hb : 0 ≤ b ∧ b ≤ 2) (hs : s = a + min b 1) :
    Fn Tryz.prog Xh 195 [.int .i64 k, PT b6, PT b2, PT b5] h0 (fun v h' => v = .int .i64 (enF a b k) ∧ Hs h0 h' []) := by
  have S := Hs.start w
  refine Fn_K rfl Tryz.func195 rfl rfl ?_
  all_goals (repeat' (first | refine K_seq ?_ | refine k_cond rfl ?_ | refine K_skip ?_ | refine K_exit ?_ | refine k_block ?_ | refine K_scope ?_ | (refine K_region (id := 0) ?_; refine mv ?_; refine KO_nil ?_) | (refine K_region (id := 1) ?_; (first | refine lB S rfl rfl ?_ | refine lES2 S rfl rfl ?_ | refine lEB S ?_ | refine lH S ?_); refine mv ?_)))
  (refine KO_call rfl rfl rfl rfl ((lm1_ok S.wf (S.ext.get w h1) (S.ext.get w h2) hk ha hb).mono ?_); rintro _ h ⟨⟨rfl, hq⟩ | ⟨rfl, hq⟩, x⟩) <;> (replace S := S.join0 x; clear x; refine mv ?_; refine KO_nil ?_)
  · all_goals (repeat' (first | refine K_seq ?_ | refine k_cond rfl ?_ | refine K_skip ?_ | refine K_exit ?_ | refine k_block ?_ | refine K_scope ?_ | (refine K_region (id := 2) ?_; (first | refine lB S rfl rfl ?_ | refine lES2 S rfl rfl ?_ | refine lEB S ?_ | refine lH S ?_); (first | refine ml ?_ | refine vl ?_); (first | refine ad ?_ | refine vl ?_); refine mv ?_; (first | refine sb ?_ | refine vl ?_); refine mv ?_; refine KO_nil ?_) | (refine K_region (id := 3) ?_; refine mv ?_; (first | refine lB S rfl rfl ?_ | refine lES2 S rfl rfl ?_ | refine lEB S ?_ | refine lH S ?_); (first | refine cT ?_ | refine cF ?_ | (refine cS ?_ ?_ <;> intro hc)) <;> (refine mv ?_; refine KO_nil ?_)) | (refine K_region (id := 4) ?_; (first | refine lB S rfl rfl ?_ | refine lES2 S rfl rfl ?_ | refine lEB S ?_ | refine lH S ?_); (first | refine sb ?_ | refine vl ?_); refine mv ?_; (first | refine sb ?_ | refine vl ?_); refine mv ?_; refine KO_nil ?_) | (refine K_region (id := 5) ?_; (first | refine lB S rfl rfl ?_ | refine lES2 S rfl rfl ?_ | refine lEB S ?_ | refine lH S ?_); (first | refine ml ?_ | refine vl ?_); (first | refine lB S rfl rfl ?_ | refine lES2 S rfl rfl ?_ | refine lEB S ?_ | refine lH S ?_); (first | refine ad ?_ | refine vl ?_); (first | refine sb ?_ | refine vl ?_); refine mv ?_; (first | refine sb ?_ | refine vl ?_); refine mv ?_; refine KO_nil ?_)))
    refine K_ret ⟨_, rfl, ?_⟩
    exact ⟨by unfold enF; rw [if_pos hq]; rfl, S⟩
  · all_goals (repeat' (first | refine K_seq ?_ | refine k_cond rfl ?_ | refine K_skip ?_ | refine K_exit ?_ | refine k_block ?_ | refine K_scope ?_ | (refine K_region (id := 2) ?_; (first | refine lB S rfl rfl ?_ | refine lES2 S rfl rfl ?_ | refine lEB S ?_ | refine lH S ?_); (first | refine ml ?_ | refine vl ?_); (first | refine ad ?_ | refine vl ?_); refine mv ?_; (first | refine sb ?_ | refine vl ?_); refine mv ?_; refine KO_nil ?_) | (refine K_region (id := 3) ?_; refine mv ?_; (first | refine lB S rfl rfl ?_ | refine lES2 S rfl rfl ?_ | refine lEB S ?_ | refine lH S ?_); (first | refine cT ?_ | refine cF ?_ | (refine cS ?_ ?_ <;> intro hc)) <;> (refine mv ?_; refine KO_nil ?_)) | (refine K_region (id := 4) ?_; (first | refine lB S rfl rfl ?_ | refine lES2 S rfl rfl ?_ | refine lEB S ?_ | refine lH S ?_); (first | refine sb ?_ | refine vl ?_); refine mv ?_; (first | refine sb ?_ | refine vl ?_); refine mv ?_; refine KO_nil ?_) | (refine K_region (id := 5) ?_; (first | refine lB S rfl rfl ?_ | refine lES2 S rfl rfl ?_ | refine lEB S ?_ | refine lH S ?_); (first | refine ml ?_ | refine vl ?_); (first | refine lB S rfl rfl ?_ | refine lES2 S rfl rfl ?_ | refine lEB S ?_ | refine lH S ?_); (first | refine ad ?_ | refine vl ?_); (first | refine sb ?_ | refine vl ?_); refine mv ?_; (first | refine sb ?_ | refine vl ?_); refine mv ?_; refine KO_nil ?_)))
    · refine K_ret ⟨_, rfl, ?_⟩
      exact ⟨by unfold enF; rw [if_neg hq, if_pos (by omega)]; rfl, S⟩
    · refine K_ret ⟨_, rfl, ?_⟩
      exact ⟨by unfold enF; rw [if_neg hq, if_neg (by omega), hs]; rfl, S⟩
abbrev sdV (b6 b5 b2 : Nat) : Value := .func (.func 194) #[] #[PT b6, PT b5, PT b2]
abbrev enV (b6 b2 b5 : Nat) : Value := .func (.func 195) #[] #[PT b6, PT b2, PT b5]
theorem lm4_ok {h0 : AH} (w : WfH h0) {k a b s : Int} {b8 b7 b6 b5 b3 b2 : Nat} (h8 : h0.get b8 = some (.cells [enV b6 b2 b5] 152 none false)) (h7 : h0.get b7 = some (.cells [sdV b6 b5 b2] 152 none false)) (h6 : h0.get b6 = some (.cells [hdV b3 b2] 90 none false)) (h5 : h0.get b5 = some (.cells [.int .i64 s] 3 none false)) (h1 : h0.get b3 = some (.cells [.int .i64 b] 3 none false)) (h2 : h0.get b2 = some (.cells [.int .i64 a] 3 none false)) (hk : 0 ≤ k ∧ k ≤ 100) (ha : 0 ≤ a ∧ a ≤ 24) (hb : 0 ≤ b ∧ b ≤ 2) (hs : s = a + min b 1) :
    Fn Tryz.prog Xh 197 [.int .i64 k, PT b7, PT b8] h0 (fun v h' => v = .int .i64 (sdF a b (enF a b k)) ∧ Hs h0 h' []) := by
  have S := Hs.start w
  have he : -1000 ≤ enF a b k ∧ enF a b k ≤ 1000 := by unfold enF; split <;> (try split) <;> omega
  refine Fn_K rfl Tryz.func197 rfl rfl ?_
  all_goals (repeat' (first | refine K_seq ?_ | refine k_cond rfl ?_ | refine K_skip ?_ | refine K_exit ?_ | refine k_block ?_ | refine K_scope ?_ | (refine K_region (id := 0) ?_; refine mv ?_; refine KO_nil ?_)))
  refine K_drawX (id := 1) [(0, (0, 1))] [some (b7)] ?_; refine KX_cons ?_; (first | (refine lB S rfl rfl ?_ <;> refine KO_nil ⟨⟨by (first | exact True.intro | exact Or.inl rfl | exact Or.inr rfl | exact Or.inr (congrArg some (blkOf_elA _ _ _ _)) | exact ⟨Or.inl rfl, rfl⟩ | exact ⟨Or.inr rfl, rfl⟩), rfl⟩, ?_⟩) | (refine lES2 S rfl rfl ?_ <;> refine KO_nil ⟨⟨by (first | exact True.intro | exact Or.inl rfl | exact Or.inr rfl | exact Or.inr (congrArg some (blkOf_elA _ _ _ _)) | exact ⟨Or.inl rfl, rfl⟩ | exact ⟨Or.inr rfl, rfl⟩), rfl⟩, ?_⟩) | (refine lEB S ?_ <;> refine KO_nil ⟨⟨by (first | exact True.intro | exact Or.inl rfl | exact Or.inr rfl | exact Or.inr (congrArg some (blkOf_elA _ _ _ _)) | exact ⟨Or.inl rfl, rfl⟩ | exact ⟨Or.inr rfl, rfl⟩), rfl⟩, ?_⟩) | (refine lH S ?_ <;> refine KO_nil ⟨⟨by (first | exact True.intro | exact Or.inl rfl | exact Or.inr rfl | exact Or.inr (congrArg some (blkOf_elA _ _ _ _)) | exact ⟨Or.inl rfl, rfl⟩ | exact ⟨Or.inr rfl, rfl⟩), rfl⟩, ?_⟩)); refine KX_cons ?_; (first | (refine lB S rfl rfl ?_ <;> refine KO_nil ⟨⟨by (first | exact True.intro | exact Or.inl rfl | exact Or.inr rfl | exact Or.inr (congrArg some (blkOf_elA _ _ _ _)) | exact ⟨Or.inl rfl, rfl⟩ | exact ⟨Or.inr rfl, rfl⟩), rfl⟩, ?_⟩) | (refine lES2 S rfl rfl ?_ <;> refine KO_nil ⟨⟨by (first | exact True.intro | exact Or.inl rfl | exact Or.inr rfl | exact Or.inr (congrArg some (blkOf_elA _ _ _ _)) | exact ⟨Or.inl rfl, rfl⟩ | exact ⟨Or.inr rfl, rfl⟩), rfl⟩, ?_⟩) | (refine lEB S ?_ <;> refine KO_nil ⟨⟨by (first | exact True.intro | exact Or.inl rfl | exact Or.inr rfl | exact Or.inr (congrArg some (blkOf_elA _ _ _ _)) | exact ⟨Or.inl rfl, rfl⟩ | exact ⟨Or.inr rfl, rfl⟩), rfl⟩, ?_⟩) | (refine lH S ?_ <;> refine KO_nil ⟨⟨by (first | exact True.intro | exact Or.inl rfl | exact Or.inr rfl | exact Or.inr (congrArg some (blkOf_elA _ _ _ _)) | exact ⟨Or.inl rfl, rfl⟩ | exact ⟨Or.inr rfl, rfl⟩), rfl⟩, ?_⟩)); refine KX_cons ?_; (first | (refine mv ?_ <;> refine KO_nil ⟨⟨by (first | exact True.intro | exact Or.inl rfl | exact Or.inr rfl | exact Or.inr (congrArg some (blkOf_elA _ _ _ _)) | exact ⟨Or.inl rfl, rfl⟩ | exact ⟨Or.inr rfl, rfl⟩), rfl⟩, ?_⟩))
  ((refine KX_cons ?_; first | refine KO_call rfl rfl rfl rfl ((lm3_ok S.wf (S.ext.get w h6) (S.ext.get w h5) (S.ext.get w h1) (S.ext.get w h2) ⟨by omega, by omega⟩ ha hb hs).mono ?_)); rintro _ h ⟨rfl, x⟩) <;> ((refine KO_nil ⟨⟨True.intro, ?_⟩, ?_⟩; (focus ((show keepsX _ _ _ _ _; simp only [keepsX]; (repeat' (first | exact True.intro | refine And.intro ?_ ?_)); all_goals (intro hw; first | exact True.intro | exact rfl | exact x.ext.old _ S.bB | exact x.ext.old _ (S.bR (by first | omega | grind)) | exact x.ext.old _ (S.bX (by assumption) (by assumption) (by first | omega | grind)) | exact x.ext.old _ (S.bY (by assumption) (by assumption)) | (refine x.ext.old _ ?_; assumption) | exact absurd hw (by decide +kernel)))))); replace S := S.join0 x; clear x)
  ((refine KX_cons ?_; first | refine KO_call rfl rfl rfl rfl ((lm2_ok S.wf (S.ext.get w h6) (S.ext.get w h5) (S.ext.get w h1) (S.ext.get w h2) he ha hb hs).mono ?_)); rintro _ h ⟨rfl, x⟩) <;> ((refine KO_nil ⟨⟨True.intro, ?_⟩, ?_⟩; (focus ((show keepsX _ _ _ _ _; simp only [keepsX]; (repeat' (first | exact True.intro | refine And.intro ?_ ?_)); all_goals (intro hw; first | exact True.intro | exact rfl | exact x.ext.old _ S.bB | exact x.ext.old _ (S.bR (by first | omega | grind)) | exact x.ext.old _ (S.bX (by assumption) (by assumption) (by first | omega | grind)) | exact x.ext.old _ (S.bY (by assumption) (by assumption)) | (refine x.ext.old _ ?_; assumption) | exact absurd hw (by decide +kernel)))))); replace S := S.join0 x; clear x; refine KX_cons ?_; (first | (refine mv ?_ <;> refine KO_nil ⟨⟨by (first | exact True.intro | exact Or.inl rfl | exact Or.inr rfl | exact Or.inr (congrArg some (blkOf_elA _ _ _ _)) | exact ⟨Or.inl rfl, rfl⟩ | exact ⟨Or.inr rfl, rfl⟩), rfl⟩, ?_⟩)); refine KX_nil ?_)
  all_goals (repeat' (first | refine K_seq ?_ | refine k_cond rfl ?_ | refine K_skip ?_ | refine K_exit ?_ | refine k_block ?_ | refine K_scope ?_ | (refine K_region (id := 0) ?_; refine mv ?_; refine KO_nil ?_)))
  refine K_ret ⟨_, rfl, ?_⟩
  exact ⟨rfl, S⟩
theorem sm_ok {h0 : AH} (w : WfH h0) {k a b : Int} {b3 b2 : Nat} (h1 : h0.get b3 = some (.cells [.int .i64 b] 3 none false)) (h2 : h0.get b2 = some (.cells [.int .i64 a] 3 none false)) (hk : 0 ≤ k ∧ k ≤ 100) (ha : 0 ≤ a ∧ a ≤ 24) (hb : 0 ≤ b ∧ b ≤ 24) :
    Fn Tryz.prog Xh 198 [.int .i64 k, PT b2, PT b3] h0 (fun v h' => v = .int .i64 (a + 2 * b - 1 - k) ∧ Hs h0 h' []) := by
  have S := Hs.start w
  refine Fn_K rfl Tryz.func198 rfl rfl ?_
  all_goals (repeat' (first | refine K_seq ?_ | refine k_cond rfl ?_ | refine K_skip ?_ | refine K_exit ?_ | refine k_block ?_ | refine K_scope ?_ | (refine K_region (id := 0) ?_; refine mv ?_; refine KO_nil ?_) | (refine K_region (id := 1) ?_; (first | refine lB S rfl rfl ?_ | refine lES2 S rfl rfl ?_ | refine lEB S ?_ | refine lH S ?_); (first | refine lB S rfl rfl ?_ | refine lES2 S rfl rfl ?_ | refine lEB S ?_ | refine lH S ?_); (first | refine ml ?_ | refine vl ?_); (first | refine ad ?_ | refine vl ?_); (first | refine sb ?_ | refine vl ?_); refine mv ?_; (first | refine sb ?_ | refine vl ?_); refine mv ?_; refine KO_nil ?_)))
  refine K_ret ⟨_, rfl, ?_⟩
  exact ⟨rfl, S⟩
theorem wm_ok {h0 : AH} (w : WfH h0) {k a : Int} {b2 : Nat} (h2 : h0.get b2 = some (.cells [.int .i64 a] 3 none false)) (hk : 0 ≤ k ∧ k ≤ 100) (ha : 0 ≤ a ∧ a ≤ 24) :
    Fn Tryz.prog Xh 199 [.int .i64 k, PT b2] h0 (fun v h' => v = .int .i64 (a - 1 - k) ∧ Hs h0 h' []) := by
  have S := Hs.start w
  refine Fn_K rfl Tryz.func199 rfl rfl ?_
  all_goals (repeat' (first | refine K_seq ?_ | refine k_cond rfl ?_ | refine K_skip ?_ | refine K_exit ?_ | refine k_block ?_ | refine K_scope ?_ | (refine K_region (id := 0) ?_; refine mv ?_; refine KO_nil ?_) | (refine K_region (id := 1) ?_; (first | refine lB S rfl rfl ?_ | refine lES2 S rfl rfl ?_ | refine lEB S ?_ | refine lH S ?_); (first | refine sb ?_ | refine vl ?_); refine mv ?_; (first | refine sb ?_ | refine vl ?_); refine mv ?_; refine KO_nil ?_)))
  refine K_ret ⟨_, rfl, ?_⟩
  exact ⟨rfl, S⟩
/-- The number of moves of a table, and the moves. -/
def mvn (t : Tab) : Nat := if t.shape = 1 then (2 * t.A).toNat else if t.shape = 2 then (if t.B = 1 then 2 else 4) else 2
def mvg (t : Tab) (j : Nat) (k : Int) : Int :=
  if t.shape = 1 then rgv t.A j k
  else if t.shape = 2 then (match j with | 0 => k | 1 => sdF t.A t.B k | 2 => enF t.A t.B k | _ => sdF t.A t.B (enF t.A t.B k))
  else (match j with | 0 => k | _ => tsize t - 1 - k)
abbrev MovR (t : Tab) (fs : List FV) : AH → Fp → Prop := MvR (tsize t) (mvn t) (mvg t) fs
theorem roundMoves_okT {h0 : AH} (w : WfH h0) (t : Tab) (hs : TabS t) (q : t.shape = 1) : Fn Tryz.prog Xh 147 [.int .i64 t.A, .int .i64 t.B] h0 (fun v h' => ∃ fs : List FV, Hs h0 h' [.sl v 152 1 eF fs, .any (MovR t fs)]) := by
  have k := hs.s1 q
  refine (roundMoves_ok w t.A t.B ⟨k.1, k.2.1⟩).mono fun v h' ⟨fs, S⟩ => ⟨fs, ?_⟩
  have e1 : tsize t = t.A := k.2.2.2
  have e2 : mvn t = (2 * t.A).toNat := by unfold mvn; rw [if_pos q]
  have e3 : mvg t = rgv t.A := by funext j k; unfold mvg; rw [if_pos q]
  unfold MovR
  rw [e1, e2, e3]
  exact S
theorem shoeMoves_okT {h0 : AH} (w : WfH h0) (t : Tab) (hs : TabS t) (q : t.shape = 3) : Fn Tryz.prog Xh 157 [.int .i64 t.A, .int .i64 t.B] h0 (fun v h' => ∃ fs : List FV, Hs h0 h' [.sl v 152 1 eF fs, .any (MovR t fs)]) := by
  have S := Hs.start w
  have kk := hs.s3 q
  have e2 : mvn t = 2 := by unfold mvn; rw [if_neg (by omega), if_neg (by omega)]
  refine Fn_K rfl Tryz.func157 rfl rfl ?_
  all_goals (repeat' (first | refine K_seq ?_ | refine k_cond rfl ?_ | refine K_skip ?_ | refine K_exit ?_ | refine k_block ?_ | refine K_scope ?_ | (refine K_region (id := 0) ?_; (refine bx S ?_; clear S; intro b h S); (refine bx S ?_; clear S; intro b h S); refine mv ?_; refine KO_nil ?_) | (refine K_region (id := 1) ?_; refine vl ?_)))
  obtain ⟨b3, hnm⟩ : ∃ x, x = b := ⟨_, rfl⟩; subst hnm
  obtain ⟨b2, hnm⟩ : ∃ x, x = b := ⟨_, rfl⟩; subst hnm
  refine bsn' (z := 1) eF [(196, #[]), (198, #[PT b2, PT b3])] S ?_; clear S; intro u2 h S
  refine mv ?_; refine KO_nil ?_
  all_goals (repeat' (first | refine K_seq ?_ | refine k_cond rfl ?_ | refine K_skip ?_ | refine K_exit ?_ | refine k_block ?_ | refine K_scope ?_))
  refine K_ret ⟨_, rfl, ?_⟩
  refine ⟨[(196, #[]), (198, #[PT b2, PT b3])], ?_⟩
  replace S := (S.blNil.front (.there (.there (.there .here)))).mergeB
  replace S := (S.front (.there (.there .here))).mergeB
  refine (S.conv fun fp q' => ?_).front (.there .here)
  have q1 := q' h fun _ _ => rfl
  have a3 := q1 _ (.head _)
  have a2 := q1 _ (.tail _ (.head _))
  refine MvR.ok ⟨e2.symm, fun j hj => ?_⟩
  rw [e2] at hj
  intro h2 w2 ag k k1 k2
  match j, hj with
  | 0, _ =>
    refine (same_ok0 w2 k).mono fun v h3 z => ⟨?_, z.2⟩
    rw [z.1]; unfold mvg; rw [if_neg (by omega), if_neg (by omega)]; rfl
  | 1, _ =>
    refine (sm_ok w2 (k := k) (a := t.A) (b := t.B) ((ag b3 a3.2).trans a3.1) ((ag b2 a2.2).trans a2.1) ⟨k1, by omega⟩ (by omega) (by omega)).mono fun v h3 z => ⟨?_, z.2⟩
    rw [z.1]; unfold mvg; rw [if_neg (by omega), if_neg (by omega), kk.2.2.2.2]; rfl
theorem rowMoves_okT {h0 : AH} (w : WfH h0) (t : Tab) (hs : TabS t) (q : t.shape = 4) : Fn Tryz.prog Xh 162 [.int .i64 t.A, .int .i64 t.B] h0 (fun v h' => ∃ fs : List FV, Hs h0 h' [.sl v 152 1 eF fs, .any (MovR t fs)]) := by
  have S := Hs.start w
  have kk := hs.s4 q
  have e2 : mvn t = 2 := by unfold mvn; rw [if_neg (by omega), if_neg (by omega)]
  refine Fn_K rfl Tryz.func162 rfl rfl ?_
  all_goals (repeat' (first | refine K_seq ?_ | refine k_cond rfl ?_ | refine K_skip ?_ | refine K_exit ?_ | refine k_block ?_ | refine K_scope ?_ | (refine K_region (id := 0) ?_; (refine bx S ?_; clear S; intro b h S); refine mv ?_; refine KO_nil ?_) | (refine K_region (id := 1) ?_; refine vl ?_)))
  obtain ⟨b2, hnm⟩ : ∃ x, x = b := ⟨_, rfl⟩; subst hnm
  refine bsn' (z := 1) eF [(196, #[]), (199, #[PT b2])] S ?_; clear S; intro u2 h S
  refine mv ?_; refine KO_nil ?_
  all_goals (repeat' (first | refine K_seq ?_ | refine k_cond rfl ?_ | refine K_skip ?_ | refine K_exit ?_ | refine k_block ?_ | refine K_scope ?_))
  refine K_ret ⟨_, rfl, ?_⟩
  refine ⟨[(196, #[]), (199, #[PT b2])], ?_⟩
  replace S := (S.blNil.front (.there (.there .here))).mergeB
  refine (S.conv fun fp q' => ?_).front (.there .here)
  have q1 := q' h fun _ _ => rfl
  have a2 := q1 _ (.head _)
  refine MvR.ok ⟨e2.symm, fun j hj => ?_⟩
  rw [e2] at hj
  intro h2 w2 ag k k1 k2
  match j, hj with
  | 0, _ =>
    refine (same_ok0 w2 k).mono fun v h3 z => ⟨?_, z.2⟩
    rw [z.1]; unfold mvg; rw [if_neg (by omega), if_neg (by omega)]; rfl
  | 1, _ =>
    refine (wm_ok w2 (k := k) (a := t.A) ((ag b2 a2.2).trans a2.1) ⟨k1, by omega⟩ (by omega)).mono fun v h3 z => ⟨?_, z.2⟩
    rw [z.1]; unfold mvg; rw [if_neg (by omega), if_neg (by omega), kk.2.2.2.2]; rfl
def lfs2 (b2 b5 b6 : Nat) : List FV := [(196, #[]), (194, #[PT b6, PT b5, PT b2])]
def lfs3 (b2 b5 b6 b7 b8 : Nat) : List FV := [(195, #[PT b6, PT b2, PT b5]), (197, #[PT b7, PT b8])]
def lbl (a b : Int) (b2 b3 b5 b6 b7 b8 : Nat) : List (Nat × List Value × TypeId) := [(b2, [.int .i64 a], 3), (b3, [.int .i64 b], 3), (b5, [.int .i64 (a + min b 1)], 3), (b6, [hdV b3 b2], 90), (b7, [sdV b6 b5 b2], 152), (b8, [enV b6 b2 b5], 152)]
theorem longMvR {t : Tab} (hs : TabS t) (q : t.shape = 2) {b2 b3 b5 b6 b7 b8 : Nat} {h : AH} {fp : Fp} {fs : List FV} (hf : fs = if t.B = 1 then lfs2 b2 b5 b6 else lfs2 b2 b5 b6 ++ lfs3 b2 b5 b6 b7 b8) (q1 : BL (lbl t.A t.B b2 b3 b5 b6 b7 b8) h fp) : MovR t fs h fp := by
  have kk := hs.s2 q
  obtain ⟨k1, k2, k3, k4, k5⟩ := kk
  have a2 := q1 _ (.head _)
  have a3 := q1 _ (.tail _ (.head _))
  have a5 := q1 _ (.tail _ (.tail _ (.head _)))
  have a6 := q1 _ (.tail _ (.tail _ (.tail _ (.head _))))
  have a7 := q1 _ (.tail _ (.tail _ (.tail _ (.tail _ (.head _)))))
  have a8 := q1 _ (.tail _ (.tail _ (.tail _ (.tail _ (.tail _ (.head _))))))
  have get : ∀ j, j < mvn t → fs.getD j default = (lfs2 b2 b5 b6 ++ lfs3 b2 b5 b6 b7 b8).getD j default := fun j hj => by
    subst hf
    unfold mvn at hj
    rw [if_neg (by omega), if_pos q] at hj
    by_cases hb : t.B = 1
    · rw [if_pos hb] at hj ⊢
      match j, hj with
      | 0, _ => rfl
      | 1, _ => rfl
    · rw [if_neg hb]
  have len : fs.length = mvn t := by
    subst hf
    unfold mvn
    rw [if_neg (show ¬ t.shape = 1 by omega), if_pos q]
    split <;> rfl
  have hn : mvn t ≤ 4 := by unfold mvn; rw [if_neg (by omega), if_pos q]; split <;> omega
  refine ⟨len, fun j hj => ?_⟩
  rw [get j hj]
  intro h2 w2 ag k e1 e2
  have g2 := (ag b2 a2.2).trans a2.1
  have g3 := (ag b3 a3.2).trans a3.1
  have g5 := (ag b5 a5.2).trans a5.1
  have g6 := (ag b6 a6.2).trans a6.1
  have g7 := (ag b7 a7.2).trans a7.1
  have g8 := (ag b8 a8.2).trans a8.1
  have hj4 : j < 4 := by omega
  match j, hj4 with
  | 0, _ =>
    refine (same_ok0 w2 k).mono fun v h3 z => ⟨?_, z.2⟩
    rw [z.1]; unfold mvg; rw [if_neg (by omega), if_pos q]; rfl
  | 1, _ =>
    refine (lm2_ok w2 (k := k) g6 g5 g3 g2 ⟨by omega, by omega⟩ (by omega) ⟨k3, k4⟩ rfl).mono fun v h3 z => ⟨?_, z.2⟩
    rw [z.1]; unfold mvg; rw [if_neg (by omega), if_pos q]; rfl
  | 2, _ =>
    refine (lm3_ok w2 (k := k) g6 g5 g3 g2 ⟨by omega, by omega⟩ (by omega) ⟨k3, k4⟩ rfl).mono fun v h3 z => ⟨?_, z.2⟩
    rw [z.1]; unfold mvg; rw [if_neg (by omega), if_pos q]; rfl
  | 3, _ =>
    refine (lm4_ok w2 (k := k) g8 g7 g6 g5 g3 g2 ⟨by omega, by omega⟩ (by omega) ⟨k3, k4⟩ rfl).mono fun v h3 z => ⟨?_, z.2⟩
    rw [z.1]; unfold mvg; rw [if_neg (by omega), if_pos q]; rfl
theorem longMoves_okT {h0 : AH} (w : WfH h0) (t : Tab) (hs : TabS t) (q : t.shape = 2) : Fn Tryz.prog Xh 152 [.int .i64 t.A, .int .i64 t.B] h0 (fun v h' => ∃ fs : List FV, Hs h0 h' [.sl v 152 1 eF fs, .any (MovR t fs)]) := by
  have S := Hs.start w
  have kk := hs.s2 q
  obtain ⟨k1, k2, k3, k4, k5⟩ := kk
  refine Fn_K rfl Tryz.func152 rfl rfl ?_
  all_goals (repeat' (first | refine K_seq ?_ | refine k_cond rfl ?_ | refine K_skip ?_ | refine K_exit ?_ | refine k_block ?_ | refine K_scope ?_ | (refine K_region (id := 0) ?_; (refine bx S ?_; clear S; intro b h S); (refine bx S ?_; clear S; intro b h S); refine mv ?_; refine KO_nil ?_) | (refine K_region (id := 1) ?_; (first | refine lB S rfl rfl ?_ | refine lES2 S rfl rfl ?_ | refine lEB S ?_ | refine lH S ?_); (first | refine lB S rfl rfl ?_ | refine lES2 S rfl rfl ?_ | refine lEB S ?_ | refine lH S ?_))))
  obtain ⟨b3, hnm⟩ : ∃ x, x = b := ⟨_, rfl⟩; subst hnm
  obtain ⟨b2, hnm⟩ : ∃ x, x = b := ⟨_, rfl⟩; subst hnm
  (refine KO_fn rfl rfl rfl rfl rfl ((two_ok _ _ ⟨by omega, by omega, by omega, by omega⟩).mono ?_); rintro _ h ⟨rfl, rfl⟩) <;> ((refine al S ?_; clear S; intro b h S); (first | (refine sB S rfl rfl ?_; clear S; intro h S) | (refine sE2 S rfl rfl ?_; clear S; intro h S)); refine KO_nil ?_)
  all_goals (repeat' (first | refine K_seq ?_ | refine k_cond rfl ?_ | refine K_skip ?_ | refine K_exit ?_ | refine k_block ?_ | refine K_scope ?_ | (refine K_region (id := 2) ?_; refine vl ?_; (refine al S ?_; clear S; intro b h S); (first | (refine sB S rfl rfl ?_; clear S; intro h S) | (refine sE2 S rfl rfl ?_; clear S; intro h S)); refine KO_nil ?_) | (refine K_region (id := 3) ?_; refine vl ?_; (refine al S ?_; clear S; intro b h S); (first | (refine sB S rfl rfl ?_; clear S; intro h S) | (refine sE2 S rfl rfl ?_; clear S; intro h S)); refine KO_nil ?_) | (refine K_region (id := 4) ?_; refine vl ?_; (refine al S ?_; clear S; intro b h S); (first | (refine sB S rfl rfl ?_; clear S; intro h S) | (refine sE2 S rfl rfl ?_; clear S; intro h S)); refine KO_nil ?_) | (refine K_region (id := 5) ?_; (first | refine lB S rfl rfl ?_ | refine lES2 S rfl rfl ?_ | refine lEB S ?_ | refine lH S ?_))))
  obtain ⟨b8, hnm⟩ : ∃ x, x = b := ⟨_, rfl⟩; subst hnm
  obtain ⟨b7, hnm⟩ : ∃ x, x = b := ⟨_, rfl⟩; subst hnm
  obtain ⟨b6, hnm⟩ : ∃ x, x = b := ⟨_, rfl⟩; subst hnm
  obtain ⟨b5, hnm⟩ : ∃ x, x = b := ⟨_, rfl⟩; subst hnm
  refine bsn' (z := 1) eF (lfs2 b2 b5 b6) S ?_; clear S; intro u2 h S
  refine mv ?_; refine KO_nil ?_
  all_goals (repeat' (first | refine K_seq ?_ | refine k_cond rfl ?_ | refine K_skip ?_ | refine K_exit ?_ | refine k_block ?_ | refine K_scope ?_ | (refine K_region (id := 6) ?_; (first | refine lB S rfl rfl ?_ | refine lES2 S rfl rfl ?_ | refine lEB S ?_ | refine lH S ?_); (first | refine cT ?_ | refine cF ?_ | (refine cS ?_ ?_ <;> intro hc)) <;> (refine KO_nil ?_)) | (refine K_region (id := 7) ?_; refine mv ?_; (first | refine lB S rfl rfl ?_ | refine lES2 S rfl rfl ?_ | refine lEB S ?_ | refine lH S ?_); refine vl ?_) | (refine K_region (id := 8) ?_; refine mv ?_; refine mv ?_; refine KO_nil ?_)))
  · refine bsn' (z := 1) eF (lfs3 b2 b5 b6 b7 b8) S ?_; clear S; intro u3 h S
    refine apd S rfl rfl (Rd.of_sl S .here) ?_ (hsz := by simp only [lfs2, lfs3, List.length_cons, List.length_nil]; omega); clear S; intro v2 h S
    refine mv ?_; refine KO_nil ?_
    all_goals (repeat' (first | refine K_seq ?_ | refine k_cond rfl ?_ | refine K_skip ?_ | refine K_exit ?_ | refine k_block ?_ | refine K_scope ?_ | (refine K_region (id := 8) ?_; refine mv ?_; refine mv ?_; refine KO_nil ?_)))
    refine K_ret ⟨_, rfl, ?_⟩
    replace S := (S.del (.there .here)).blNil
    iterate 6 replace S := (S.front (.there (.there .here))).mergeB
    exact ⟨_, (S.conv fun fp q' => MvR.ok (longMvR hs q (by rw [if_neg hc]) (q' h fun _ _ => rfl))).front (.there .here)⟩
  · all_goals (repeat' (first | refine K_seq ?_ | refine k_cond rfl ?_ | refine K_skip ?_ | refine K_exit ?_ | refine k_block ?_ | refine K_scope ?_ | (refine K_region (id := 8) ?_; refine mv ?_; refine mv ?_; refine KO_nil ?_)))
    refine K_ret ⟨_, rfl, ?_⟩
    replace S := S.blNil
    iterate 6 replace S := (S.front (.there (.there .here))).mergeB
    exact ⟨_, (S.conv fun fp q' => MvR.ok (longMvR hs q (by rw [if_pos (by omega)]) (q' h fun _ _ => rfl))).front (.there .here)⟩
end Go.Proofs.Xx
