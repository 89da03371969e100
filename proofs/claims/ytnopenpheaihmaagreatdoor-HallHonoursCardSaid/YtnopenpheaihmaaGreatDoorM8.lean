/-
  Copies of halls; when halls are the same; which are few.
-/
import Derived.Test.YtnopenpheaihmaaGreatDoorM7

namespace Go.Proofs.Xx
open Go Go.Proofs
set_option linter.unusedSimpArgs false
set_option linter.unusedVariables false
set_option maxRecDepth 100000

theorem ints_flat (l : List Int) : l.flatMap eI = ints l := by
  induction l with
  | nil => rfl
  | cons x l ih => simp [eI, ints, ih]
theorem RdL.toI {h : AH} {v : Value} {l : List Int} (r : RdL h v 1 eI l) : RdI h v l := by
  unfold RdL at r; rw [ints_flat] at r; exact r
theorem equal_ok {h0 : AH} (w : WfH h0) (v u : Value) (a b : List Int) (ra : RdL h0 v 1 eI a) (rb : RdL h0 u 1 eI b) (ha : a.length ≤ 1000000) (hb : b.length ≤ 1000000) : Fn Tryz.prog Xh 59 [v, u] h0 (fun r h' => BoolIs r (a = b) ∧ Hs h0 h' []) := by
  refine (equal_ints ra.toI rb.toI (by omega) (by omega)).mono ?_
  rintro x h ⟨rfl, rfl⟩
  refine ⟨?_, Hs.start w⟩
  by_cases q : a = b
  · exact .inl ⟨by simp [q], q⟩
  · exact .inr ⟨by simp [q], q⟩
theorem Hs.nilS {h0 h : AH} {rs : List Rs} {α : Type} {e : TypeId} {z : Nat} {enc : α → List Value} (S : Hs h0 h rs) : Hs h0 h (.sl (.slice none 0 0) e z enc [] :: rs) :=
  S.grow (fp := fun _ => False) (Ext.refl S.wf) (.inl ⟨rfl, rfl⟩) fun b hb => hb.elim
theorem Hs.anyS {h0 h : AH} {rs : List Rs} {p : AH → Fp → Prop} (S : Hs h0 h rs) (k : ∀ h', p h' fun _ => False) : Hs h0 h (.any p :: rs) :=
  S.grow (fp := fun _ => False) (Ext.refl S.wf) (fun h' _ => k h') fun b hb => hb.elim
theorem Hs.anyP {h0 h : AH} {rs : List Rs} {p : AH → Fp → Prop} (S : Hs h0 h rs) (a : At rs (.any p)) : ∃ fp, p h fp := by
  obtain ⟨fp, k, -⟩ := a.ok S.sep
  exact ⟨fp, k h fun _ _ => rfl⟩
theorem Hs.capS {h0 h : AH} {rs : List Rs} {v : Value} {α : Type} {e : TypeId} {z : Nat} {enc : α → List Value} {l : List α} (S : Hs h0 h rs) (a : At rs (.sl v e z enc l)) : CapOk v := by
  obtain ⟨fp, k, -⟩ := a.ok S.sep
  rcases k with ⟨rfl, -⟩ | ⟨b, o, cc, slk, rfl, -⟩
  · exact Nat.le_refl _
  · exact Nat.le_refl _

theorem clone_ok {h0 : AH} (w : WfH h0) (v : Value) (a : List Int) (r : RdL h0 v 1 eI a) (hl : a.length ≤ 1000000) : Fn Tryz.prog Xh 49 [v] h0 (fun u h' => Hs h0 h' [.sl u 3 1 eI a]) := by
  have S := Hs.start w
  have r0 := r
  rcases r with ⟨rfl, h1, -⟩ | ⟨b, o, cap, cc, e, s, q, rfl, h1, h2⟩
  · obtain rfl : a = [] := List.length_eq_zero_iff.1 h1
    refine Fn_K rfl Tryz.func49 rfl rfl ?_
    all_goals (repeat' (first | refine K_seq ?_ | refine k_cond rfl ?_ | refine K_skip ?_ | refine K_exit ?_ | refine k_block ?_ | refine K_scope ?_ | (refine K_region (id := 0) ?_; refine mv ?_; refine KO_nil ?_) | (refine K_region (id := 1) ?_; refine mv ?_; refine vl ?_; refine KO_nil ?_) | (refine K_region (id := 2) ?_; refine mv ?_; refine KO_nil ?_) | (refine K_region (id := 3) ?_; skip)))
    refine K_ret ⟨_, rfl, ?_⟩
    exact S.nilS
  · refine Fn_K rfl Tryz.func49 rfl rfl ?_
    all_goals (repeat' (first | refine K_seq ?_ | refine k_cond rfl ?_ | refine K_skip ?_ | refine K_exit ?_ | refine k_block ?_ | refine K_scope ?_ | (refine K_region (id := 0) ?_; refine mv ?_; refine KO_nil ?_) | (refine K_region (id := 1) ?_; refine mv ?_; refine vl ?_; refine KO_nil ?_) | (refine K_region (id := 2) ?_; refine mv ?_; refine KO_nil ?_) | (refine K_region (id := 3) ?_; skip)))
    refine nw 1 eI S ?_; clear S; intro u h S; (refine mv ?_)
    refine apd S rfl rfl (r0.ext w S.ext) ?_; clear S; intro v' h S; (refine mv ?_; refine KO_nil ?_)
    all_goals (repeat' (first | refine K_seq ?_ | refine k_cond rfl ?_ | refine K_skip ?_ | refine K_exit ?_ | refine k_block ?_ | refine K_scope ?_))
    refine K_ret ⟨_, rfl, ?_⟩
    exact S

/-- Tables that differ at most in where their open seats lie. -/
def SameTab (t u : Tab) : Prop := t = { u with os := t.os }
theorem sameTab_iff (t u : Tab) : SameTab t u ↔ t.name = u.name ∧ t.shape = u.shape ∧ t.A = u.A ∧ t.B = u.B ∧ t.X = u.X ∧ t.Y = u.Y ∧ t.opn = u.opn := by
  cases t; cases u; unfold SameTab; simp
  intros; exact ⟨fun q => ⟨q.2.1, q.2.2, q.1⟩, fun q => ⟨q.2.2, q.1, q.2.1⟩⟩
theorem sameTable_ok {h0 : AH} (w : WfH h0) (t u : Tab) (rt : RdL h0 t.ov 1 eI t.opn) (ru : RdL h0 u.ov 1 eI u.opn) (ht : t.opn.length ≤ 1000000) (hu : u.opn.length ≤ 1000000) : Fn Tryz.prog Xh 72 [tabV t, tabV u] h0 (fun r h' => BoolIs r (SameTab t u) ∧ Hs h0 h' []) := by
  have S := Hs.start w
  refine Fn_K rfl Tryz.func72 rfl rfl ?_
  all_goals (repeat' (first | refine K_seq ?_ | refine k_cond rfl ?_ | refine K_skip ?_ | refine K_exit ?_ | refine k_block ?_ | refine K_scope ?_ | (refine K_region (id := 0) ?_; (refine bx S ?_; clear S; intro b h S); (refine bx S ?_; clear S; intro b h S); refine mv ?_; refine KO_nil ?_) | (refine K_region (id := 1) ?_; (first | refine vl ?_ | refine fB S ?_ | refine fS S rfl rfl ?_ | refine fA ?_); (first | refine lB S rfl rfl ?_ | refine lES S rfl rfl ?_ | refine lEB S ?_ | refine lH S ?_); (first | refine vl ?_ | refine fB S ?_ | refine fS S rfl rfl ?_ | refine fA ?_); (first | refine lB S rfl rfl ?_ | refine lES S rfl rfl ?_ | refine lEB S ?_ | refine lH S ?_); (refine tS ?_ ?_ <;> intro hc) <;> (refine mv ?_; (first | refine off ?_ | (first | refine vl ?_ | refine fB S ?_ | refine fS S rfl rfl ?_ | refine fA ?_)); (first | refine off ?_ | (first | refine lB S rfl rfl ?_ | refine lES S rfl rfl ?_ | refine lEB S ?_ | refine lH S ?_)); (first | refine off ?_ | (first | refine vl ?_ | refine fB S ?_ | refine fS S rfl rfl ?_ | refine fA ?_)); (first | refine off ?_ | (first | refine lB S rfl rfl ?_ | refine lES S rfl rfl ?_ | refine lEB S ?_ | refine lH S ?_)); (first | refine off ?_ | (first | refine cT ?_ | refine cF ?_ | (refine cS ?_ ?_ <;> intro hc))) <;> (refine vl ?_; refine mv ?_; (first | refine off ?_ | (first | refine vl ?_ | refine fB S ?_ | refine fS S rfl rfl ?_ | refine fA ?_)); (first | refine off ?_ | (first | refine lB S rfl rfl ?_ | refine lES S rfl rfl ?_ | refine lEB S ?_ | refine lH S ?_)); (first | refine off ?_ | (first | refine vl ?_ | refine fB S ?_ | refine fS S rfl rfl ?_ | refine fA ?_)); (first | refine off ?_ | (first | refine lB S rfl rfl ?_ | refine lES S rfl rfl ?_ | refine lEB S ?_ | refine lH S ?_)); (first | refine off ?_ | (first | refine cT ?_ | refine cF ?_ | (refine cS ?_ ?_ <;> intro hc))) <;> (refine vl ?_; refine mv ?_; (first | refine off ?_ | (first | refine vl ?_ | refine fB S ?_ | refine fS S rfl rfl ?_ | refine fA ?_)); (first | refine off ?_ | (first | refine lB S rfl rfl ?_ | refine lES S rfl rfl ?_ | refine lEB S ?_ | refine lH S ?_)); (first | refine off ?_ | (first | refine vl ?_ | refine fB S ?_ | refine fS S rfl rfl ?_ | refine fA ?_)); (first | refine off ?_ | (first | refine lB S rfl rfl ?_ | refine lES S rfl rfl ?_ | refine lEB S ?_ | refine lH S ?_)); (first | refine off ?_ | (first | refine cT ?_ | refine cF ?_ | (refine cS ?_ ?_ <;> intro hc))) <;> (refine vl ?_; refine mv ?_; (first | refine off ?_ | (first | refine vl ?_ | refine fB S ?_ | refine fS S rfl rfl ?_ | refine fA ?_)); (first | refine off ?_ | (first | refine lB S rfl rfl ?_ | refine lES S rfl rfl ?_ | refine lEB S ?_ | refine lH S ?_)); (first | refine off ?_ | (first | refine vl ?_ | refine fB S ?_ | refine fS S rfl rfl ?_ | refine fA ?_)); (first | refine off ?_ | (first | refine lB S rfl rfl ?_ | refine lES S rfl rfl ?_ | refine lEB S ?_ | refine lH S ?_)); (first | refine off ?_ | (first | refine cT ?_ | refine cF ?_ | (refine cS ?_ ?_ <;> intro hc))) <;> (refine vl ?_; refine mv ?_; (first | refine off ?_ | (first | refine vl ?_ | refine fB S ?_ | refine fS S rfl rfl ?_ | refine fA ?_)); (first | refine off ?_ | (first | refine lB S rfl rfl ?_ | refine lES S rfl rfl ?_ | refine lEB S ?_ | refine lH S ?_)); (first | refine off ?_ | (first | refine vl ?_ | refine fB S ?_ | refine fS S rfl rfl ?_ | refine fA ?_)); (first | refine off ?_ | (first | refine lB S rfl rfl ?_ | refine lES S rfl rfl ?_ | refine lEB S ?_ | refine lH S ?_)); (first | refine off ?_ | (first | refine cT ?_ | refine cF ?_ | (refine cS ?_ ?_ <;> intro hc))) <;> (refine vl ?_; refine mv ?_; (first | refine off ?_ | (first | refine vl ?_ | refine fB S ?_ | refine fS S rfl rfl ?_ | refine fA ?_)); (first | refine off ?_ | (first | refine lB S rfl rfl ?_ | refine lES S rfl rfl ?_ | refine lEB S ?_ | refine lH S ?_)); (first | refine off ?_ | (first | refine vl ?_ | refine fB S ?_ | refine fS S rfl rfl ?_ | refine fA ?_)); (first | refine off ?_ | (first | refine lB S rfl rfl ?_ | refine lES S rfl rfl ?_ | refine lEB S ?_ | refine lH S ?_)); (first | (refine off ?_; refine vl ?_; refine mv ?_; refine KO_nil ?_) | skip))))))))))
  · (refine KO_fn rfl rfl rfl rfl rfl ((equal_ok S.wf t.ov u.ov t.opn u.opn (rt.ext w S.ext) (ru.ext w S.ext) ht hu).mono ?_); rintro _ h ⟨⟨rfl, hq⟩ | ⟨rfl, hq⟩, x⟩) <;> (replace S := S.join0 x; clear x; refine vl ?_; refine mv ?_; refine KO_nil ?_)
    all_goals (repeat' (first | refine K_seq ?_ | refine k_cond rfl ?_ | refine K_skip ?_ | refine K_exit ?_ | refine k_block ?_ | refine K_scope ?_))
    all_goals (refine K_ret ⟨_, rfl, ?_⟩)
    · exact ⟨.inl ⟨rfl, (sameTab_iff t u).2 ⟨by assumption, by assumption, by assumption, by assumption, by assumption, by assumption, hq⟩⟩, S.drop⟩
    · exact ⟨.inr ⟨rfl, fun q => hq ((sameTab_iff t u).1 q).2.2.2.2.2.2⟩, S.drop⟩
  all_goals (refine K_ret ⟨_, rfl, ?_⟩)
  all_goals (refine ⟨.inr ⟨rfl, fun q => ?_⟩, S.drop⟩; have q := (sameTab_iff t u).1 q; obtain ⟨q1, q2, q3, q4, q5, q6, -⟩ := q; first | exact hc q1 | exact hc q2 | exact hc q3 | exact hc q4 | exact hc q5 | exact hc q6)
def SameAll (l m : List Tab) : Prop := l.length = m.length ∧ ∀ i, i < l.length → SameTab (tb l i) (tb m i)
theorem equalTabs_ok {h0 : AH} (w : WfH h0) (v u : Value) (l m : List Tab) (hv : RdL h0 v 7 eT l) (hu : RdL h0 u 7 eT m) (hl : ∀ i, i < l.length → TabR h0 (tb l i)) (hm : ∀ i, i < m.length → TabR h0 (tb m i)) (hl2 : l.length ≤ 1000) (hm2 : m.length ≤ 1000) :
    Fn Tryz.prog Xh 119 [v, u, .func (.func 72) #[] #[]] h0 (fun r h' => BoolIs r (SameAll l m) ∧ Hs h0 h' []) := by
  have S := Hs.start w
  refine Fn_K rfl Tryz.func119 rfl rfl ?_
  all_goals (repeat' (first | refine K_seq ?_ | refine k_cond rfl ?_ | refine K_skip ?_ | refine K_exit ?_ | refine k_block ?_ | refine K_scope ?_ | (refine K_region (id := 0) ?_; refine mv ?_; refine KO_nil ?_) | (refine K_region (id := 1) ?_; refine mv ?_; (first | refine lnB S ?_ | refine lnS S rfl rfl ?_); refine mv ?_; (first | refine lnB S ?_ | refine lnS S rfl rfl ?_); (first | refine cT ?_ | refine cF ?_ | (refine cS ?_ ?_ <;> intro hc)) <;> (refine KO_nil ?_)) | (refine K_region (id := 2) ?_; refine mv ?_; refine KO_nil ?_) | (refine K_region (id := 3) ?_; refine mv ?_; (first | refine lnB S ?_ | refine lnS S rfl rfl ?_); refine mv ?_; refine KO_nil ?_)))
  · refine K_ret ⟨_, rfl, ?_⟩
    exact ⟨.inr ⟨rfl, fun q => hc (by rw [q.1])⟩, S⟩
  · refine k_loop (σ := Nat) (fun i h' => Hs h0 h' [] ∧ i ≤ l.length ∧ ∀ j, j < i → SameTab (tb l j) (tb m j)) (fun i => l.length - i) (fun i => [(1, u), (2, .func (.func 72) #[] #[]), (15, v), (16, .int .i64 l.length), (17, .int .i64 i)]) 0 (by repeat (first | exact Ks.le_nil _ | refine Ks.le_cons rfl ?_ | refine Ks.le_int ?_)) ?_ ?_
    · exact ⟨S, Nat.zero_le _, fun j hj => absurd hj (Nat.not_lt_zero _)⟩
    clear S
    rintro i h ⟨S, h1, h2⟩
    have hlm : l.length = m.length := by omega
    all_goals (repeat' (first | refine K_seq ?_ | refine k_cond rfl ?_ | refine K_skip ?_ | refine K_exit ?_ | refine k_block ?_ | refine K_scope ?_ | (refine K_region (id := 4) ?_; (first | refine cT ?_ | refine cF ?_ | (refine cS ?_ ?_ <;> intro hc)) <;> (refine KO_nil ?_)) | (refine K_region (id := 5) ?_; refine mv ?_; (first | refine ixB S ?_ | refine ixS S rfl rfl ?_); (first | refine lB S rfl rfl ?_ | refine lES S rfl rfl ?_ | refine lEB S ?_ | refine lH S ?_); (refine al S ?_; clear S; intro b h S); refine mv ?_; (first | (refine sB S rfl rfl ?_; clear S; intro h S) | (refine sE S rfl rfl ?_; clear S; intro h S)); refine KO_nil ?_) | (refine K_region (id := 6) ?_; refine mv ?_; refine mv ?_; (first | refine ixB S ?_ | refine ixS S rfl rfl ?_); (first | refine lB S rfl rfl ?_ | refine lES S rfl rfl ?_ | refine lEB S ?_ | refine lH S ?_); (refine al S ?_; clear S; intro b h S); (first | (refine sB S rfl rfl ?_; clear S; intro h S) | (refine sE S rfl rfl ?_; clear S; intro h S)); refine KO_nil ?_) | (refine K_region (id := 7) ?_; refine mv ?_; (first | refine lB S rfl rfl ?_ | refine lES S rfl rfl ?_ | refine lEB S ?_ | refine lH S ?_); (first | refine lB S rfl rfl ?_ | refine lES S rfl rfl ?_ | refine lEB S ?_ | refine lH S ?_)) | (refine K_region (id := 10) ?_; refine mv ?_; refine KO_nil ?_)))
    · (try simp only [Int.toNat_natCast] at *)
      have hi : i < l.length := by omega
      have k1 := hl i hi
      have k2 := hm i (by omega)
      (refine KO_call rfl rfl rfl rfl ((sameTable_ok S.wf (tb l i) (tb m i) (k1.1.ext w S.ext) (k2.1.ext w S.ext) (by omega) (by omega)).mono ?_); rintro _ h ⟨⟨rfl, hq⟩ | ⟨rfl, hq⟩, x⟩) <;> (replace S := S.join0 x; clear x; refine vl ?_; refine KO_nil ?_)
      all_goals (repeat' (first | refine K_seq ?_ | refine k_cond rfl ?_ | refine K_skip ?_ | refine K_exit ?_ | refine k_block ?_ | refine K_scope ?_ | (refine K_region (id := 8) ?_; refine mv ?_; refine KO_nil ?_) | (refine K_region (id := 9) ?_; (first | refine ad ?_ | refine vl ?_); refine mv ?_; refine KO_nil ?_)))
      · refine ⟨i + 1, ?_, ?_, (by repeat (first | exact Ks.le_nil _ | refine Ks.le_cons rfl ?_ | refine Ks.le_int ?_))⟩
        · show l.length - (i + 1) < l.length - i; omega
        · refine ⟨S.drop, by omega, fun j hj => ?_⟩
          rcases Nat.lt_or_ge j i with q | q
          · exact h2 j q
          · obtain rfl : j = i := by omega
            exact hq
      · refine K_ret ⟨_, rfl, ?_⟩
        exact ⟨.inr ⟨rfl, fun q => hq (q.2 i hi)⟩, S.drop⟩
    · refine K_ret ⟨_, rfl, ?_⟩
      exact ⟨.inl ⟨rfl, hlm, fun j hj => h2 j (by omega)⟩, S⟩
theorem same_ok {h0 : AH} (w : WfH h0) (v u : Value) (l m : List Tab) (hv : RdL h0 v 7 eT l) (hu : RdL h0 u 7 eT m) (hl : ∀ i, i < l.length → TabR h0 (tb l i)) (hm : ∀ i, i < m.length → TabR h0 (tb m i)) (hl2 : l.length ≤ 1000) (hm2 : m.length ≤ 1000) :
    Fn Tryz.prog Xh 62 [v, u] h0 (fun r h' => BoolIs r (SameAll l m) ∧ Hs h0 h' []) := by
  have S := Hs.start w
  refine Fn_K rfl Tryz.func62 rfl rfl ?_
  all_goals (repeat' (first | refine K_seq ?_ | refine k_cond rfl ?_ | refine K_skip ?_ | refine K_exit ?_ | refine k_block ?_ | refine K_scope ?_ | (refine K_region (id := 0) ?_; refine mv ?_; refine KO_nil ?_) | (refine K_region (id := 1) ?_; refine mv ?_; refine mv ?_)))
  (refine KO_fn rfl rfl rfl rfl rfl ((equalTabs_ok S.wf v u l m hv hu hl hm hl2 hm2).mono ?_); rintro _ h ⟨hq, x⟩) <;> (replace S := S.join0 x; clear x; refine mv ?_; refine KO_nil ?_)
  all_goals (repeat' (first | refine K_seq ?_ | refine k_cond rfl ?_ | refine K_skip ?_ | refine K_exit ?_ | refine k_block ?_ | refine K_scope ?_))
  refine K_ret ⟨_, rfl, ?_⟩
  exact ⟨hq, S⟩

/-- Halls that are examined. -/
def FewP (l : List Tab) : Prop := l.length ≤ 20 ∧ ∀ i, i < l.length → (tb l i).name.length ≤ 40 ∧ (tb l i).opn.length ≤ 40
theorem few1_ok {h0 : AH} (w : WfH h0) (t : Tab) (r : RdL h0 t.ov 1 eI t.opn) (hn : t.name.length ≤ maxLen) (ho : t.opn.length ≤ maxLen) : Fn Tryz.prog Xh 65 [tabV t] h0 (fun v h' => BoolIs v (40 < t.name.length ∨ 40 < t.opn.length) ∧ Hs h0 h' []) := by
  have S := Hs.start w
  refine Fn_K rfl Tryz.func65 rfl rfl ?_
  all_goals (repeat' (first | refine K_seq ?_ | refine k_cond rfl ?_ | refine K_skip ?_ | refine K_exit ?_ | refine k_block ?_ | refine K_scope ?_ | (refine K_region (id := 0) ?_; (refine bx S ?_; clear S; intro b h S); refine mv ?_; refine KO_nil ?_) | (refine K_region (id := 1) ?_; (first | refine vl ?_ | refine fB S ?_ | refine fS S rfl rfl ?_ | refine fA ?_); (first | refine lB S rfl rfl ?_ | refine lES S rfl rfl ?_ | refine lEB S ?_ | refine lH S ?_); refine tl ?_; (first | refine cT ?_ | refine cF ?_ | (refine cS ?_ ?_ <;> intro hc)) <;> (refine mv ?_; (first | refine off ?_ | (first | refine vl ?_ | refine fB S ?_ | refine fS S rfl rfl ?_ | refine fA ?_)); (first | refine off ?_ | (first | refine lB S rfl rfl ?_ | refine lES S rfl rfl ?_ | refine lEB S ?_ | refine lH S ?_)); (first | refine off ?_ | (first | refine lnB S ?_ | refine lnS S rfl rfl ?_)); (first | refine off ?_ | (first | refine cT ?_ | refine cF ?_ | (refine cS ?_ ?_ <;> intro hc))) <;> (refine vl ?_; refine mv ?_; refine KO_nil ?_)))))
  all_goals (refine K_ret ⟨_, rfl, ?_⟩)
  · exact ⟨.inl ⟨rfl, .inl (by omega)⟩, S.drop⟩
  · exact ⟨.inl ⟨rfl, .inr (by omega)⟩, S.drop⟩
  · exact ⟨.inr ⟨rfl, by omega⟩, S.drop⟩
theorem few_ok {h0 : AH} (w : WfH h0) (v : Value) (l : List Tab) (hr : RdL h0 v 7 eT l) (hn : l.length ≤ maxLen) (ht : ∀ i, i < l.length → RdL h0 (tb l i).ov 1 eI (tb l i).opn ∧ (tb l i).name.length ≤ maxLen ∧ (tb l i).opn.length ≤ maxLen) : Fn Tryz.prog Xh 19 [v] h0 (fun r h' => BoolIs r (FewP l) ∧ Hs h0 h' []) := by
  have S := Hs.start w
  refine Fn_K rfl Tryz.func19 rfl rfl ?_
  all_goals (repeat' (first | refine K_seq ?_ | refine k_cond rfl ?_ | refine K_skip ?_ | refine K_exit ?_ | refine k_block ?_ | refine K_scope ?_ | (refine K_region (id := 0) ?_; refine mv ?_; refine KO_nil ?_) | (refine K_region (id := 1) ?_; refine mv ?_; (first | refine lnB S ?_ | refine lnS S rfl rfl ?_); (first | refine cT ?_ | refine cF ?_ | (refine cS ?_ ?_ <;> intro hc)) <;> (refine mv ?_; (first | refine off ?_ | refine mv ?_); (first | (refine off ?_; (first | refine off ?_ | refine vl ?_); refine vl ?_; refine mv ?_; refine KO_nil ?_) | skip)))))
  · have hf : ∀ i h, i < l.length → Hs h0 h [] → Fn Tryz.prog Xh 65 (tabV (l.getD i default) :: []) h (fun v h' => BoolIs v (40 < (tb l i).name.length ∨ 40 < (tb l i).opn.length) ∧ Hs h h' []) := fun i h hi x => few1_ok x.wf (tb l i) ((ht i hi).1.ext w x.ext) (ht i hi).2.1 (ht i hi).2.2
    (refine KO_fn rfl rfl rfl rfl rfl ((containsTab_ok S.wf v l 65 [] (fun i => 40 < (tb l i).name.length ∨ 40 < (tb l i).opn.length) hr (by omega) hf).mono ?_); rintro _ h ⟨⟨rfl, hq⟩ | ⟨rfl, hq⟩, x⟩) <;> (replace S := S.join0 x; clear x; (first | refine off ?_ | refine vl ?_); refine vl ?_; refine mv ?_; refine KO_nil ?_)
    all_goals (repeat' (first | refine K_seq ?_ | refine k_cond rfl ?_ | refine K_skip ?_ | refine K_exit ?_ | refine k_block ?_ | refine K_scope ?_))
    all_goals (refine K_ret ⟨_, rfl, ?_⟩)
    · obtain ⟨i, hi, hq⟩ := hq
      exact ⟨.inr ⟨rfl, fun q => by have := q.2 i hi; omega⟩, S⟩
    · exact ⟨.inl ⟨rfl, by omega, fun i hi => ⟨Nat.le_of_not_lt fun q => hq ⟨i, hi, .inl q⟩, Nat.le_of_not_lt fun q => hq ⟨i, hi, .inr q⟩⟩⟩, S⟩
  · refine K_ret ⟨_, rfl, ?_⟩
    exact ⟨.inr ⟨rfl, fun q => hc (by have := q.1; omega)⟩, S⟩

/-- The open seats of the first k tables. -/
def OpnR (l l2 : List Tab) (k : Nat) (h : AH) (fp : Fp) : Prop := ∀ j, j < k → RdL h (tb l2 j).ov 1 eI (tb l j).opn
theorem copy_ok {h0 : AH} (w : WfH h0) (v : Value) (l : List Tab) (hr : RdL h0 v 7 eT l) (hl : l.length ≤ 1000) (ht : ∀ i, i < l.length → TabR h0 (tb l i)) : Fn Tryz.prog Xh 66 [v] h0 (fun u h' => ∃ l2, SameAll l2 l ∧ HallR h' u l2 ∧ Hs h0 h' []) := by
  have S := Hs.start w
  refine Fn_K rfl Tryz.func66 rfl rfl ?_
  all_goals (repeat' (first | refine K_seq ?_ | refine k_cond rfl ?_ | refine K_skip ?_ | refine K_exit ?_ | refine k_block ?_ | refine K_scope ?_ | (refine K_region (id := 0) ?_; refine mv ?_; refine KO_nil ?_) | (refine K_region (id := 1) ?_; refine mv ?_; refine KO_nil ?_) | (refine K_region (id := 2) ?_; refine mv ?_; (first | refine lnB S ?_ | refine lnS S rfl rfl ?_); refine mv ?_; refine KO_nil ?_)))
  refine k_loop (σ := Nat × List Tab × Value) (fun (i, l2, vo) h' => Hs h0 h' [.sl vo 25 7 eT l2, .any (OpnR l l2 i)] ∧ i ≤ l.length ∧ l2.length = i ∧ ∀ j, j < i → SameTab (tb l2 j) (tb l j)) (fun (i, l2, vo) => l.length - i) (fun (i, l2, vo) => [(3, vo), (6, v), (7, .int .i64 l.length), (8, .int .i64 i)]) (0, [], .slice none 0 0) (by repeat (first | exact Ks.le_nil _ | refine Ks.le_cons rfl ?_ | refine Ks.le_int ?_)) ?_ ?_
  · exact ⟨(S.anyS fun _ j hj => absurd hj (Nat.not_lt_zero _)).nilS, Nat.zero_le _, rfl, fun j hj => absurd hj (Nat.not_lt_zero _)⟩
  clear S
  rintro ⟨i, l2, vo⟩ h ⟨S, h1, h2, h3⟩
  all_goals (repeat' (first | refine K_seq ?_ | refine k_cond rfl ?_ | refine K_skip ?_ | refine K_exit ?_ | refine k_block ?_ | refine K_scope ?_ | (refine K_region (id := 3) ?_; (first | refine cT ?_ | refine cF ?_ | (refine cS ?_ ?_ <;> intro hc)) <;> (refine KO_nil ?_)) | (refine K_region (id := 4) ?_; (first | refine ixB S ?_ | refine ixS S rfl rfl ?_); (first | refine lB S rfl rfl ?_ | refine lES S rfl rfl ?_ | refine lEB S ?_ | refine lH S ?_); (refine al S ?_; clear S; intro b h S); (first | (refine sB S rfl rfl ?_; clear S; intro h S) | (refine sE S rfl rfl ?_; clear S; intro h S)); refine KO_nil ?_) | (refine K_region (id := 8) ?_; refine mv ?_; refine mv ?_; refine KO_nil ?_)))
  · (try simp only [Int.toNat_natCast] at *)
    have hi : i < l.length := by omega
    obtain ⟨hov, hnm, hol⟩ := ht i hi
    refine K_drawF1 (id := 5) (j1 := 3) (rd := [(3, (0, 1)), (6, (0, 2))]) (fun b1 => [some b1, some (b)]) S (HintOk.direct) ?_; clear S; intro b1 h S; refine KX_cons ?_; (first | (refine vl ?_ <;> refine KO_nil ⟨⟨by (first | exact True.intro | exact Or.inl rfl | exact Or.inr rfl | exact Or.inr (congrArg some (blkOf_elA _ _ _ _)) | exact ⟨Or.inl rfl, rfl⟩ | exact ⟨Or.inr rfl, rfl⟩), rfl⟩, ?_⟩) | (refine fB S ?_ <;> refine KO_nil ⟨⟨by (first | exact True.intro | exact Or.inl rfl | exact Or.inr rfl | exact Or.inr (congrArg some (blkOf_elA _ _ _ _)) | exact ⟨Or.inl rfl, rfl⟩ | exact ⟨Or.inr rfl, rfl⟩), rfl⟩, ?_⟩) | (refine fS S rfl rfl ?_ <;> refine KO_nil ⟨⟨by (first | exact True.intro | exact Or.inl rfl | exact Or.inr rfl | exact Or.inr (congrArg some (blkOf_elA _ _ _ _)) | exact ⟨Or.inl rfl, rfl⟩ | exact ⟨Or.inr rfl, rfl⟩), rfl⟩, ?_⟩) | (refine fA ?_ <;> refine KO_nil ⟨⟨by (first | exact True.intro | exact Or.inl rfl | exact Or.inr rfl | exact Or.inr (congrArg some (blkOf_elA _ _ _ _)) | exact ⟨Or.inl rfl, rfl⟩ | exact ⟨Or.inr rfl, rfl⟩), rfl⟩, ?_⟩)); refine KX_cons ?_; (first | (refine lB S rfl rfl ?_ <;> refine KO_nil ⟨⟨by (first | exact True.intro | exact Or.inl rfl | exact Or.inr rfl | exact Or.inr (congrArg some (blkOf_elA _ _ _ _)) | exact ⟨Or.inl rfl, rfl⟩ | exact ⟨Or.inr rfl, rfl⟩), rfl⟩, ?_⟩) | (refine lES S rfl rfl ?_ <;> refine KO_nil ⟨⟨by (first | exact True.intro | exact Or.inl rfl | exact Or.inr rfl | exact Or.inr (congrArg some (blkOf_elA _ _ _ _)) | exact ⟨Or.inl rfl, rfl⟩ | exact ⟨Or.inr rfl, rfl⟩), rfl⟩, ?_⟩) | (refine lEB S ?_ <;> refine KO_nil ⟨⟨by (first | exact True.intro | exact Or.inl rfl | exact Or.inr rfl | exact Or.inr (congrArg some (blkOf_elA _ _ _ _)) | exact ⟨Or.inl rfl, rfl⟩ | exact ⟨Or.inr rfl, rfl⟩), rfl⟩, ?_⟩) | (refine lH S ?_ <;> refine KO_nil ⟨⟨by (first | exact True.intro | exact Or.inl rfl | exact Or.inr rfl | exact Or.inr (congrArg some (blkOf_elA _ _ _ _)) | exact ⟨Or.inl rfl, rfl⟩ | exact ⟨Or.inr rfl, rfl⟩), rfl⟩, ?_⟩))
    ((refine KX_cons ?_; first | refine KO_fn rfl rfl rfl rfl rfl ((clone_ok S.wf (tb l i).ov (tb l i).opn (hov.ext w S.ext) (by omega)).mono ?_)); rintro u h x) <;> ((refine KO_nil ⟨⟨True.intro, ?_⟩, ?_⟩; (focus ((show keepsX _ _ _ _ _; simp only [keepsX]; (repeat' (first | exact True.intro | refine And.intro ?_ ?_)); all_goals (intro hw; first | exact True.intro | exact rfl | exact x.ext.old _ S.bB | exact x.ext.old _ (S.bR (by first | omega | grind)) | exact x.ext.old _ (S.bX (by assumption) (by assumption) (by first | omega | grind)) | (refine x.ext.old _ ?_; assumption) | exact absurd hw (by decide +kernel)))))); replace S := S.join1 x; clear x; refine fl S rfl rfl S.gB ?_)
    refine KX_cons ?_; refine apd S rfl rfl (rd_blk eI [(-7 : Int)] S.gB) ?_; have S0 := S; clear S; intro v2 h S; refine KO_nil ⟨⟨True.intro, ?_⟩, ?_⟩; (focus ((show keepsX _ _ _ _ _; simp only [keepsX]; (repeat' (first | exact True.intro | refine And.intro ?_ ?_)); all_goals (intro hw; first | exact True.intro | exact (S.gB).trans (S0.gB).symm | exact absurd hw (by decide +kernel))))); clear S0; (refine KX_cons ?_; (first | (refine vl ?_ <;> refine KO_nil ⟨⟨by (first | exact True.intro | exact Or.inl rfl | exact Or.inr rfl | exact Or.inr (congrArg some (blkOf_elA _ _ _ _)) | exact ⟨Or.inl rfl, rfl⟩ | exact ⟨Or.inr rfl, rfl⟩), rfl⟩, ?_⟩) | (refine fB S ?_ <;> refine KO_nil ⟨⟨by (first | exact True.intro | exact Or.inl rfl | exact Or.inr rfl | exact Or.inr (congrArg some (blkOf_elA _ _ _ _)) | exact ⟨Or.inl rfl, rfl⟩ | exact ⟨Or.inr rfl, rfl⟩), rfl⟩, ?_⟩) | (refine fS S rfl rfl ?_ <;> refine KO_nil ⟨⟨by (first | exact True.intro | exact Or.inl rfl | exact Or.inr rfl | exact Or.inr (congrArg some (blkOf_elA _ _ _ _)) | exact ⟨Or.inl rfl, rfl⟩ | exact ⟨Or.inr rfl, rfl⟩), rfl⟩, ?_⟩) | (refine fA ?_ <;> refine KO_nil ⟨⟨by (first | exact True.intro | exact Or.inl rfl | exact Or.inr rfl | exact Or.inr (congrArg some (blkOf_elA _ _ _ _)) | exact ⟨Or.inl rfl, rfl⟩ | exact ⟨Or.inr rfl, rfl⟩), rfl⟩, ?_⟩)); refine KX_cons ?_; (first | (refine lB S rfl rfl ?_ <;> refine KO_nil ⟨⟨by (first | exact True.intro | exact Or.inl rfl | exact Or.inr rfl | exact Or.inr (congrArg some (blkOf_elA _ _ _ _)) | exact ⟨Or.inl rfl, rfl⟩ | exact ⟨Or.inr rfl, rfl⟩), rfl⟩, ?_⟩) | (refine lES S rfl rfl ?_ <;> refine KO_nil ⟨⟨by (first | exact True.intro | exact Or.inl rfl | exact Or.inr rfl | exact Or.inr (congrArg some (blkOf_elA _ _ _ _)) | exact ⟨Or.inl rfl, rfl⟩ | exact ⟨Or.inr rfl, rfl⟩), rfl⟩, ?_⟩) | (refine lEB S ?_ <;> refine KO_nil ⟨⟨by (first | exact True.intro | exact Or.inl rfl | exact Or.inr rfl | exact Or.inr (congrArg some (blkOf_elA _ _ _ _)) | exact ⟨Or.inl rfl, rfl⟩ | exact ⟨Or.inr rfl, rfl⟩), rfl⟩, ?_⟩) | (refine lH S ?_ <;> refine KO_nil ⟨⟨by (first | exact True.intro | exact Or.inl rfl | exact Or.inr rfl | exact Or.inr (congrArg some (blkOf_elA _ _ _ _)) | exact ⟨Or.inl rfl, rfl⟩ | exact ⟨Or.inr rfl, rfl⟩), rfl⟩, ?_⟩)); refine KX_cons ?_; (first | (refine lnB S ?_ <;> refine KO_nil ⟨⟨by (first | exact True.intro | exact Or.inl rfl | exact Or.inr rfl | exact Or.inr (congrArg some (blkOf_elA _ _ _ _)) | exact ⟨Or.inl rfl, rfl⟩ | exact ⟨Or.inr rfl, rfl⟩), rfl⟩, ?_⟩) | (refine lnS S rfl rfl ?_ <;> refine KO_nil ⟨⟨by (first | exact True.intro | exact Or.inl rfl | exact Or.inr rfl | exact Or.inr (congrArg some (blkOf_elA _ _ _ _)) | exact ⟨Or.inl rfl, rfl⟩ | exact ⟨Or.inr rfl, rfl⟩), rfl⟩, ?_⟩)))
    refine KX_cons ?_; refine th (tb l i).opn.length S rfl rfl ?_; clear S; intro v3 S; obtain ⟨s3, rfl⟩ := (Rd.of_rd S .here).isSl; refine KO_nil ⟨⟨True.intro, rfl⟩, ?_⟩; (refine KX_cons ?_; (first | (refine vl ?_ <;> refine KO_nil ⟨⟨by (first | exact True.intro | exact Or.inl rfl | exact Or.inr rfl | exact Or.inr (congrArg some (blkOf_elA _ _ _ _)) | exact ⟨Or.inl rfl, rfl⟩ | exact ⟨Or.inr rfl, rfl⟩), rfl⟩, ?_⟩) | (refine fB S ?_ <;> refine KO_nil ⟨⟨by (first | exact True.intro | exact Or.inl rfl | exact Or.inr rfl | exact Or.inr (congrArg some (blkOf_elA _ _ _ _)) | exact ⟨Or.inl rfl, rfl⟩ | exact ⟨Or.inr rfl, rfl⟩), rfl⟩, ?_⟩) | (refine fS S rfl rfl ?_ <;> refine KO_nil ⟨⟨by (first | exact True.intro | exact Or.inl rfl | exact Or.inr rfl | exact Or.inr (congrArg some (blkOf_elA _ _ _ _)) | exact ⟨Or.inl rfl, rfl⟩ | exact ⟨Or.inr rfl, rfl⟩), rfl⟩, ?_⟩) | (refine fA ?_ <;> refine KO_nil ⟨⟨by (first | exact True.intro | exact Or.inl rfl | exact Or.inr rfl | exact Or.inr (congrArg some (blkOf_elA _ _ _ _)) | exact ⟨Or.inl rfl, rfl⟩ | exact ⟨Or.inr rfl, rfl⟩), rfl⟩, ?_⟩)); refine KX_cons ?_; (first | ((refine sB S rfl rfl ?_; have S0 := S; clear S; intro h S); refine KO_nil ⟨⟨True.intro, ?_⟩, ?_⟩; (focus ((show keepsX _ _ _ _ _; simp only [keepsX]; (repeat' (first | exact True.intro | refine And.intro ?_ ?_)); all_goals (intro hw; first | exact True.intro | exact (S.gB).trans (S0.gB).symm | exact absurd hw (by decide +kernel))))); clear S0) | ((refine sE S rfl rfl ?_; have S0 := S; clear S; intro h S); refine KO_nil ⟨⟨True.intro, ?_⟩, ?_⟩; (focus ((show keepsX _ _ _ _ _; simp only [keepsX]; (repeat' (first | exact True.intro | refine And.intro ?_ ?_)); all_goals (intro hw; first | exact True.intro | exact (S.gB).trans (S0.gB).symm | exact absurd hw (by decide +kernel))))); clear S0)); refine KX_nil ?_)
    all_goals (repeat' (first | refine K_seq ?_ | refine k_cond rfl ?_ | refine K_skip ?_ | refine K_exit ?_ | refine k_block ?_ | refine K_scope ?_ | (refine K_region (id := 6) ?_; refine mv ?_; (first | refine lB S rfl rfl ?_ | refine lES S rfl rfl ?_ | refine lEB S ?_ | refine lH S ?_); (refine one 7 S ?_; clear S; intro u h S))))
    refine app (y0 := { tb l i with os := s3 }) S rfl rfl ?_; clear S; intro v h S; refine mv ?_; refine KO_nil ?_
    all_goals (repeat' (first | refine K_seq ?_ | refine k_cond rfl ?_ | refine K_skip ?_ | refine K_exit ?_ | refine k_block ?_ | refine K_scope ?_ | (refine K_region (id := 7) ?_; (first | refine ad ?_ | refine vl ?_); refine mv ?_; refine KO_nil ?_)))
    refine ⟨(i + 1, l2 ++ [{ tb l i with os := s3 }], v), ?_, ?_, (by repeat (first | exact Ks.le_nil _ | refine Ks.le_cons rfl ?_ | refine Ks.le_int ?_))⟩
    · show l.length - (i + 1) < l.length - i; omega
    · have hg0 : ∀ (y : Tab) (j : Nat), j < i → tb (l2 ++ [y]) j = tb l2 j := fun y j hj => by
        simp only [tb, List.getD_eq_getElem?_getD, List.getElem?_append_left (show j < l2.length by omega)]
      have hg1 : ∀ (y : Tab), tb (l2 ++ [y]) i = y := fun y => by
        simp only [tb, List.getD_eq_getElem?_getD, List.getElem?_append_right (show l2.length ≤ i by omega), h2, Nat.sub_self, List.getElem?_cons_zero, Option.getD_some]
      generalize hy : ({ tb l i with os := s3 } : Tab) = y at S
      have S := ((((S.del (.there (.there .here))).del (.there (.there .here))).front (.there (.there .here))).front (.there (.there .here)))
      have S := S.merge (r := .any (OpnR l (l2 ++ [y]) (i + 1))) (fun f1 f2 k1 k2 h'' hh j hj => by
        rcases Nat.lt_or_ge j i with q | q
        · rw [hg0 y j q]
          exact k2 h'' (fun b hb => hh b (.inr hb)) j q
        · obtain rfl : j = i := by omega
          have k1 := k1.local fun b hb => hh b (.inl hb)
          rw [hg1 y, ← hy]
          rcases k1 with ⟨e1, e2⟩ | ⟨bb, o, cap, cc, e, sk, r, e1, e2, -, e3⟩
          · have hnil : (tb l j).opn = [] := by
              cases q1 : (tb l j).opn with
              | nil => rfl
              | cons a t => rw [q1] at e2; simp at e2
            exact .inl ⟨e1, show (tb l j).opn.length = 0 by rw [hnil]; rfl, show (tb l j).opn.flatMap eI = [] by rw [hnil]; rfl⟩
          · rw [List.take_left'] at e1 e3 <;> first | rfl | skip
            exact .inr ⟨bb, o, cap, cc, e, sk, r, e1, e2, e3⟩)
      refine ⟨S.front (.there .here), by omega, by simp; omega, fun j hj => ?_⟩
      show SameTab (tb (l2 ++ [y]) j) (tb l j)
      rcases Nat.lt_or_ge j i with q | q
      · rw [hg0 y j q]; exact h3 j q
      · obtain rfl : j = i := by omega
        rw [hg1 y, ← hy]; rfl
  · refine K_ret ⟨_, rfl, ?_⟩
    have hr2 := Rd.of_sl S .here
    obtain ⟨fp, ha⟩ := S.anyP (.there .here)
    have hil : i = l.length := by omega
    have st : ∀ j, j < l.length → SameTab (tb l2 j) (tb l j) := fun j hj => h3 j (by omega)
    refine ⟨l2, ⟨by omega, fun j hj => st j (by omega)⟩, ⟨hr2, fun j hj => ?_, by omega, S.capS .here⟩, S.drop⟩
    have q := (sameTab_iff _ _).1 (st j (by omega))
    have := ht j (by omega)
    exact ⟨by rw [q.2.2.2.2.2.2]; exact ha j (by omega), by rw [q.1]; exact this.2.1, by rw [q.2.2.2.2.2.2]; exact this.2.2⟩
end Go.Proofs.Xx

/-
  Seats of tables and halls, first seats, tables by name; the program's and the reference's.
-/
namespace Go.Proofs.Xx
open Go Go.Proofs
set_option linter.unusedSimpArgs false
set_option linter.unusedVariables false
set_option maxRecDepth 100000

theorem sumT_le (l : List Tab) : ∀ n, 0 ≤ sumT l n ∧ sumT l n ≤ 24 * n
  | 0 => by simp [sumT]
  | n + 1 => by
    have := sumT_le l n
    have := tsize_le (tb l n)
    simp only [sumT]; omega
open Classical in
noncomputable def seatsV (t : Tab) : Int := if chk t = 0 then tsize t else 0
theorem seats_ok {h0 : AH} (w : WfH h0) (t : Tab) (r : TabR h0 t) : Fn Tryz.prog Xh 29 [tabV t] h0 (fun v h' => v = .int .i64 (seatsV t) ∧ Hs h0 h' []) := by
  have S := Hs.start w
  refine Fn_K rfl Tryz.func29 rfl rfl ?_
  all_goals (repeat' (first | refine K_seq ?_ | refine k_cond rfl ?_ | refine K_skip ?_ | refine K_exit ?_ | refine k_block ?_ | refine K_scope ?_ | (refine K_region (id := 0) ?_; (refine bx S ?_; clear S; intro b h S); refine mv ?_; refine KO_nil ?_) | (refine K_region (id := 1) ?_; (first | refine lB S rfl rfl ?_ | refine lES S rfl rfl ?_ | refine lEB S ?_ | refine lH S ?_))))
  (refine KO_fn rfl rfl rfl rfl rfl ((check_ok S.wf t (r.ext w S.ext)).mono ?_); rintro _ h ⟨rfl, x⟩) <;> (replace S := S.join0 x; clear x; (first | refine cT ?_ | refine cF ?_ | (refine cS ?_ ?_ <;> intro hc)) <;> (refine KO_nil ?_))
  all_goals (repeat' (first | refine K_seq ?_ | refine k_cond rfl ?_ | refine K_skip ?_ | refine K_exit ?_ | refine k_block ?_ | refine K_scope ?_ | (refine K_region (id := 2) ?_; refine mv ?_; refine KO_nil ?_) | (refine K_region (id := 3) ?_; (first | refine lB S rfl rfl ?_ | refine lES S rfl rfl ?_ | refine lEB S ?_ | refine lH S ?_))))
  · refine K_ret ⟨_, rfl, ?_⟩
    exact ⟨by unfold seatsV; rw [if_neg hc]; rfl, S.drop⟩
  · (refine KO_fn rfl rfl rfl rfl rfl ((size_ok S.wf t).mono ?_); rintro _ h ⟨rfl, x⟩) <;> (replace S := S.join0 x; clear x; refine mv ?_; refine KO_nil ?_)
    all_goals (repeat' (first | refine K_seq ?_ | refine k_cond rfl ?_ | refine K_skip ?_ | refine K_exit ?_ | refine k_block ?_ | refine K_scope ?_))
    refine K_ret ⟨_, rfl, ?_⟩
    exact ⟨by unfold seatsV; rw [if_pos (by simpa using hc)]; rfl, S.drop⟩
open Classical in
noncomputable def firstV (l : List Tab) (t : Int) : Int := if 0 ≤ t ∧ t < l.length ∧ ValidL l then sumT l t.toNat else 0
theorem first_ok {h0 : AH} (w : WfH h0) (v : Value) (l : List Tab) (H : HallR h0 v l) (t : Int) : Fn Tryz.prog Xh 31 [v, .int .i64 t] h0 (fun r h' => r = .int .i64 (firstV l t) ∧ Hs h0 h' []) := by
  have S := Hs.start w
  have hl := H.len
  have hr := H.rd
  by_cases ht0 : t < 0
  · refine Fn_K rfl Tryz.func31 rfl rfl ?_
    all_goals (repeat' (first | refine K_seq ?_ | refine k_cond rfl ?_ | refine K_skip ?_ | refine K_exit ?_ | refine k_block ?_ | refine K_scope ?_ | (refine K_region (id := 0) ?_; refine mv ?_; refine KO_nil ?_) | (refine K_region (id := 1) ?_; refine mv ?_; (first | refine cT ?_ | refine cF ?_ | (refine cS ?_ ?_ <;> intro hc)) <;> (refine mv ?_; (first | refine off ?_ | refine mv ?_); (first | refine off ?_ | refine mv ?_); (first | refine off ?_ | (first | refine lnB S ?_ | refine lnS S rfl rfl ?_)); (first | refine off ?_ | (first | refine cT ?_ | refine cF ?_ | (refine cS ?_ ?_ <;> intro hc))) <;> (refine vl ?_; refine mv ?_; (first | refine off ?_ | refine mv ?_); (first | (refine off ?_; (first | refine off ?_ | refine vl ?_); refine vl ?_; refine KO_nil ?_) | skip)))) | (refine K_region (id := 2) ?_; refine mv ?_; refine KO_nil ?_) | (refine K_region (id := 3) ?_; refine mv ?_; refine KO_nil ?_) | (refine K_region (id := 4) ?_; refine mv ?_; refine mv ?_)))
    all_goals (try omega)
    refine K_ret ⟨_, rfl, ?_⟩
    exact ⟨by unfold firstV; rw [if_neg (by omega)]; rfl, S⟩
  obtain ⟨n, rfl⟩ := Int.eq_ofNat_of_zero_le (show 0 ≤ t by omega)
  refine Fn_K rfl Tryz.func31 rfl rfl ?_
  all_goals (repeat' (first | refine K_seq ?_ | refine k_cond rfl ?_ | refine K_skip ?_ | refine K_exit ?_ | refine k_block ?_ | refine K_scope ?_ | (refine K_region (id := 0) ?_; refine mv ?_; refine KO_nil ?_) | (refine K_region (id := 1) ?_; refine mv ?_; (first | refine cT ?_ | refine cF ?_ | (refine cS ?_ ?_ <;> intro hc)) <;> (refine mv ?_; (first | refine off ?_ | refine mv ?_); (first | refine off ?_ | refine mv ?_); (first | refine off ?_ | (first | refine lnB S ?_ | refine lnS S rfl rfl ?_)); (first | refine off ?_ | (first | refine cT ?_ | refine cF ?_ | (refine cS ?_ ?_ <;> intro hc))) <;> (refine vl ?_; refine mv ?_; (first | refine off ?_ | refine mv ?_); (first | (refine off ?_; (first | refine off ?_ | refine vl ?_); refine vl ?_; refine KO_nil ?_) | skip)))) | (refine K_region (id := 2) ?_; refine mv ?_; refine KO_nil ?_) | (refine K_region (id := 3) ?_; refine mv ?_; refine KO_nil ?_) | (refine K_region (id := 4) ?_; refine mv ?_; refine mv ?_)))
  all_goals (try omega)
  · refine K_ret ⟨_, rfl, ?_⟩
    exact ⟨by unfold firstV; rw [if_neg (by omega)]; rfl, S⟩
  · (refine KO_fn rfl rfl rfl rfl rfl ((valid_ok S.wf v l H).mono ?_); rintro _ h ⟨⟨rfl, hq⟩ | ⟨rfl, hq⟩, x⟩) <;> (replace S := S.join0 x; clear x; (first | refine off ?_ | refine vl ?_); refine vl ?_; refine KO_nil ?_)
    all_goals (repeat' (first | refine K_seq ?_ | refine k_cond rfl ?_ | refine K_skip ?_ | refine K_exit ?_ | refine k_block ?_ | refine K_scope ?_ | (refine K_region (id := 2) ?_; refine mv ?_; refine KO_nil ?_) | (refine K_region (id := 3) ?_; refine mv ?_; refine KO_nil ?_) | (refine K_region (id := 4) ?_; refine mv ?_; refine mv ?_)))
    · refine su 0 n (hr.ext w S.ext) H.cap ?_; intro vs hrs hcs
      have T := S
      have w1 := S.wf
      replace S := Hs.start w1
      have hlen : ((l.drop 0).take (n - 0)).length = n := by simp; omega
      have hget : ∀ k, k < n → ((l.drop 0).take (n - 0)).getD k default = tb l k := fun k hk => by
        unfold tb
        simp only [List.drop_zero, Nat.sub_zero, List.getD_eq_getElem?_getD, List.getElem?_take, if_pos hk]
      generalize ((l.drop 0).take (n - 0)) = ls at hrs hlen hget
      (first | refine lnB S ?_ | refine lnS S rfl rfl ?_); refine mv ?_; refine KO_nil ?_
      all_goals (repeat' (first | refine K_seq ?_ | refine k_cond rfl ?_ | refine K_skip ?_ | refine K_exit ?_ | refine k_block ?_ | refine K_scope ?_))
      refine k_loop (σ := Nat) (fun i h' => Hs h h' [] ∧ i ≤ n) (fun i => n - i) (fun i => [(5, .int .i64 (sumT l i)), (23, vs), (24, .int .i64 n), (25, .int .i64 i)]) 0 (by repeat (first | exact Ks.le_nil _ | refine Ks.le_cons rfl ?_ | refine Ks.le_int ?_)) ?_ ?_
      · exact ⟨S, Nat.zero_le _⟩
      clear S
      rintro i h2 ⟨S, h1⟩
      all_goals (repeat' (first | refine K_seq ?_ | refine k_cond rfl ?_ | refine K_skip ?_ | refine K_exit ?_ | refine k_block ?_ | refine K_scope ?_ | (refine K_region (id := 5) ?_; (first | refine cT ?_ | refine cF ?_ | (refine cS ?_ ?_ <;> intro hc)) <;> (refine KO_nil ?_)) | (refine K_region (id := 6) ?_; (first | refine ixB S ?_ | refine ixS S rfl rfl ?_); (first | refine lB S rfl rfl ?_ | refine lES S rfl rfl ?_ | refine lEB S ?_ | refine lH S ?_); (refine al S ?_; clear S; intro b h S); (first | (refine sB S rfl rfl ?_; clear S; intro h S) | (refine sE S rfl rfl ?_; clear S; intro h S)); refine KO_nil ?_) | (refine K_region (id := 7) ?_; refine mv ?_; (first | refine lB S rfl rfl ?_ | refine lES S rfl rfl ?_ | refine lEB S ?_ | refine lH S ?_)) | (refine K_region (id := 9) ?_; refine mv ?_; refine mv ?_; refine KO_nil ?_)))
      · (try simp only [Int.toNat_natCast] at *)
        have hi : i < n := by omega
        have b1 := sumT_le l i
        have b2 := tsize_le (ls.getD i default)
        (refine KO_fn rfl rfl rfl rfl rfl ((size_ok S.wf (ls.getD i default)).mono ?_); rintro _ h ⟨rfl, x⟩) <;> (replace S := S.join0 x; clear x; (first | refine ad ?_ | refine vl ?_); refine mv ?_; refine KO_nil ?_)
        rw [hget i hi]
        all_goals (repeat' (first | refine K_seq ?_ | refine k_cond rfl ?_ | refine K_skip ?_ | refine K_exit ?_ | refine k_block ?_ | refine K_scope ?_ | (refine K_region (id := 8) ?_; (first | refine ad ?_ | refine vl ?_); refine mv ?_; refine KO_nil ?_)))
        refine ⟨i + 1, ?_, ?_, (by repeat (first | exact Ks.le_nil _ | refine Ks.le_cons rfl ?_ | refine Ks.le_int ?_))⟩
        · show n - (i + 1) < n - i; omega
        · exact ⟨S.drop, by omega⟩
      · refine K_ret ⟨_, rfl, ?_⟩
        have : i = n := by omega
        subst this
        exact ⟨by unfold firstV; rw [if_pos ⟨by omega, by omega, hq⟩, Int.toNat_natCast]; rfl, T.join0 S⟩
    · refine K_ret ⟨_, rfl, ?_⟩
      exact ⟨by unfold firstV; rw [if_neg (fun q => hq q.2.2)]; rfl, S⟩
theorem lastSize_ok {h0 : AH} (w : WfH h0) (v : Value) (l : List Tab) (H : HallR h0 v l) : Fn Tryz.prog Xh 87 [v] h0 (fun r h' => r = .int .i64 (if l.length = 0 then 0 else tsize (tb l (l.length - 1))) ∧ Hs h0 h' []) := by
  have S := Hs.start w
  have hl := H.len
  have hr := H.rd
  refine Fn_K rfl Tryz.func87 rfl rfl ?_
  all_goals (repeat' (first | refine K_seq ?_ | refine k_cond rfl ?_ | refine K_skip ?_ | refine K_exit ?_ | refine k_block ?_ | refine K_scope ?_ | (refine K_region (id := 0) ?_; refine mv ?_; refine KO_nil ?_) | (refine K_region (id := 1) ?_; refine mv ?_; (first | refine lnB S ?_ | refine lnS S rfl rfl ?_); (first | refine cT ?_ | refine cF ?_ | (refine cS ?_ ?_ <;> intro hc)) <;> (refine KO_nil ?_)) | (refine K_region (id := 2) ?_; refine mv ?_; refine KO_nil ?_) | (refine K_region (id := 3) ?_; refine mv ?_; refine mv ?_; (first | refine lnB S ?_ | refine lnS S rfl rfl ?_); (first | refine sb ?_ | refine vl ?_); (first | refine ixB S ?_ | refine ixS S rfl rfl ?_); (first | refine lB S rfl rfl ?_ | refine lES S rfl rfl ?_ | refine lEB S ?_ | refine lH S ?_))))
  · refine K_ret ⟨_, rfl, ?_⟩
    exact ⟨by rw [if_pos (by omega)]; rfl, S⟩
  · (refine KO_fn rfl rfl rfl rfl rfl ((size_ok S.wf _).mono ?_); rintro _ h ⟨rfl, x⟩) <;> (replace S := S.join0 x; clear x; refine mv ?_; refine KO_nil ?_)
    all_goals (repeat' (first | refine K_seq ?_ | refine k_cond rfl ?_ | refine K_skip ?_ | refine K_exit ?_ | refine k_block ?_ | refine K_scope ?_))
    refine K_ret ⟨_, rfl, ?_⟩
    exact ⟨by rw [if_neg (by omega), show l.length - 1 = ((l.length : Int) - 1).toNat by omega]; rfl, S⟩
open Classical in
noncomputable def countV (l : List Tab) : Int := if ValidL l then sumT l l.length else 0
theorem count_ok {h0 : AH} (w : WfH h0) (v : Value) (l : List Tab) (H : HallR h0 v l) : Fn Tryz.prog Xh 33 [v] h0 (fun r h' => r = .int .i64 (countV l) ∧ Hs h0 h' []) := by
  have S := Hs.start w
  have hl := H.len
  have hr := H.rd
  refine Fn_K rfl Tryz.func33 rfl rfl ?_
  all_goals (repeat' (first | refine K_seq ?_ | refine k_cond rfl ?_ | refine K_skip ?_ | refine K_exit ?_ | refine k_block ?_ | refine K_scope ?_ | (refine K_region (id := 0) ?_; refine mv ?_; refine KO_nil ?_) | (refine K_region (id := 1) ?_; refine mv ?_)))
  (refine KO_fn rfl rfl rfl rfl rfl ((valid_ok S.wf v l H).mono ?_); rintro _ h ⟨⟨rfl, hq⟩ | ⟨rfl, hq⟩, x⟩) <;> (replace S := S.join0 x; clear x; refine vl ?_; refine KO_nil ?_)
  all_goals (repeat' (first | refine K_seq ?_ | refine k_cond rfl ?_ | refine K_skip ?_ | refine K_exit ?_ | refine k_block ?_ | refine K_scope ?_ | (refine K_region (id := 2) ?_; refine mv ?_; refine KO_nil ?_) | (refine K_region (id := 3) ?_; refine mv ?_; refine mv ?_; (first | refine lnB S ?_ | refine lnS S rfl rfl ?_); (first | refine sb ?_ | refine vl ?_))))
  · have hs : firstV l ((l.length : Int) - 1) + (if l.length = 0 then 0 else tsize (tb l (l.length - 1))) = sumT l l.length := by
      unfold firstV
      cases hk : l.length with
      | zero => rw [if_neg (by omega)]; simp [sumT]
      | succ k => rw [if_pos ⟨by omega, by omega, hq⟩, if_neg (by omega), show ((k + 1 : Nat) : Int) - 1 = (k : Int) by omega, Int.toNat_natCast, Nat.add_sub_cancel]; rfl
    have b1 := sumT_le l l.length
    (refine KO_fn rfl rfl rfl rfl rfl ((first_ok S.wf v l (H.ext w S.ext) _).mono ?_); rintro _ h ⟨rfl, x⟩) <;> (replace S := S.join0 x; clear x; refine mv ?_)
    (refine KO_fn rfl rfl rfl rfl rfl ((lastSize_ok S.wf v l (H.ext w S.ext)).mono ?_); rintro _ h ⟨rfl, x⟩) <;> (replace S := S.join0 x; clear x; (first | refine ad ?_ | refine vl ?_); refine mv ?_; refine KO_nil ?_)
    all_goals (repeat' (first | refine K_seq ?_ | refine k_cond rfl ?_ | refine K_skip ?_ | refine K_exit ?_ | refine k_block ?_ | refine K_scope ?_))
    refine K_ret ⟨_, rfl, ?_⟩
    exact ⟨by unfold countV; rw [if_pos hq, ← hs]; rfl, S⟩
  · refine K_ret ⟨_, rfl, ?_⟩
    exact ⟨by unfold countV; rw [if_neg hq]; rfl, S⟩

theorem findName_ok {h0 : AH} (w : WfH h0) (t : Tab) (nm : List UInt8) (b : Nat) (hb : h0.get b = some (.cells [str nm] 9 none false)) : Fn Tryz.prog Xh 86 [tabV t, .pointer (some ⟨b, 0, none⟩)] h0 (fun v h' => BoolIs v (t.name = nm) ∧ Hs h0 h' []) := by
  have S := Hs.start w
  refine Fn_K rfl Tryz.func86 rfl rfl ?_
  all_goals (repeat' (first | refine K_seq ?_ | refine k_cond rfl ?_ | refine K_skip ?_ | refine K_exit ?_ | refine k_block ?_ | refine K_scope ?_ | (refine K_region (id := 0) ?_; (refine bx S ?_; clear S; intro b h S); refine mv ?_; refine KO_nil ?_) | (refine K_region (id := 1) ?_; (first | refine vl ?_ | refine fB S ?_ | refine fS S rfl rfl ?_ | refine fA ?_); (first | refine lB S rfl rfl ?_ | refine lES S rfl rfl ?_ | refine lEB S ?_ | refine lH S ?_); (first | refine lB S rfl rfl ?_ | refine lES S rfl rfl ?_ | refine lEB S ?_ | refine lH S ?_); (refine tS ?_ ?_ <;> intro hc) <;> (refine mv ?_; refine KO_nil ?_))))
  all_goals (refine K_ret ⟨_, rfl, ?_⟩)
  all_goals (refine ⟨?_, S.drop⟩; unfold BoolIs)
  · exact .inl ⟨rfl, hc⟩
  · exact .inr ⟨rfl, hc⟩
def FindIs (l : List Tab) (nm : List UInt8) (v : Value) : Prop :=
  (∃ k : Nat, v = .tuple #[.int .i64 k, .bool true] ∧ ValidL l ∧ k < l.length ∧ (tb l k).name = nm ∧ ∀ j, j < k → ¬ (tb l j).name = nm) ∨
  (v = .tuple #[.int .i64 0, .bool false] ∧ (¬ ValidL l ∨ ∀ j, j < l.length → ¬ (tb l j).name = nm))
theorem find_ok {h0 : AH} (w : WfH h0) (v : Value) (l : List Tab) (H : HallR h0 v l) (nm : List UInt8) : Fn Tryz.prog Xh 32 [v, str nm] h0 (fun r h' => FindIs l nm r ∧ Hs h0 h' []) := by
  have S := Hs.start w
  have hl := H.len
  have hr := H.rd
  refine Fn_K rfl Tryz.func32 rfl rfl ?_
  all_goals (repeat' (first | refine K_seq ?_ | refine k_cond rfl ?_ | refine K_skip ?_ | refine K_exit ?_ | refine k_block ?_ | refine K_scope ?_ | (refine K_region (id := 0) ?_; (refine bx S ?_; clear S; intro b h S); refine mv ?_; refine mv ?_; refine KO_nil ?_) | (refine K_region (id := 1) ?_; refine mv ?_; refine vl ?_)))
  have gb := S.gB (b := b)
  have hf : ∀ i h', i < l.length → Hs h h' [] → Fn Tryz.prog Xh 86 (tabV (l.getD i default) :: [.pointer (some ⟨b, 0, none⟩)]) h' (fun v h'' => BoolIs v ((tb l i).name = nm) ∧ Hs h' h'' []) := fun i h' hi x => findName_ok x.wf (tb l i) nm b (x.ext.get S.wf gb)
  (refine KO_fn rfl rfl rfl rfl rfl ((indexTab_ok S.wf v l 86 [.pointer (some ⟨b, 0, none⟩)] (fun i => (tb l i).name = nm) (hr.ext w S.ext) (by omega) hf).mono ?_); rintro _ h ⟨⟨k, hk, rfl, hq, hn⟩ | ⟨rfl, hn⟩, x⟩) <;> (replace S := S.join0 x; clear x; refine mv ?_; refine KO_nil ?_)
  all_goals (repeat' (first | refine K_seq ?_ | refine k_cond rfl ?_ | refine K_skip ?_ | refine K_exit ?_ | refine k_block ?_ | refine K_scope ?_ | (refine K_region (id := 2) ?_; refine mv ?_; (first | refine cT ?_ | refine cF ?_ | (refine cS ?_ ?_ <;> intro hc)) <;> (refine mv ?_; (first | refine off ?_ | refine mv ?_); (first | (refine off ?_; (first | refine off ?_ | refine vl ?_); refine vl ?_; refine KO_nil ?_) | skip))) | (refine K_region (id := 3) ?_; refine mv ?_; refine mv ?_; refine KO_nil ?_) | (refine K_region (id := 4) ?_; refine mv ?_; refine mv ?_; refine mv ?_; refine KO_nil ?_)))
  all_goals (try omega)
  · (refine KO_fn rfl rfl rfl rfl rfl ((valid_ok S.wf v l (H.ext w S.ext)).mono ?_); rintro _ h ⟨⟨rfl, hv⟩ | ⟨rfl, hv⟩, x⟩) <;> (replace S := S.join0 x; clear x; (first | refine off ?_ | refine vl ?_); refine vl ?_; refine KO_nil ?_)
    all_goals (repeat' (first | refine K_seq ?_ | refine k_cond rfl ?_ | refine K_skip ?_ | refine K_exit ?_ | refine k_block ?_ | refine K_scope ?_ | (refine K_region (id := 3) ?_; refine mv ?_; refine mv ?_; refine KO_nil ?_) | (refine K_region (id := 4) ?_; refine mv ?_; refine mv ?_; refine mv ?_; refine KO_nil ?_)))
    all_goals (refine K_ret ⟨_, rfl, ?_⟩)
    · exact ⟨.inl ⟨k, rfl, hv, hk, hq, hn⟩, S.drop⟩
    · exact ⟨.inr ⟨rfl, .inl hv⟩, S.drop⟩
  · refine K_ret ⟨_, rfl, ?_⟩
    exact ⟨.inr ⟨rfl, .inr hn⟩, S.drop⟩

theorem refFirst_ok {h0 : AH} (w : WfH h0) (v : Value) (l : List Tab) (H : HallR h0 v l) (n : Nat) (hn : n ≤ l.length) : Fn Tryz.prog Xh 76 [v, .int .i64 n] h0 (fun r h' => r = .int .i64 (sumT l n) ∧ Hs h0 h' []) := by
  have S := Hs.start w
  have hl := H.len
  have hr := H.rd
  refine Fn_K rfl Tryz.func76 rfl rfl ?_
  all_goals (repeat' (first | refine K_seq ?_ | refine k_cond rfl ?_ | refine K_skip ?_ | refine K_exit ?_ | refine k_block ?_ | refine K_scope ?_ | (refine K_region (id := 0) ?_; refine mv ?_; refine KO_nil ?_) | (refine K_region (id := 1) ?_; refine mv ?_; refine KO_nil ?_) | (refine K_region (id := 2) ?_; refine mv ?_; refine KO_nil ?_)))
  refine k_loop (σ := Nat) (fun i h' => Hs h0 h' [] ∧ i ≤ n) (fun i => n - i) (fun i => [(0, v), (1, .int .i64 n), (5, .int .i64 (sumT l i)), (6, .int .i64 i)]) 0 (by repeat (first | exact Ks.le_nil _ | refine Ks.le_cons rfl ?_ | refine Ks.le_int ?_)) ?_ ?_
  · exact ⟨S, Nat.zero_le _⟩
  clear S
  rintro i h ⟨S, h1⟩
  all_goals (repeat' (first | refine K_seq ?_ | refine k_cond rfl ?_ | refine K_skip ?_ | refine K_exit ?_ | refine k_block ?_ | refine K_scope ?_ | (refine K_region (id := 3) ?_; refine mv ?_; refine mv ?_; (first | refine cT ?_ | refine cF ?_ | (refine cS ?_ ?_ <;> intro hc)) <;> (refine KO_nil ?_)) | (refine K_region (id := 5) ?_; refine mv ?_; refine mv ?_; refine mv ?_; (first | refine ixB S ?_ | refine ixS S rfl rfl ?_); (first | refine lB S rfl rfl ?_ | refine lES S rfl rfl ?_ | refine lEB S ?_ | refine lH S ?_)) | (refine K_region (id := 6) ?_; refine mv ?_; refine mv ?_; refine KO_nil ?_)))
  · (try simp only [Int.toNat_natCast] at *)
    have hi : i < n := by omega
    have b1 := sumT_le l i
    have b2 := tsize_le (tb l i)
    (refine KO_fn rfl rfl rfl rfl rfl ((refSize_ok S.wf (tb l i)).mono ?_); rintro _ h ⟨rfl, x⟩) <;> (replace S := S.join0 x; clear x; (first | refine ad ?_ | refine vl ?_); refine mv ?_; refine KO_nil ?_)
    all_goals (repeat' (first | refine K_seq ?_ | refine k_cond rfl ?_ | refine K_skip ?_ | refine K_exit ?_ | refine k_block ?_ | refine K_scope ?_ | (refine K_region (id := 4) ?_; refine mv ?_; (first | refine ad ?_ | refine vl ?_); refine mv ?_; refine KO_nil ?_)))
    refine ⟨i + 1, ?_, ?_, (by repeat (first | exact Ks.le_nil _ | refine Ks.le_cons rfl ?_ | refine Ks.le_int ?_))⟩
    · show n - (i + 1) < n - i; omega
    · exact ⟨S, by omega⟩
  · refine K_ret ⟨_, rfl, ?_⟩
    have : i = n := by omega
    subst this
    exact ⟨rfl, S⟩
theorem refFirstI_ok {h0 : AH} (w : WfH h0) (v : Value) (l : List Tab) (H : HallR h0 v l) (t : Int) (h1 : 0 ≤ t) (h2 : t ≤ l.length) : Fn Tryz.prog Xh 76 [v, .int .i64 t] h0 (fun r h' => r = .int .i64 (sumT l t.toNat) ∧ Hs h0 h' []) := by
  obtain ⟨n, rfl⟩ := Int.eq_ofNat_of_zero_le h1
  exact refFirst_ok w v l H n (by omega)
def eSt (p : Nat × Nat) : List Value := [.int .i64 (p.1 : Int), .int .i64 (p.2 : Int)]
/-- The seats of the first n tables, and the first k of the next. -/
def SeatsTo (l : List Tab) (n k : Nat) (out : List (Nat × Nat)) : Prop := (out.length : Int) = sumT l n + k ∧ ∀ x, x < out.length → ((out.getD x default).1 < n ∨ ((out.getD x default).1 = n ∧ (out.getD x default).2 < k)) ∧ ((out.getD x default).2 : Int) < tsize (tb l (out.getD x default).1) ∧ (x : Int) = sumT l (out.getD x default).1 + (out.getD x default).2
theorem refSeats_ok {h0 : AH} (w : WfH h0) (v : Value) (l : List Tab) (H : HallR h0 v l) : Fn Tryz.prog Xh 75 [v] h0 (fun r h' => ∃ out, SeatsTo l l.length 0 out ∧ Hs h0 h' [.sl r 143 2 eSt out]) := by
  have S := Hs.start w
  have hl := H.len
  have hr := H.rd
  refine Fn_K rfl Tryz.func75 rfl rfl ?_
  all_goals (repeat' (first | refine K_seq ?_ | refine k_cond rfl ?_ | refine K_skip ?_ | refine K_exit ?_ | refine k_block ?_ | refine K_scope ?_ | (refine K_region (id := 0) ?_; refine mv ?_; refine KO_nil ?_) | (refine K_region (id := 1) ?_; refine mv ?_; refine KO_nil ?_) | (refine K_region (id := 2) ?_; refine mv ?_; refine KO_nil ?_)))
  refine k_loop (σ := Nat × List (Nat × Nat) × Value) (fun (i, out, vo) h' => Hs h0 h' [.sl vo 143 2 eSt out] ∧ i ≤ l.length ∧ SeatsTo l i 0 out) (fun (i, out, vo) => l.length - i) (fun (i, out, vo) => [(0, v), (3, vo), (4, .int .i64 i)]) (0, [], .slice none 0 0) (by repeat (first | exact Ks.le_nil _ | refine Ks.le_cons rfl ?_ | refine Ks.le_int ?_)) ?_ ?_
  · exact ⟨S.nilS, Nat.zero_le _, rfl, fun x hx => absurd hx (Nat.not_lt_zero _)⟩
  clear S
  rintro ⟨i, out, vo⟩ h ⟨S, h1, h2⟩
  all_goals (repeat' (first | refine K_seq ?_ | refine k_cond rfl ?_ | refine K_skip ?_ | refine K_exit ?_ | refine k_block ?_ | refine K_scope ?_ | (refine K_region (id := 3) ?_; refine mv ?_; refine mv ?_; (first | refine lnB S ?_ | refine lnS S rfl rfl ?_); (first | refine cT ?_ | refine cF ?_ | (refine cS ?_ ?_ <;> intro hc)) <;> (refine KO_nil ?_)) | (refine K_region (id := 5) ?_; refine mv ?_; refine KO_nil ?_) | (refine K_region (id := 9) ?_; refine mv ?_; refine mv ?_; refine KO_nil ?_)))
  · have hi : i < l.length := by omega
    have b2 := tsize_le (tb l i)
    refine k_loop (σ := Nat × List (Nat × Nat) × Value) (fun (k, out, vo) h' => Hs h0 h' [.sl vo 143 2 eSt out] ∧ (k : Int) ≤ tsize (tb l i) ∧ SeatsTo l i k out) (fun (k, out, vo) => (tsize (tb l i)).toNat - k) (fun (k, out, vo) => [(0, v), (3, vo), (4, .int .i64 i), (5, .int .i64 k)]) (0, out, vo) (by repeat (first | exact Ks.le_nil _ | refine Ks.le_cons rfl ?_ | refine Ks.le_int ?_)) ?_ ?_
    · exact ⟨S, by simpa using b2.1, h2⟩
    clear S h2
    rintro ⟨k, out, vo⟩ h ⟨S, h3, h4⟩
    all_goals (repeat' (first | refine K_seq ?_ | refine k_cond rfl ?_ | refine K_skip ?_ | refine K_exit ?_ | refine k_block ?_ | refine K_scope ?_ | (refine K_region (id := 6) ?_; refine mv ?_; refine mv ?_; refine mv ?_; (first | refine ixB S ?_ | refine ixS S rfl rfl ?_); (first | refine lB S rfl rfl ?_ | refine lES S rfl rfl ?_ | refine lEB S ?_ | refine lH S ?_))))
    (try simp only [Int.toNat_natCast] at *)
    have b1 := sumT_le l i
    have hol := h4.1
    (refine KO_fn rfl rfl rfl rfl rfl ((refSize_ok S.wf (tb l i)).mono ?_); rintro _ h ⟨rfl, x⟩) <;> (replace S := S.join0 x; clear x; (first | refine cT ?_ | refine cF ?_ | (refine cS ?_ ?_ <;> intro hc)) <;> (refine KO_nil ?_))
    all_goals (repeat' (first | refine K_seq ?_ | refine k_cond rfl ?_ | refine K_skip ?_ | refine K_exit ?_ | refine k_block ?_ | refine K_scope ?_ | (refine K_region (id := 4) ?_; refine mv ?_; (first | refine ad ?_ | refine vl ?_); refine mv ?_; refine KO_nil ?_) | (refine K_region (id := 8) ?_; refine mv ?_; refine mv ?_; refine mv ?_; refine vl ?_; (refine one 2 S ?_; clear S; intro u h S))))
    · refine app (y0 := (i, k)) S rfl rfl ?_; clear S; intro v h S; refine mv ?_; refine KO_nil ?_
      all_goals (repeat' (first | refine K_seq ?_ | refine k_cond rfl ?_ | refine K_skip ?_ | refine K_exit ?_ | refine k_block ?_ | refine K_scope ?_ | (refine K_region (id := 7) ?_; refine mv ?_; (first | refine ad ?_ | refine vl ?_); refine mv ?_; refine KO_nil ?_)))
      refine ⟨(k + 1, out ++ [(i, k)], v), ?_, ?_, (by repeat (first | exact Ks.le_nil _ | refine Ks.le_cons rfl ?_ | refine Ks.le_int ?_))⟩
      · show (tsize (tb l i)).toNat - (k + 1) < (tsize (tb l i)).toNat - k; omega
      · refine ⟨S, by omega, ?_, fun x hx => ?_⟩
        · simp only [List.length_append, List.length_cons, List.length_nil]; omega
        · simp only [List.length_append, List.length_cons, List.length_nil] at hx
          rcases Nat.lt_or_ge x out.length with q | q
          · have e : (out ++ [(i, k)]).getD x default = out.getD x default := by simp only [List.getD_eq_getElem?_getD, List.getElem?_append_left q]
            rw [e]
            have := h4.2 x q
            exact ⟨by omega, this.2⟩
          · obtain rfl : x = out.length := by omega
            have e : (out ++ [(i, k)]).getD out.length default = (i, k) := by simp only [List.getD_eq_getElem?_getD, List.getElem?_append_right (Nat.le_refl _), Nat.sub_self]; rfl
            rw [e]
            exact ⟨.inr ⟨rfl, by simp⟩, by simp only; omega, by simp only; omega⟩
    · refine ⟨(i + 1, out, vo), ?_, ?_, (by repeat (first | exact Ks.le_nil _ | refine Ks.le_cons rfl ?_ | refine Ks.le_int ?_))⟩
      · show l.length - (i + 1) < l.length - i; omega
      · have hk : (k : Int) = tsize (tb l i) := by omega
        refine ⟨S, by omega, by show (out.length : Int) = sumT l i + tsize (tb l i) + (0 : Nat); omega, fun x hx => ?_⟩
        have := h4.2 x hx
        exact ⟨.inl (show (out.getD x default).1 < i + 1 by omega), this.2⟩
  · refine K_ret ⟨_, rfl, ?_⟩
    have : i = l.length := by omega
    subst this
    exact ⟨out, h2, S⟩
end Go.Proofs.Xx

/-
  Rules for unsigned words: shifts, masks, conversions.
-/
namespace Go.Proofs.Xx
open Go
set_option linter.unusedSimpArgs false
set_option linter.unusedVariables false

section
variable {P : Program} {X : Extern} {inR : Bool} {sz : Nat} {L : Ks} {h h0 : AH} {rs : List Rs} {ops : Array Oper} {os : List Oper} {o : Oper} {R : Ks → AH → Prop} {Q : KQ}

theorem wrap_u64 {n : Int} (h : 0 ≤ n ∧ n ≤ 18446744073709551615) : IntKind.u64.wrap n = n := conv_in (by simpa [IntKind.min, IntKind.max, IntKind.signed, IntKind.bits] using h)
theorem wrap_u64_in (n : Int) : 0 ≤ IntKind.u64.wrap n ∧ IntKind.u64.wrap n ≤ 18446744073709551615 := by
  simp only [IntKind.wrap, IntKind.signed, IntKind.bits]
  simp
  omega
/-- To an unsigned word. -/
theorem cW {L' : Ks} {x : Operand} {s d : TypeId} {k k2 : IntKind} {a : Int} (w : KO P X sz ops os L' h R) (ho : o.op = .convert s d x := by exact rfl) (hg : guardA ops L.tree o.guard = some true := by exact rfl) (hx : kA L x = some (.int k a) := by exact rfl) (hs : P.underlying s = some (.int k2) := by exact rfl) (hd : P.underlying d = some (.int .u64) := by exact rfl)
    (hb : 0 ≤ a ∧ a ≤ 18446744073709551615 := by first | omega | grind) (hp : putK sz L o.dst (.int .u64 a) = some L' := by exact rfl) : KO P X sz ops (o :: os) L h R :=
  KO_val hg (by rw [ho]; simp only [aOp, tree_le hx, aConvert, hs, hd, wrap_u64 hb]) hp w
/-- A shift to the right. -/
theorem sR {L' : Ks} {x y : Operand} {ty ty2 : TypeId} {k k2 : IntKind} {a b : Int} (w : KO P X sz ops os L' h R) (ho : o.op = .binOp .shr ty x y ty2 := by exact rfl) (hg : guardA ops L.tree o.guard = some true := by exact rfl) (hx : kA L x = some (.int k a) := by exact rfl) (hy : kA L y = some (.int k2 b) := by exact rfl)
    (hb : decide (b < 0) = false := by exact rfl) (hp : putK sz L o.dst (.int k (a / (2 ^ (min b.toNat k.bits) : Nat))) = some L' := by exact rfl) : KO P X sz ops (o :: os) L h R :=
  KO_bin ho hg hx hy (by
    simp only [aBin, hb]
    rw [Int.fdiv_eq_ediv_of_nonneg _ (by exact_mod_cast Nat.zero_le _)]
    norm_cast) hp w
/-- A shift to the left. -/
theorem sL {L' : Ks} {x y : Operand} {ty ty2 : TypeId} {k2 : IntKind} {a b : Int} (w : KO P X sz ops os L' h R) (ho : o.op = .binOp .shl ty x y ty2 := by exact rfl) (hg : guardA ops L.tree o.guard = some true := by exact rfl) (hx : kA L x = some (.int .u64 a) := by exact rfl) (hy : kA L y = some (.int k2 b) := by exact rfl)
    (hb : 0 ≤ b ∧ b ≤ 62 := by omega) (ha : 0 ≤ a ∧ a ≤ 1 := by omega) (hp : putK sz L o.dst (.int .u64 (a * 2 ^ b.toNat)) = some L' := by exact rfl) : KO P X sz ops (o :: os) L h R :=
  KO_bin ho hg hx hy (by
    have e1 : decide (b < 0) = false := decide_eq_false (by omega)
    have e2 : min b.toNat (IntKind.bits .u64) = b.toNat := Nat.min_eq_left (by show b.toNat ≤ 64; omega)
    have e3 : (2 : Int) ^ b.toNat ≤ 2 ^ 62 := by
      have : (2 : Nat) ^ b.toNat ≤ 2 ^ 62 := Nat.pow_le_pow_right (by omega) (by omega)
      exact_mod_cast this
    have e4 : (0 : Int) < 2 ^ b.toNat := by
      have : 0 < (2 : Nat) ^ b.toNat := Nat.pos_of_ne_zero (by simp)
      exact_mod_cast this
    simp only [aBin, e1, e2]
    rw [wrap_u64]
    have : a = 0 ∨ a = 1 := by omega
    rcases this with rfl | rfl
    · omega
    · omega) hp w
/-- Any word that an operation on words gives. -/
theorem aW {op : BinOp} {x y : Operand} {ty ty2 : TypeId} {k2 : IntKind} {a b : Int} {d : Tmp} (w : ∀ r : Int, 0 ≤ r → r ≤ 18446744073709551615 → KO P X sz ops os (L.put d (.int .u64 r)) h R) (ho : o.op = .binOp op ty x y ty2 := by exact rfl) (hg : guardA ops L.tree o.guard = some true := by exact rfl) (hx : kA L x = some (.int .u64 a) := by exact rfl) (hy : kA L y = some (.int k2 b) := by exact rfl)
    (hop : (match op, k2 with | .shl, _ => decide (b < 0) = false | .xor, .u64 => true = true | .add, .u64 => true = true | .sub, .u64 => true = true | .mul, .u64 => true = true | _, _ => False) := by exact rfl) (hd : o.dst = some d := by exact rfl) (hs : Nat.blt d sz = true := by exact rfl) : KO P X sz ops (o :: os) L h R := by
  have go : ∀ n, aBin P op ty (.int .u64 a) (.int k2 b) = some (.int .u64 (IntKind.u64.wrap n)) → KO P X sz ops (o :: os) L h R := fun n e =>
    KO_bin ho hg hx hy e (by simp only [putK, hd, hs]) (w _ (wrap_u64_in n).1 (wrap_u64_in n).2)
  cases op <;> cases k2 <;> first | (exact go _ (by simp only [aBin, hop]; rfl)) | (exact go _ (by simp only [aBin, decide_true]; rfl)) | (exact hop.elim)
/-- A right shift of any word. -/
theorem aR {x y : Operand} {ty ty2 : TypeId} {k2 : IntKind} {a b : Int} {d : Tmp} (w : ∀ r : Int, 0 ≤ r → r ≤ 18446744073709551615 → KO P X sz ops os (L.put d (.int .u64 r)) h R) (ho : o.op = .binOp .shr ty x y ty2 := by exact rfl) (hg : guardA ops L.tree o.guard = some true := by exact rfl) (hx : kA L x = some (.int .u64 a) := by exact rfl) (hy : kA L y = some (.int k2 b) := by exact rfl)
    (ha : 0 ≤ a ∧ a ≤ 18446744073709551615 := by omega) (hb : decide (b < 0) = false := by exact rfl) (hd : o.dst = some d := by exact rfl) (hs : Nat.blt d sz = true := by exact rfl) : KO P X sz ops (o :: os) L h R := by
  refine sR (a := a) (b := b) (k := .u64) (k2 := k2) (w (a / (2 ^ (min b.toNat 64) : Nat)) ?_ ?_) ho hg hx hy hb (by simp only [putK, hd, hs]; rfl)
  · exact Int.ediv_nonneg ha.1 (by exact_mod_cast Nat.zero_le _)
  · exact Int.le_trans (Int.ediv_le_self _ ha.1) ha.2
/-- A masked word. -/
theorem aM {x y : Operand} {ty ty2 : TypeId} {a b : Int} {d : Tmp} (w : ∀ r : Int, 0 ≤ r → r ≤ b → KO P X sz ops os (L.put d (.int .u64 r)) h R) (ho : o.op = .binOp .and ty x y ty2 := by exact rfl) (hg : guardA ops L.tree o.guard = some true := by exact rfl) (hx : kA L x = some (.int .u64 a) := by exact rfl) (hy : kA L y = some (.int .u64 b) := by exact rfl)
    (hb : 0 ≤ b ∧ b ≤ 18446744073709551615 := by omega) (hd : o.dst = some d := by exact rfl) (hs : Nat.blt d sz = true := by exact rfl) : KO P X sz ops (o :: os) L h R := by
  obtain ⟨m, rfl⟩ := Int.eq_ofNat_of_zero_le hb.1
  have hm : m < 2 ^ 64 := by omega
  have e1 : (BitVec.ofInt 64 (m : Int)).toNat = m := by
    rw [BitVec.ofInt_natCast, BitVec.toNat_ofNat, Nat.mod_eq_of_lt hm]
  have e2 : ((BitVec.ofInt 64 a &&& BitVec.ofInt 64 (m : Int)).toNat) ≤ m := by
    rw [BitVec.toNat_and, e1]; exact Nat.and_le_right
  generalize hr : (BitVec.ofInt 64 a &&& BitVec.ofInt 64 (m : Int)).toNat = r at e2
  refine KO_bin ho hg hx hy (v := .int .u64 (r : Int)) ?_ (by simp only [putK, hd, hs]; rfl) (w _ (by omega) (by omega))
  simp only [aBin, decide_true]
  show some (Value.int .u64 (IntKind.u64.wrap ((BitVec.ofInt 64 a &&& BitVec.ofInt 64 (m : Int)).toNat : Int))) = _
  rw [hr, wrap_u64 (by constructor <;> omega)]
/-- Words added and subtracted within their bounds. -/
theorem sW {L' : Ks} {x y : Operand} {ty ty2 : TypeId} {a b : Int} (w : KO P X sz ops os L' h R) (ho : o.op = .binOp .sub ty x y ty2 := by exact rfl) (hg : guardA ops L.tree o.guard = some true := by exact rfl) (hx : kA L x = some (.int .u64 a) := by exact rfl) (hy : kA L y = some (.int .u64 b) := by exact rfl)
    (hb : 0 ≤ a - b ∧ a - b ≤ 18446744073709551615 := by omega) (hp : putK sz L o.dst (.int .u64 (a - b)) = some L' := by exact rfl) : KO P X sz ops (o :: os) L h R :=
  KO_bin ho hg hx hy (by simp only [aBin, decide_true, wrap_u64 hb]) hp w
/-! ### two pieces of code taken together -/
theorem W_seq_inv {a b : Code} {t : Tr Value} {Q : AX → Tr Value → AH → Prop} (w : W P X inR sz (.seq a b) t h Q) : W P X inR sz a t h (thenW P X inR sz b Q) := by
  obtain ⟨n, x, t', h', h1, h2⟩ := w
  cases n with
  | zero => cases h1
  | succ n =>
    rw [exec_S] at h1
    simp only [execStep] at h1
    split at h1
    · rename_i t1 h3 e
      exact ⟨n, _, _, _, e, n, x, t', h', h1, h2⟩
    · rename_i r hr
      refine ⟨n, x, t', h', h1, ?_⟩
      cases x with
      | norm => exact absurd h1 (by intro q; exact hr _ _ q)
      | exit id => exact h2
      | ret => exact h2
theorem K_assoc {a b c : Code} (w : K P X inR sz (.seq (.seq a b) c) L h Q) : K P X inR sz (.seq a (.seq b c)) L h Q := fun t hk =>
  W_seq ((W_seq_inv (W_seq_inv (w t hk))).mono fun x t' h' q => by
    cases x with
    | norm => exact W_seq q
    | exit id => exact q
    | ret => exact q)
/-- What holds behind a piece of code. -/
def cutB {σ : Type} (I : σ → AH → Prop) (sl : σ → Ks) (Q : KQ) : KQ
  | .norm, L', h' => ∃ s, I s h' ∧ Ks.le (sl s) L'
  | x, L', h' => Q x L' h'
theorem K_cut {σ : Type} {a b : Code} (I : σ → AH → Prop) (sl : σ → Ks) (w1 : K P X inR sz a L h (cutB I sl Q)) (w2 : ∀ s h', I s h' → K P X inR sz b (sl s) h' Q) : K P X inR sz (.seq a b) L h Q :=
  K_seq (w1.mono fun x L' h' q => by
    cases x with
    | norm => obtain ⟨s, q1, q2⟩ := q; exact (w2 s h' q1).le q2
    | exit id => exact q
    | ret => exact q)
/-- Half of a word. -/
theorem sR1 {L' : Ks} {x y : Operand} {ty ty2 : TypeId} {k2 : IntKind} {a : Int} (w : KO P X sz ops os L' h R) (ho : o.op = .binOp .shr ty x y ty2 := by exact rfl) (hg : guardA ops L.tree o.guard = some true := by exact rfl) (hx : kA L x = some (.int .u64 a) := by exact rfl) (hy : kA L y = some (.int k2 1) := by exact rfl)
    (hp : putK sz L o.dst (.int .u64 (a / 2)) = some L' := by exact rfl) : KO P X sz ops (o :: os) L h R := sR (b := 1) w ho hg hx hy rfl (by rw [show (2 ^ (min (1 : Int).toNat (IntKind.bits .u64)) : Nat) = 2 by rfl]; exact hp)
/-! ### the rules of elements, after stores -/
theorem ixS2 {L' : Ks} {x i : Operand} {ty : TypeId} {v : Value} {ik : IntKind} {a : Int} {α : Type} {z : Nat} {enc : α → List Value} {l : List α} (S : Hs h0 h rs) (ho : o.op = .indexAddr ty x i) (hx : kA L x = some v) [k : HasR rs v α z enc l] (w : KO P X sz ops os L' h R) (hg : guardA ops L.tree o.guard = some true := by exact rfl) (hi : kA L i = some (.int ik a) := by exact rfl) (hu : elemZ P ty = some z := by exact rfl)
    (ha : 0 ≤ a ∧ a < l.length := by first | omega | (simp only [List.length_set, List.length_append, List.length_cons, List.length_nil]; omega) | grind) (hp : putK sz L o.dst (elA v z a.toNat 0) = some L' := by exact rfl) : KO P X sz ops (o :: os) L h R := m_idx ho hg hx hi hu (k.rd S) ha hp w
theorem lES2 {α : Type} [Inhabited α] {L' : Ks} {x : Operand} {ty : TypeId} {v u : Value} {z' z k off : Nat} {enc : α → List Value} {l : List α} (S : Hs h0 h rs) (ho : o.op = .load ty x) (hx : kA L x = some (elA v z' k off)) [i : HasR rs v α z enc l] (w : KO P X sz ops os L' h R) (hzz : z' = z := by exact rfl) (hg : guardA ops L.tree o.guard = some true := by exact rfl)
    (hz : ∀ x, (enc x).length = z := by intro _; rfl) (hk : k < l.length := by first | omega | (simp only [List.length_set, List.length_append, List.length_cons, List.length_nil]; omega) | grind) (hv : loadC P ty (enc (l.getD k default)) off = some u := by exact rfl) (hp : putK sz L o.dst u = some L' := by exact rfl) : KO P X sz ops (o :: os) L h R := by
  subst hzz
  exact m_ldE ho hg hx (i.rd S) hz hk hv hp w
theorem sE2 {α : Type} [Inhabited α] {L' : Ks} {x yo : Operand} {ty e : TypeId} {v u : Value} {z' z k off : Nat} {enc : α → List Value} {l : List α} {f : Rs → List Rs} {d : List Rs} {y : α} (S : Hs h0 h rs) (ho : o.op = .store ty x yo) (hx : kA L x = some (elA v z' k off)) [i : HasS rs v α e z enc l f d] (w : ∀ h', Hs h0 h' (f (.sl v e z enc (l.set k y))) → KO P X sz ops os L' h' R)
    (hzz : z' = z := by exact rfl) (hg : guardA ops L.tree o.guard = some true := by exact rfl) (hy : kA L yo = some u := by exact rfl) (hz : ∀ x, (enc x).length = z := by intro _; rfl) (hk : k < l.length := by first | omega | (simp only [List.length_set, List.length_append, List.length_cons, List.length_nil]; omega) | grind) (hv : storeC P ty (enc (l.getD k default)) off u = some (enc y) := by exact rfl) (hp : putK sz L o.dst (.tuple #[]) = some L' := by exact rfl) : KO P X sz ops (o :: os) L h R := by
  subst hzz
  exact m_stE S ho hg hx hy (i.ut _) hz hk hv hp w
end
end Go.Proofs.Xx

/-
  Swapping within a range of a list; ranges in order.
-/
namespace Go.Proofs.Xx
set_option linter.unusedVariables false
set_option linter.unusedSectionVars false

section
variable {α : Type} [Inhabited α]
theorem getD_set (l : List α) {i : Nat} (x : α) (h : i < l.length) (j : Nat) : (l.set i x).getD j default = if j = i then x else l.getD j default := by
  rw [List.getD_eq_getElem?_getD, List.getD_eq_getElem?_getD, List.getElem?_set]
  by_cases e : i = j
  · subst e; rw [if_pos rfl, if_pos rfl, if_pos h]; rfl
  · rw [if_neg e, if_neg (fun q => e q.symm)]
theorem ext_getD {l m : List α} (h : l.length = m.length) (k : ∀ i, i < l.length → l.getD i default = m.getD i default) : l = m := by
  refine List.ext_getElem h fun i q1 q2 => ?_
  have e := k i q1
  rw [List.getD_eq_getElem?_getD, List.getD_eq_getElem?_getD, List.getElem?_eq_getElem q1, List.getElem?_eq_getElem q2] at e
  exact e

/-- Two elements change places. -/
def swp (l : List α) (i j : Nat) : List α := (l.set i (l.getD j default)).set j (l.getD i default)
theorem swp_len (l : List α) (i j : Nat) : (swp l i j).length = l.length := by simp [swp]
theorem swp_get {l : List α} {i j : Nat} (hi : i < l.length) (hj : j < l.length) (k : Nat) : (swp l i j).getD k default = if k = j then l.getD i default else if k = i then l.getD j default else l.getD k default := by
  unfold swp
  rw [getD_set _ _ (by simpa using hj), getD_set _ _ hi]
theorem swp_perm {l : List α} {i j : Nat} (hi : i < l.length) (hj : j < l.length) : (swp l i j).Perm l := by
  unfold swp
  have e1 : l.getD i default = l[i] := by simp [List.getD_eq_getElem?_getD, List.getElem?_eq_getElem hi]
  have e2 : l.getD j default = l[j] := by simp [List.getD_eq_getElem?_getD, List.getElem?_eq_getElem hj]
  rw [e1, e2]
  exact List.set_set_perm hi hj

/-- l' is l, with elements in [a, b) exchanged. -/
inductive Sw (a b : Nat) : List α → List α → Prop
  | refl (l : List α) : Sw a b l l
  | step {l l' : List α} (i j : Nat) (h : Sw a b l l') (hi : a ≤ i ∧ i < b) (hj : a ≤ j ∧ j < b) (hb : b ≤ l'.length) : Sw a b l (swp l' i j)
theorem Sw.len {a b : Nat} {l l' : List α} (h : Sw a b l l') : l'.length = l.length := by
  induction h with
  | refl => rfl
  | step i j h hi hj hb ih => rw [swp_len, ih]
theorem Sw.perm {a b : Nat} {l l' : List α} (h : Sw a b l l') : l'.Perm l := by
  induction h with
  | refl => exact .refl _
  | step i j h hi hj hb ih => exact (swp_perm (by omega) (by omega)).trans ih
theorem Sw.out {a b : Nat} {l l' : List α} (h : Sw a b l l') {k : Nat} (hk : k < a ∨ b ≤ k) : l'.getD k default = l.getD k default := by
  induction h with
  | refl => rfl
  | step i j h hi hj hb ih => rw [swp_get (by omega) (by omega), if_neg (by omega), if_neg (by omega), ih]
theorem Sw.in_ {a b : Nat} {l l' : List α} (h : Sw a b l l') : ∀ {k : Nat}, a ≤ k → k < b → ∃ m, a ≤ m ∧ m < b ∧ l'.getD k default = l.getD m default := by
  induction h with
  | refl => intro k h1 h2; exact ⟨k, h1, h2, rfl⟩
  | step i j h hi hj hb ih =>
    intro k h1 h2
    rw [swp_get (by omega) (by omega)]
    split
    · exact ih hi.1 hi.2
    · split
      · exact ih hj.1 hj.2
      · exact ih h1 h2
theorem Sw.trans {a b : Nat} {l m n : List α} (h : Sw a b l m) (g : Sw a b m n) : Sw a b l n := by
  induction g with
  | refl => exact h
  | step i j g hi hj hb ih => exact .step i j ih hi hj hb
theorem Sw.mono {a b a' b' : Nat} {l m : List α} (h : Sw a b l m) (ha : a' ≤ a) (hb : b ≤ b') (hl : b' ≤ l.length) : Sw a' b' l m := by
  induction h with
  | refl => exact .refl _
  | step i j g hi hj hbl ih =>
    exact .step i j ih ⟨by omega, by omega⟩ ⟨by omega, by omega⟩ (by rw [g.len]; exact hl)
theorem Sw.one {a b : Nat} {l : List α} (i j : Nat) (hi : a ≤ i ∧ i < b) (hj : a ≤ j ∧ j < b) (hb : b ≤ l.length) : Sw a b l (swp l i j) := .step i j (.refl l) hi hj hb

/-- An order by weight. -/
structure WOrd (lt : α → α → Prop) : Prop where
  irr : ∀ x, ¬ lt x x
  tr : ∀ {x y z}, lt x y → lt y z → lt x z
  ntr : ∀ {x y z}, ¬ lt y x → ¬ lt z y → ¬ lt z x
theorem WOrd.asym {lt : α → α → Prop} (W : WOrd lt) {x y : α} (h : lt x y) : ¬ lt y x := fun g => W.irr x (W.tr h g)

/-- The elements in [a, b) stand in order. -/
def Srt (lt : α → α → Prop) (a b : Nat) (l : List α) : Prop := ∀ i j, a ≤ i → i < j → j < b → ¬ lt (l.getD j default) (l.getD i default)
/-- From neighbours. -/
theorem Srt.adj {lt : α → α → Prop} (W : WOrd lt) {a b : Nat} {l : List α} (h : ∀ i, a ≤ i → i + 1 < b → ¬ lt (l.getD (i + 1) default) (l.getD i default)) : Srt lt a b l := by
  intro i j h1 h2 h3
  induction j with
  | zero => omega
  | succ j ih =>
    rcases Nat.lt_or_ge i j with q | q
    · exact W.ntr (ih q (by omega)) (h j (by omega) h3)
    · have : i = j := by omega
      subst this; exact h i h1 h3

/-! ### insertion -/
/-- [a, i] stands in order but for the element at j, which is on its way down. -/
def InsI (lt : α → α → Prop) (a i j : Nat) (l : List α) : Prop := ∀ p q, a ≤ p → p < q → q ≤ i → q ≠ j → ¬ lt (l.getD q default) (l.getD p default)
theorem InsI.start {lt : α → α → Prop} {a i : Nat} {l : List α} (h : Srt lt a i l) : InsI lt a i i l := fun p q h1 h2 h3 h4 => h p q h1 h2 (by omega)
theorem InsI.next {lt : α → α → Prop} (W : WOrd lt) {a i j : Nat} {l : List α} (h : InsI lt a i j l) (hj : a < j) (hji : j ≤ i) (hl : i < l.length) (hc : lt (l.getD j default) (l.getD (j - 1) default)) : InsI lt a i (j - 1) (swp l j (j - 1)) := by
  intro p q h1 h2 h3 h4
  have g := swp_get (l := l) (i := j) (j := j - 1) (by omega) (by omega)
  rw [g q, g p, if_neg h4]
  by_cases e1 : q = j
  · subst e1
    rw [if_pos rfl]
    by_cases e2 : p = q - 1
    · rw [if_pos e2]; exact W.asym hc
    · rw [if_neg e2, if_neg (by omega)]; exact h p (q - 1) h1 (by omega) (by omega) (by omega)
  · rw [if_neg e1]
    by_cases e2 : p = j - 1
    · rw [if_pos e2]; exact h j q (by omega) (by omega) h3 e1
    · rw [if_neg e2]
      by_cases e3 : p = j
      · rw [if_pos e3]; exact h (j - 1) q (by omega) (by omega) h3 e1
      · rw [if_neg e3]; exact h p q h1 h2 h3 e1
theorem InsI.done {lt : α → α → Prop} (W : WOrd lt) {a i j : Nat} {l : List α} (h : InsI lt a i j l) (hc : j ≤ a ∨ ¬ lt (l.getD j default) (l.getD (j - 1) default)) : Srt lt a (i + 1) l := by
  intro p q h1 h2 h3
  by_cases e : q = j
  · subst e
    rcases hc with hc | hc
    · omega
    · by_cases e2 : p = q - 1
      · rw [e2]; exact hc
      · exact W.ntr (h p (q - 1) h1 (by omega) (by omega) (by omega)) hc
  · exact h p q h1 h2 (by omega) e

/-! ### heaps -/
def HeapAt (lt : α → α → Prop) (f hi k : Nat) (l : List α) : Prop :=
  (2 * k + 1 < hi → ¬ lt (l.getD (f + k) default) (l.getD (f + (2 * k + 1)) default)) ∧ (2 * k + 2 < hi → ¬ lt (l.getD (f + k) default) (l.getD (f + (2 * k + 2)) default))
def Heap (lt : α → α → Prop) (f lo hi : Nat) (l : List α) : Prop := ∀ k, lo ≤ k → HeapAt lt f hi k l
/-- A heap but for the element at root, which is on its way down. -/
def SiftI (lt : α → α → Prop) (f lo hi root : Nat) (l : List α) : Prop :=
  (∀ k, lo ≤ k → k ≠ root → HeapAt lt f hi k l) ∧ ∀ k, lo ≤ k → (root = 2 * k + 1 ∨ root = 2 * k + 2) → ∀ c, (c = 2 * root + 1 ∨ c = 2 * root + 2) → c < hi → ¬ lt (l.getD (f + k) default) (l.getD (f + c) default)
theorem SiftI.start {lt : α → α → Prop} {f lo hi : Nat} {l : List α} (h : Heap lt f (lo + 1) hi l) : SiftI lt f lo hi lo l := ⟨fun k h1 h2 => h k (by omega), fun k h1 h2 => by omega⟩
theorem SiftI.done {lt : α → α → Prop} {f lo hi root : Nat} {l : List α} (h : SiftI lt f lo hi root l) (hc : HeapAt lt f hi root l) : Heap lt f lo hi l := fun k h1 => by
  by_cases e : k = root
  · subst e; exact hc
  · exact h.1 k h1 e
theorem SiftI.next {lt : α → α → Prop} (W : WOrd lt) {f lo hi root c : Nat} {l : List α} (h : SiftI lt f lo hi root l) (hr : lo ≤ root) (hcc : c = 2 * root + 1 ∨ c = 2 * root + 2) (hch : c < hi) (hl : f + hi ≤ l.length)
    (hm : ∀ d, (d = 2 * root + 1 ∨ d = 2 * root + 2) → d < hi → ¬ lt (l.getD (f + c) default) (l.getD (f + d) default)) (hc : lt (l.getD (f + root) default) (l.getD (f + c) default)) :
    SiftI lt f lo hi c (swp l (f + root) (f + c)) := by
  have g := swp_get (l := l) (i := f + root) (j := f + c) (by omega) (by omega)
  -- the element at k, after the exchange
  have at_c : (swp l (f + root) (f + c)).getD (f + c) default = l.getD (f + root) default := by rw [g, if_pos rfl]
  have at_r : (swp l (f + root) (f + c)).getD (f + root) default = l.getD (f + c) default := by rw [g, if_neg (by omega), if_pos rfl]
  have at_o : ∀ k, k ≠ c → k ≠ root → (swp l (f + root) (f + c)).getD (f + k) default = l.getD (f + k) default := fun k h1 h2 => by rw [g, if_neg (by omega), if_neg (by omega)]
  refine ⟨fun k h1 h2 => ?_, fun k h1 h2 d hd hdh => ?_⟩
  · by_cases e : k = root
    · subst e
      refine ⟨fun q => ?_, fun q => ?_⟩
      · rw [at_r]
        by_cases e1 : 2 * k + 1 = c
        · rw [e1, at_c]; exact W.asym hc
        · rw [at_o _ e1 (by omega)]; exact hm _ (.inl rfl) q
      · rw [at_r]
        by_cases e1 : 2 * k + 2 = c
        · rw [e1, at_c]; exact W.asym hc
        · rw [at_o _ e1 (by omega)]; exact hm _ (.inr rfl) q
    · have hk := h.1 k h1 e
      rw [HeapAt, at_o k h2 e]
      refine ⟨fun q => ?_, fun q => ?_⟩
      · by_cases e1 : 2 * k + 1 = root
        · rw [e1, at_r]; exact h.2 k h1 (.inl e1.symm) c hcc hch
        · by_cases e2 : 2 * k + 1 = c
          · omega
          · rw [at_o _ e2 e1]; exact hk.1 q
      · by_cases e1 : 2 * k + 2 = root
        · rw [e1, at_r]; exact h.2 k h1 (.inr e1.symm) c hcc hch
        · by_cases e2 : 2 * k + 2 = c
          · omega
          · rw [at_o _ e2 e1]; exact hk.2 q
  · have e : k = root := by omega
    subst e
    rw [at_r, at_o d (by omega) (by omega)]
    have hk := h.1 c (by omega) (by omega)
    rcases hd with hd | hd
    · subst hd; exact hk.1 hdh
    · subst hd; exact hk.2 hdh
theorem Heap.max {lt : α → α → Prop} (W : WOrd lt) {f hi : Nat} {l : List α} (h : Heap lt f 0 hi l) (k : Nat) (hk : k < hi) : ¬ lt (l.getD (f + 0) default) (l.getD (f + k) default) := by
  induction k using Nat.strongRecOn with
  | _ k ih =>
    rcases Nat.eq_zero_or_pos k with e | e
    · subst e; exact W.irr _
    · have hp := h ((k - 1) / 2) (Nat.zero_le _)
      have hi' := ih ((k - 1) / 2) (by omega) (by omega)
      -- ¬ lt root parent, ¬ lt parent k
      rcases (by omega : k = 2 * ((k - 1) / 2) + 1 ∨ k = 2 * ((k - 1) / 2) + 2) with q | q
      · have := hp.1 (by omega)
        rw [← q] at this
        exact W.ntr this hi'
      · have := hp.2 (by omega)
        rw [← q] at this
        exact W.ntr this hi'
/-- The heap is [f, f + i), behind it the greatest stand in order. -/
def HeapI (lt : α → α → Prop) (f i n : Nat) (l : List α) : Prop := Heap lt f 0 i l ∧ ∀ p q, p < q → i ≤ q → q < n → ¬ lt (l.getD (f + q) default) (l.getD (f + p) default)
theorem HeapI.pop {lt : α → α → Prop} (W : WOrd lt) {f i n : Nat} {l l' : List α} (h : HeapI lt f (i + 1) n l) (hin : i < n) (hl : f + n ≤ l.length) (s : Sw f (f + i) (swp l f (f + i)) l') (hh : Heap lt f 0 i l') : HeapI lt f i n l' := by
  refine ⟨hh, fun p q h1 h2 h3 => ?_⟩
  have g := swp_get (l := l) (i := f) (j := f + i) (by omega) (by omega)
  have hq : l'.getD (f + q) default = if q = i then l.getD f default else l.getD (f + q) default := by
    rw [s.out (by omega), g]
    by_cases e : q = i
    · rw [if_pos (by omega), if_pos e]
    · rw [if_neg (by omega), if_neg (by omega), if_neg e]
  rw [hq]
  -- where the element at p was
  have hp : ∃ m, m < n ∧ (m ≤ i ∨ m = p) ∧ m ≤ q ∧ (m < q ∨ q = i) ∧ l'.getD (f + p) default = l.getD (f + m) default := by
    rcases Nat.lt_or_ge p i with q1 | q1
    · obtain ⟨m, m1, m2, m3⟩ := s.in_ (k := f + p) (by omega) (by omega)
      rw [g] at m3
      rw [if_neg (by omega)] at m3
      by_cases e : m = f
      · rw [if_pos e] at m3
        exact ⟨i, by omega, .inl (Nat.le_refl _), by omega, by omega, m3⟩
      · rw [if_neg e] at m3
        exact ⟨m - f, by omega, .inl (by omega), by omega, by omega, by rw [m3]; congr 1; omega⟩
    · rw [s.out (by omega), g]
      by_cases e : p = i
      · refine ⟨0, by omega, .inl (by omega), by omega, by omega, ?_⟩
        rw [if_pos (by omega)]; rfl
      · exact ⟨p, by omega, .inr rfl, by omega, by omega, by rw [if_neg (by omega), if_neg (by omega)]⟩
  obtain ⟨m, m1, m2, m3, m4, m5⟩ := hp
  rw [m5]
  by_cases e : q = i
  · rw [if_pos e]
    exact Heap.max W h.1 m (by omega)
  · rw [if_neg e]
    exact h.2 m q (by omega) (by omega) h3

/-! ### quicksort -/
/-- All pairs in [a, b) stand in order but those within [a', b'). -/
def DoneI (lt : α → α → Prop) (a b a' b' : Nat) (l : List α) : Prop := ∀ i j, a ≤ i → i < j → j < b → (i < a' ∨ b' ≤ j) → ¬ lt (l.getD j default) (l.getD i default)
theorem DoneI.start {lt : α → α → Prop} {a b : Nat} {l : List α} : DoneI lt a b a b l := fun i j h1 h2 h3 h4 => by omega
theorem DoneI.sw {lt : α → α → Prop} {a b a' b' : Nat} {l l' : List α} (h : DoneI lt a b a' b' l) (s : Sw a' b' l l') (h1 : a ≤ a') (h2 : b' ≤ b) : DoneI lt a b a' b' l' := by
  intro i j q1 q2 q3 q4
  rcases q4 with q4 | q4
  · rw [s.out (k := i) (.inl q4)]
    rcases Nat.lt_or_ge j a' with q5 | q5
    · rw [s.out (.inl q5)]; exact h i j q1 q2 q3 (.inl q4)
    · rcases Nat.lt_or_ge j b' with q6 | q6
      · obtain ⟨m, m1, m2, m3⟩ := s.in_ q5 q6
        rw [m3]; exact h i m q1 (by omega) (by omega) (.inl q4)
      · rw [s.out (.inr q6)]; exact h i j q1 q2 q3 (.inl q4)
  · rw [s.out (k := j) (.inr q4)]
    rcases Nat.lt_or_ge i a' with q5 | q5
    · rw [s.out (.inl q5)]; exact h i j q1 q2 q3 (.inl q5)
    · rcases Nat.lt_or_ge i b' with q6 | q6
      · obtain ⟨m, m1, m2, m3⟩ := s.in_ q5 q6
        rw [m3]; exact h m j (by omega) (by omega) q3 (.inr q4)
      · rw [s.out (.inr q6)]; exact h i j q1 q2 q3 (.inr q4)
theorem DoneI.finish {lt : α → α → Prop} {a b a' b' : Nat} {l : List α} (h : DoneI lt a b a' b' l) (s : Srt lt a' b' l) : Srt lt a b l := by
  intro i j q1 q2 q3
  by_cases e : i < a' ∨ b' ≤ j
  · exact h i j q1 q2 q3 e
  · exact s i j (by omega) q2 (by omega)
/-- [a, b) is parted at m: less before it, not less behind it. -/
def Parted (lt : α → α → Prop) (a b m : Nat) (l : List α) : Prop := (∀ k, a ≤ k → k < m → lt (l.getD k default) (l.getD m default)) ∧ ∀ k, m < k → k < b → ¬ lt (l.getD k default) (l.getD m default)
theorem Parted.across {lt : α → α → Prop} (W : WOrd lt) {a b m : Nat} {l : List α} (h : Parted lt a b m l) {i j : Nat} (h1 : a ≤ i) (h2 : i ≤ m) (h3 : m ≤ j) (h4 : j < b) (h5 : i < j) : ¬ lt (l.getD j default) (l.getD i default) := by
  have e1 : ¬ lt (l.getD m default) (l.getD i default) := by
    rcases Nat.lt_or_ge i m with q | q
    · exact W.asym (h.1 i h1 q)
    · have : i = m := by omega
      subst this; exact W.irr _
  have e2 : ¬ lt (l.getD j default) (l.getD m default) := by
    rcases Nat.lt_or_ge m j with q | q
    · exact h.2 j q h4
    · have : j = m := by omega
      subst this; exact W.irr _
  exact W.ntr e1 e2
/-- The left part is put in order: what is left is the right one. -/
theorem DoneI.left {lt : α → α → Prop} (W : WOrd lt) {a b a' b' m : Nat} {l l' : List α} (h : DoneI lt a b a' b' l) (p : Parted lt a' b' m l) (hm : a' ≤ m ∧ m < b') (hab : a ≤ a' ∧ b' ≤ b) (s : Sw a' m l l') (hs : Srt lt a' m l') (hl : b' ≤ l.length) : DoneI lt a b (m + 1) b' l' := by
  have h' := h.sw (s.mono (Nat.le_refl _) (by omega) hl) hab.1 hab.2
  intro i j q1 q2 q3 q4
  by_cases e : i < a' ∨ b' ≤ j
  · exact h' i j q1 q2 q3 e
  · rcases q4 with q4 | q4
    · rcases Nat.lt_or_ge j m with q5 | q5
      · exact hs i j (by omega) q2 q5
      · rw [s.out (k := j) (.inr q5)]
        rcases Nat.lt_or_ge i m with q6 | q6
        · obtain ⟨k, k1, k2, k3⟩ := s.in_ (k := i) (by omega) q6
          rw [k3]; exact p.across W k1 (by omega) q5 (by omega) (by omega)
        · rw [s.out (.inr q6)]; exact p.across W (by omega) (by omega) q5 (by omega) q2
    · omega
theorem DoneI.right {lt : α → α → Prop} (W : WOrd lt) {a b a' b' m : Nat} {l l' : List α} (h : DoneI lt a b a' b' l) (p : Parted lt a' b' m l) (hm : a' ≤ m ∧ m < b') (hab : a ≤ a' ∧ b' ≤ b) (s : Sw (m + 1) b' l l') (hs : Srt lt (m + 1) b' l') (hl : b' ≤ l.length) : DoneI lt a b a' m l' := by
  have h' := h.sw (s.mono (by omega) (Nat.le_refl _) hl) hab.1 hab.2
  intro i j q1 q2 q3 q4
  by_cases e : i < a' ∨ b' ≤ j
  · exact h' i j q1 q2 q3 e
  · rcases q4 with q4 | q4
    · omega
    · rcases Nat.lt_or_ge m i with q5 | q5
      · exact hs i j (by omega) q2 (by omega)
      · rw [s.out (k := i) (.inl (by omega))]
        rcases Nat.lt_or_ge m j with q6 | q6
        · obtain ⟨k, k1, k2, k3⟩ := s.in_ (k := j) (by omega) (by omega)
          rw [k3]; exact p.across W (by omega) q5 (by omega) k2 (by omega)
        · rw [s.out (.inl (by omega))]; exact p.across W (by omega) q5 (by omega) (by omega) q2
/-- Elements that are not greater than x in front, greater ones behind; none is less than x. -/
theorem DoneI.eq_ {lt : α → α → Prop} (W : WOrd lt) {a b a' b' m : Nat} {l : List α} {x : α} (h : DoneI lt a b a' b' l) (hm : a' ≤ m ∧ m ≤ b') (h1 : ∀ k, a' ≤ k → k < m → ¬ lt x (l.getD k default)) (h2 : ∀ k, m ≤ k → k < b' → lt x (l.getD k default)) (h3 : ∀ k, a' ≤ k → k < b' → ¬ lt (l.getD k default) x) : DoneI lt a b m b' l := by
  intro i j q1 q2 q3 q4
  by_cases e : i < a' ∨ b' ≤ j
  · exact h i j q1 q2 q3 e
  · rcases q4 with q4 | q4
    · exact W.ntr (h1 i (by omega) q4) (h3 j (by omega) (by omega))
    · omega
theorem Sw.all {a b : Nat} {l l' : List α} (s : Sw a b l l') {p : α → Prop} (h : ∀ k, a ≤ k → k < b → p (l.getD k default)) : ∀ k, a ≤ k → k < b → p (l'.getD k default) := fun k h1 h2 => by
  obtain ⟨m, m1, m2, m3⟩ := s.in_ h1 h2
  rw [m3]; exact h m m1 m2
end
end Go.Proofs.Xx

/-
  Merging by symmetric comparisons: two runs become one, rotations.
-/
namespace Go.Proofs.Xx
set_option linter.unusedVariables false
set_option linter.unusedSectionVars false

section
variable {α : Type} [Inhabited α]
/-- n elements from a on and from b on change places. -/
def xch (a b n k : Nat) : Nat := if a ≤ k ∧ k < a + n then k + (b - a) else if b ≤ k ∧ k < b + n then k - (b - a) else k
def IsXch (a b n : Nat) (l l' : List α) : Prop := ∀ k, l'.getD k default = l.getD (xch a b n k) default
theorem IsXch.zero {a b : Nat} {l : List α} : IsXch a b 0 l l := fun k => by
  unfold xch
  rw [if_neg (by omega), if_neg (by omega)]
theorem IsXch.next {a b i : Nat} {l l' : List α} (h : IsXch a b i l l') (hab : a + i < b) (hl : b + i < l'.length) : IsXch a b (i + 1) l (swp l' (a + i) (b + i)) := fun k => by
  rw [swp_get (by omega) hl]
  rw [h, h, h]
  unfold xch
  repeat' split
  all_goals first | omega | rfl | (congr 1 <;> omega)
/-- Two neighbouring parts change places. -/
def rot (a m b k : Nat) : Nat := if k < a then k else if k < a + (b - m) then k + (m - a) else if k < b then k - (b - m) else k
def IsRot (a m b : Nat) (l l' : List α) : Prop := ∀ k, l'.getD k default = l.getD (rot a m b k) default
/-- l, rotated, is c, rotated between i before m and j behind it. -/
def RotI (a m b i j : Nat) (l c : List α) : Prop := ∀ k, l.getD (rot a m b k) default = c.getD (rot (m - i) m (m + j) k) default
theorem RotI.start {a m b : Nat} {l : List α} (h1 : a ≤ m) (h2 : m ≤ b) : RotI a m b (m - a) (b - m) l l := fun k => by
  rw [show m - (m - a) = a by omega, show m + (b - m) = b by omega]
theorem RotI.left {a m b i j : Nat} {l c c' : List α} (h : RotI a m b i j l c) (hi : i ≤ m) (hij : j < i) (x : IsXch (m - i) m j c c') : RotI a m b (i - j) j l c' := fun k => by
  rw [h k, x]
  congr 1
  unfold xch rot
  repeat' split
  all_goals omega
theorem RotI.right {a m b i j : Nat} {l c c' : List α} (h : RotI a m b i j l c) (hi : i ≤ m) (hij : i < j) (x : IsXch (m - i) (m + j - i) i c c') : RotI a m b i (j - i) l c' := fun k => by
  rw [h k, x]
  congr 1
  unfold xch rot
  repeat' split
  all_goals omega
theorem RotI.done {a m b i : Nat} {l c c' : List α} (h : RotI a m b i i l c) (hi : i ≤ m) (x : IsXch (m - i) m i c c') : IsRot a m b l c' := fun k => by
  rw [h k, x]
  congr 1
  unfold xch rot
  repeat' split
  all_goals omega

/-- An element goes up from a to k. -/
def IsUp (a k : Nat) (l l' : List α) : Prop := ∀ x, l'.getD x default = l.getD (if x < a then x else if x < k then x + 1 else if x = k then a else x) default
theorem IsUp.start {a : Nat} {l : List α} : IsUp a a l l := fun x => by
  congr 1
  repeat' split
  all_goals omega
theorem IsUp.next {a k : Nat} {l l' : List α} (h : IsUp a k l l') (hak : a ≤ k) (hl : k + 1 < l'.length) : IsUp a (k + 1) l (swp l' k (k + 1)) := fun x => by
  rw [swp_get (by omega) hl]
  rw [h, h, h]
  repeat' split
  all_goals first | omega | rfl | (congr 1 <;> omega)
/-- An element goes down from m to k. -/
def IsDown (m k : Nat) (l l' : List α) : Prop := ∀ x, l'.getD x default = l.getD (if x < k then x else if x = k then m else if x ≤ m then x - 1 else x) default
theorem IsDown.start {m : Nat} {l : List α} : IsDown m m l l := fun x => by
  congr 1
  repeat' split
  all_goals omega
theorem IsDown.next {m k : Nat} {l l' : List α} (h : IsDown m k l l') (hk : 0 < k ∧ k ≤ m) (hl : m < l'.length) : IsDown m (k - 1) l (swp l' k (k - 1)) := fun x => by
  rw [swp_get (by omega) (by omega)]
  rw [h, h, h]
  repeat' split
  all_goals first | omega | rfl | (congr 1 <;> omega)
end

/-- By a key, and by number where the keys are the same. -/
def lexi (key : Int → Int) (x y : Int) : Prop := key x < key y ∨ (key x = key y ∧ x < y)
theorem lexi_ord (key : Int → Int) : WOrd (lexi key) where
  irr x h := by unfold lexi at h; omega
  tr h1 h2 := by unfold lexi at *; omega
  ntr h1 h2 := by unfold lexi at *; omega
theorem lexi_key {key : Int → Int} {x y : Int} (h : y < x) : lexi key x y ↔ key x < key y := by unfold lexi; omega

/-- Two runs; what is in the first has the lesser numbers. -/
structure Mrg (key : Int → Int) (a m b : Nat) (l : List Int) : Prop where
  sl : Srt (lexi key) a m l
  sr : Srt (lexi key) m b l
  cr : ∀ p q, a ≤ p → p < m → m ≤ q → q < b → l.getD p default < l.getD q default

theorem Mrg.up {key : Int → Int} {a b i : Nat} {l l' : List Int} (h : Mrg key a (a + 1) b l) (hi : a + 1 ≤ i ∧ i ≤ b) (h1 : ∀ k, a + 1 ≤ k → k < i → lexi key (l.getD k default) (l.getD a default)) (h2 : ∀ k, i ≤ k → k < b → ¬ lexi key (l.getD k default) (l.getD a default)) (u : IsUp a (i - 1) l l') : Srt (lexi key) a b l' := by
  have W := lexi_ord key
  have u1 : ∀ x, a ≤ x → x < i - 1 → l'.getD x default = l.getD (x + 1) default := fun x q1 q2 => by rw [u x, if_neg (by omega), if_pos q2]
  have u2 : l'.getD (i - 1) default = l.getD a default := by
    rw [u, if_neg (by omega), if_neg (by omega), if_pos rfl]
  have u3 : ∀ x, i - 1 < x → l'.getD x default = l.getD x default := fun x q1 => by rw [u x, if_neg (by omega), if_neg (by omega), if_neg (by omega)]
  intro p q q1 q2 q3
  rcases Nat.lt_trichotomy p (i - 1) with e1 | e1 | e1
  · rw [u1 p q1 e1]
    rcases Nat.lt_trichotomy q (i - 1) with e2 | e2 | e2
    · rw [u1 q (by omega) e2]; exact h.sr _ _ (by omega) (by omega) (by omega)
    · rw [e2, u2]; exact W.asym (h1 _ (by omega) (by omega))
    · rw [u3 q e2]; exact h.sr _ _ (by omega) (by omega) (by omega)
  · rw [e1, u2, u3 q (by omega)]; exact h2 _ (by omega) q3
  · rw [u3 p e1, u3 q (by omega)]; exact h.sr _ _ (by omega) (by omega) (by omega)
theorem Mrg.down {key : Int → Int} {a m i : Nat} {l l' : List Int} (h : Mrg key a m (m + 1) l) (hi : a ≤ i ∧ i ≤ m) (h1 : ∀ k, a ≤ k → k < i → ¬ lexi key (l.getD m default) (l.getD k default)) (h2 : ∀ k, i ≤ k → k < m → lexi key (l.getD m default) (l.getD k default)) (u : IsDown m i l l') : Srt (lexi key) a (m + 1) l' := by
  have W := lexi_ord key
  have u1 : ∀ x, x < i → l'.getD x default = l.getD x default := fun x q1 => by rw [u x, if_pos q1]
  have u2 : l'.getD i default = l.getD m default := by
    rw [u, if_neg (by omega), if_pos rfl]
  have u3 : ∀ x, i < x → x ≤ m → l'.getD x default = l.getD (x - 1) default := fun x q1 q2 => by rw [u x, if_neg (by omega), if_neg (by omega), if_pos q2]
  intro p q q1 q2 q3
  rcases Nat.lt_trichotomy p i with e1 | e1 | e1
  · rw [u1 p e1]
    rcases Nat.lt_trichotomy q i with e2 | e2 | e2
    · rw [u1 q e2]; exact h.sl _ _ (by omega) (by omega) (by omega)
    · rw [e2, u2]; exact h1 _ (by omega) (by omega)
    · rw [u3 q e2 (by omega)]; exact h.sl _ _ (by omega) (by omega) (by omega)
  · rw [e1, u2, u3 q (by omega) (by omega)]; exact W.asym (h2 _ (by omega) (by omega))
  · rw [u3 p e1 (by omega), u3 q (by omega) (by omega)]; exact h.sl _ _ (by omega) (by omega) (by omega)

/-- The search: at s the low end, at r the high one. -/
structure SrI (key : Int → Int) (a m b mid s r : Nat) (l : List Int) : Prop where
  lo : (if m > mid then mid + m - b else a) ≤ s
  sr : s ≤ r
  hi : r ≤ (if m > mid then mid else m)
  low : (if m > mid then mid + m - b else a) < s → ¬ lexi key (l.getD (mid + m - s) default) (l.getD (s - 1) default)
  high : r < (if m > mid then mid else m) → lexi key (l.getD (mid + m - 1 - r) default) (l.getD r default)
theorem Mrg.search {key : Int → Int} {a m b mid s : Nat} {l l2 : List Int} (h : Mrg key a m b l) (hm : mid = (a + b) / 2) (hab : a < m ∧ m < b) (I : SrI key a m b mid s s l)
    (hr : IsRot s m (mid + m - s) l l2) : (a ≤ s ∧ s ≤ mid ∧ s ≤ m ∧ m ≤ mid + m - s ∧ mid + m - s ≤ b) ∧ Mrg key a s mid l2 ∧ Mrg key mid (mid + m - s) b l2 ∧ ∀ x y, a ≤ x → x < mid → mid ≤ y → y < b → ¬ lexi key (l2.getD y default) (l2.getD x default) := by
  have W := lexi_ord key
  have lo := I.lo
  have hi := I.hi
  have low := I.low
  have high := I.high
  have hs : a ≤ s ∧ s ≤ mid ∧ s ≤ m ∧ m ≤ mid + m - s ∧ mid + m - s ≤ b := by
    split at lo <;> split at hi <;> omega
  have r1 : ∀ k, k < s → l2.getD k default = l.getD k default := fun k hk => by rw [hr k]; unfold rot; rw [if_pos hk]
  have r2 : ∀ k, s ≤ k → k < mid → l2.getD k default = l.getD (k + (m - s)) default := fun k h1 h2 => by rw [hr k]; unfold rot; rw [if_neg (by omega), if_pos (by omega)]
  have r3 : ∀ k, mid ≤ k → k < mid + m - s → l2.getD k default = l.getD (k - (mid - s)) default := fun k h1 h2 => by
    rw [hr k]; unfold rot; rw [if_neg (by omega), if_neg (by omega), if_pos (by omega)]; congr 1; omega
  have r4 : ∀ k, mid + m - s ≤ k → l2.getD k default = l.getD k default := fun k h1 => by rw [hr k]; unfold rot; rw [if_neg (by omega), if_neg (by omega), if_neg (by omega)]
  refine ⟨hs, ⟨fun i j q1 q2 q3 => ?_, fun i j q1 q2 q3 => ?_, fun p q q1 q2 q3 q4 => ?_⟩, ⟨fun i j q1 q2 q3 => ?_, fun i j q1 q2 q3 => ?_, fun p q q1 q2 q3 q4 => ?_⟩, fun x y q1 q2 q3 q4 => ?_⟩
  · rw [r1 i (by omega), r1 j q3]; exact h.sl i j q1 q2 (by omega)
  · rw [r2 i q1 (by omega), r2 j (by omega) q3]; exact h.sr _ _ (by omega) (by omega) (by omega)
  · rw [r1 p q2, r2 q q3 q4]; exact h.cr _ _ q1 (by omega) (by omega) (by omega)
  · rw [r3 i q1 (by omega), r3 j (by omega) q3]; exact h.sl _ _ (by omega) (by omega) (by omega)
  · rw [r4 i q1, r4 j (by omega)]; exact h.sr _ _ (by omega) q2 q3
  · rw [r3 p q1 q2, r4 q q3]; exact h.cr _ _ (by omega) (by omega) (by omega) q4
  · -- what is behind the middle of the first run, or of the second one
    have le_of : ∀ {i j : Nat}, a ≤ i → i ≤ j → j < m → ¬ lexi key (l.getD j default) (l.getD i default) := fun {i j} g1 g2 g3 => by
      rcases Nat.lt_or_ge i j with q | q
      · exact h.sl i j g1 q g3
      · have : i = j := by omega
        subst this; exact W.irr _
    have le_of2 : ∀ {i j : Nat}, m ≤ i → i ≤ j → j < b → ¬ lexi key (l.getD j default) (l.getD i default) := fun {i j} g1 g2 g3 => by
      rcases Nat.lt_or_ge i j with q | q
      · exact h.sr i j g1 q g3
      · have : i = j := by omega
        subst this; exact W.irr _
    rcases Nat.lt_or_ge x s with e1 | e1
    · rw [r1 x e1]
      rcases Nat.lt_or_ge y (mid + m - s) with e2 | e2
      · rw [r3 y q3 e2]; exact le_of q1 (by omega) (by omega)
      · rw [r4 y e2]
        have g : ¬ lexi key (l.getD (mid + m - s) default) (l.getD (s - 1) default) := low (by split <;> omega)
        have g1 : ¬ lexi key (l.getD (s - 1) default) (l.getD x default) := le_of q1 (by omega) (by omega)
        have g2 : ¬ lexi key (l.getD y default) (l.getD (mid + m - s) default) := le_of2 (by omega) e2 q4
        exact W.ntr (W.ntr g1 g) g2
    · rw [r2 x e1 q2]
      rcases Nat.lt_or_ge y (mid + m - s) with e2 | e2
      · rw [r3 y q3 e2]
        have g : lexi key (l.getD (mid + m - 1 - s) default) (l.getD s default) := high (by split <;> omega)
        have g1 : ¬ lexi key (l.getD (y - (mid - s)) default) (l.getD s default) := le_of (by omega) (by omega) (by omega)
        have g2 : ¬ lexi key (l.getD (mid + m - 1 - s) default) (l.getD (x + (m - s)) default) := le_of2 (by omega) (by omega) (by omega)
        exact W.ntr (W.ntr g2 (W.asym g)) g1
      · rw [r4 y e2]; exact le_of2 (by omega) (by omega) q4
/-- Both halves in order, and across. -/
theorem srt_halves {key : Int → Int} {a mid b : Nat} {l2 l3 l4 : List Int} (hc : ∀ x y, a ≤ x → x < mid → mid ≤ y → y < b → ¬ lexi key (l2.getD y default) (l2.getD x default)) (s3 : Sw a mid l2 l3) (h3 : Srt (lexi key) a mid l3) (s4 : Sw mid b l3 l4) (h4 : Srt (lexi key) mid b l4) (hm : mid ≤ b) : Srt (lexi key) a b l4 := by
  intro i j q1 q2 q3
  rcases Nat.lt_or_ge j mid with e1 | e1
  · rw [s4.out (.inl e1), s4.out (k := i) (.inl (by omega))]; exact h3 i j q1 q2 e1
  · rcases Nat.lt_or_ge i mid with e2 | e2
    · rw [s4.out (k := i) (.inl e2)]
      obtain ⟨n, n1, n2, n3⟩ := s4.in_ e1 q3
      obtain ⟨k, k1, k2, k3⟩ := s3.in_ q1 e2
      rw [n3, k3, s3.out (.inr n1)]
      exact hc k n k1 k2 n1 n2
    · exact h4 i j e2 q2 q3
theorem Mrg.sw_right {key : Int → Int} {a mid m b : Nat} {l2 l3 : List Int} (h : Mrg key mid m b l2) (s : Sw a mid l2 l3) (hm : mid ≤ m) : Mrg key mid m b l3 := by
  have e : ∀ k, mid ≤ k → l3.getD k default = l2.getD k default := fun k hk => s.out (.inr hk)
  exact ⟨fun i j q1 q2 q3 => by rw [e i q1, e j (by omega)]; exact h.sl i j q1 q2 q3, fun i j q1 q2 q3 => by rw [e i (by omega), e j (by omega)]; exact h.sr i j q1 q2 q3, fun p q q1 q2 q3 q4 => by rw [e p q1, e q (by omega)]; exact h.cr p q q1 q2 q3 q4⟩
end Go.Proofs.Xx
