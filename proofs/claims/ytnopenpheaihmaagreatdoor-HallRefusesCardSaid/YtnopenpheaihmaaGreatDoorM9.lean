/-
  The check of a hall, the program's and the reference's.
-/
import Derived.Test.YtnopenpheaihmaaGreatDoorM8
import Derived.Test.YtnopenpheaihmaaGreatDoorM4
import Derived.Test.YtnopenpheaihmaaGreatDoorM6

namespace Go.Proofs.Xx
open Go Go.Proofs
set_option linter.unusedSimpArgs false
set_option linter.unusedVariables false
set_option maxRecDepth 100000

abbrev tb (l : List Tab) (i : Nat) : Tab := l.getD i default
def dupAt (l : List Tab) (k : Nat) : Prop := ∃ j, j < k ∧ (tb l j).name = (tb l k).name
def goodAt (l : List Tab) (k : Nat) : Prop := chk (tb l k) = 0 ∧ ¬ dupAt l k
def ChkAll (l : List Tab) (i e : Int) : Prop :=
  (16 < l.length ∧ i = 0 ∧ e = 7) ∨ (l.length ≤ 16 ∧ ((∃ k : Nat, k < l.length ∧ i = k ∧ (∀ j, j < k → goodAt l j) ∧ ((chk (tb l k) ≠ 0 ∧ e = chk (tb l k)) ∨ (chk (tb l k) = 0 ∧ dupAt l k ∧ e = 5))) ∨ ((∀ j, j < l.length → goodAt l j) ∧ i = 0 ∧ e = 0)))
/-- What a hall reads as. -/
structure HallR (h : AH) (v : Value) (l : List Tab) : Prop where
  rd : RdL h v 7 eT l
  tab : ∀ i, i < l.length → TabR h (tb l i)
  len : l.length ≤ 1000
  cap : CapOk v
theorem TabR.ext {h h' : AH} {t : Tab} (r : TabR h t) (w : WfH h) (x : Ext h h') : TabR h' t := ⟨r.1.ext w x, r.2⟩
theorem HallR.ext {h h' : AH} {v : Value} {l : List Tab} (r : HallR h v l) (w : WfH h) (x : Ext h h') : HallR h' v l := ⟨r.rd.ext w x, fun i hi => (r.tab i hi).ext w x, r.len, r.cap⟩

/-- A hall that is valid. -/
def ValidL (l : List Tab) : Prop := l.length ≤ 16 ∧ ∀ j, j < l.length → goodAt l j
theorem ChkAll.valid {l : List Tab} {i e : Int} (a : ChkAll l i e) : e = 0 ↔ ValidL l := by
  rcases a with ⟨h1, h2, h3⟩ | ⟨h1, ⟨k, hk, h2, h3, ⟨h4, h5⟩ | ⟨h4, h5, h6⟩⟩ | ⟨h2, h3, h4⟩⟩
  · exact ⟨fun q => by omega, fun q => by have := q.1; omega⟩
  · exact ⟨fun q => absurd (h5 ▸ q) h4, fun q => absurd (q.2 k hk).1 h4⟩
  · exact ⟨fun q => by omega, fun q => absurd h5 (q.2 k hk).2⟩
  · exact ⟨fun _ => ⟨h1, h2⟩, fun _ => h4⟩
theorem ChkAll.uniq {l : List Tab} {i e i' e' : Int} (a : ChkAll l i e) (b : ChkAll l i' e') : i = i' ∧ e = e' := by
  have key : ∀ {k k' : Nat}, (∀ j, j < k → goodAt l j) → ¬ goodAt l k' → k ≤ k' := fun g n => Nat.le_of_not_lt fun q => n (g _ q)
  have bad : ∀ {k : Nat} {e : Int}, ((chk (tb l k) ≠ 0 ∧ e = chk (tb l k)) ∨ (chk (tb l k) = 0 ∧ dupAt l k ∧ e = 5)) → ¬ goodAt l k := fun q g => q.elim (fun q => q.1 g.1) (fun q => g.2 q.2.1)
  rcases a with ⟨h1, h2, h3⟩ | ⟨h1, ⟨k, hk, h2, h3, h4⟩ | ⟨h2, h3, h4⟩⟩ <;> rcases b with ⟨g1, g2, g3⟩ | ⟨g1, ⟨k', hk', g2, g3, g4⟩ | ⟨g2, g3, g4⟩⟩
  · exact ⟨by omega, by omega⟩
  · omega
  · omega
  · omega
  · have e1 := key h3 (bad g4)
    have e2 := key g3 (bad h4)
    have : k = k' := by omega
    subst this
    refine ⟨by omega, ?_⟩
    rcases h4 with ⟨h4, h5⟩ | ⟨h4, h5, h6⟩ <;> rcases g4 with ⟨g4, g5⟩ | ⟨g4, g5, g6⟩
    · omega
    · exact absurd g4 h4
    · exact absurd h4 g4
    · omega
  · exact absurd (g2 k hk) (bad h4)
  · omega
  · exact absurd (h2 k' hk') (bad g4)
  · exact ⟨by omega, by omega⟩
/-- How many seats the first k tables have. -/
def sumT (l : List Tab) : Nat → Int
  | 0 => 0
  | k + 1 => sumT l k + tsize (tb l k)

theorem sameName_ok {h0 : AH} (w : WfH h0) (t u : Tab) (b : Nat) (hb : h0.get b = some (.cells (eT u) 25 none false)) : Fn Tryz.prog Xh 113 [tabV t, .pointer (some ⟨b, 0, none⟩)] h0 (fun v h' => BoolIs v (t.name = u.name) ∧ Hs h0 h' []) := by
  have S := Hs.start w
  refine Fn_K rfl Tryz.func113 rfl rfl ?_
  all_goals (repeat' (first | refine K_seq ?_ | refine k_cond rfl ?_ | refine K_skip ?_ | refine K_exit ?_ | refine k_block ?_ | refine K_scope ?_ | (refine K_region (id := 0) ?_; (refine bx S ?_; clear S; intro b h S); refine mv ?_; refine KO_nil ?_) | (refine K_region (id := 1) ?_; (first | refine vl ?_ | refine fB S ?_ | refine fS S rfl rfl ?_ | refine fA ?_); (first | refine lB S rfl rfl ?_ | refine lES S rfl rfl ?_ | refine lEB S ?_ | refine lH S ?_); (first | refine vl ?_ | refine fB S ?_ | refine fS S rfl rfl ?_ | refine fA ?_); (first | refine lB S rfl rfl ?_ | refine lES S rfl rfl ?_ | refine lEB S ?_ | refine lH S ?_); (refine tS ?_ ?_ <;> intro hc) <;> (refine mv ?_; refine KO_nil ?_))))
  all_goals (refine K_ret ⟨_, rfl, ?_⟩)
  all_goals (refine ⟨?_, S.drop⟩; unfold BoolIs)
  · exact .inl ⟨rfl, hc⟩
  · exact .inr ⟨rfl, hc⟩

theorem checkAll_ok {h0 : AH} (w : WfH h0) (v : Value) (l : List Tab) (H : HallR h0 v l) : Fn Tryz.prog Xh 55 [v] h0 (fun r h' => ∃ i e, r = .tuple #[.int .i64 i, .int .i64 e] ∧ ChkAll l i e ∧ Hs h0 h' []) := by
  have S := Hs.start w
  have hl := H.len
  have hr := H.rd
  refine Fn_K rfl Tryz.func55 rfl rfl ?_
  all_goals (repeat' (first | refine K_seq ?_ | refine k_cond rfl ?_ | refine K_skip ?_ | refine K_exit ?_ | refine k_block ?_ | refine K_scope ?_ | (refine K_region (id := 0) ?_; refine mv ?_; refine mv ?_; refine KO_nil ?_) | (refine K_region (id := 1) ?_; refine mv ?_; (first | refine lnB S ?_ | refine lnS S rfl rfl ?_); (first | refine cT ?_ | refine cF ?_ | (refine cS ?_ ?_ <;> intro hc)) <;> (refine KO_nil ?_)) | (refine K_region (id := 2) ?_; refine mv ?_; refine mv ?_; refine KO_nil ?_) | (refine K_region (id := 3) ?_; refine mv ?_; (first | refine lnB S ?_ | refine lnS S rfl rfl ?_); refine mv ?_; refine KO_nil ?_)))
  · refine K_ret ⟨_, rfl, ?_⟩
    exact ⟨0, 7, rfl, .inl ⟨by omega, rfl, rfl⟩, S⟩
  · refine k_loop (σ := Nat) (fun i h' => Hs h0 h' [] ∧ i ≤ l.length ∧ ∀ j, j < i → goodAt l j) (fun i => l.length - i) (fun i => [(0, v), (10, v), (11, .int .i64 l.length), (12, .int .i64 i)]) 0 (by repeat (first | exact Ks.le_nil _ | refine Ks.le_cons rfl ?_ | refine Ks.le_int ?_)) ?_ ?_
    · exact ⟨S, Nat.zero_le _, fun j hj => absurd hj (Nat.not_lt_zero _)⟩
    clear S
    rintro i h ⟨S, h1, h2⟩
    all_goals (repeat' (first | refine K_seq ?_ | refine k_cond rfl ?_ | refine K_skip ?_ | refine K_exit ?_ | refine k_block ?_ | refine K_scope ?_ | (refine K_region (id := 4) ?_; (first | refine cT ?_ | refine cF ?_ | (refine cS ?_ ?_ <;> intro hc)) <;> (refine KO_nil ?_)) | (refine K_region (id := 5) ?_; refine mv ?_; (first | refine ixB S ?_ | refine ixS S rfl rfl ?_); (first | refine lB S rfl rfl ?_ | refine lES S rfl rfl ?_ | refine lEB S ?_ | refine lH S ?_); (refine al S ?_; clear S; intro b h S); refine mv ?_; (first | (refine sB S rfl rfl ?_; clear S; intro h S) | (refine sE S rfl rfl ?_; clear S; intro h S)); refine KO_nil ?_) | (refine K_region (id := 6) ?_; (first | refine lB S rfl rfl ?_ | refine lES S rfl rfl ?_ | refine lEB S ?_ | refine lH S ?_)) | (refine K_region (id := 12) ?_; refine mv ?_; refine mv ?_; refine KO_nil ?_)))
    · (try simp only [Int.toNat_natCast] at *)
      have hi : i < l.length := by omega
      (refine KO_fn rfl rfl rfl rfl rfl ((check_ok S.wf (tb l i) ((H.tab i hi).ext w S.ext)).mono ?_); rintro _ h ⟨rfl, x⟩) <;> (replace S := S.join0 x; clear x; refine mv ?_; refine KO_nil ?_)
      all_goals (repeat' (first | refine K_seq ?_ | refine k_cond rfl ?_ | refine K_skip ?_ | refine K_exit ?_ | refine k_block ?_ | refine K_scope ?_ | (refine K_region (id := 7) ?_; refine mv ?_; (first | refine cT ?_ | refine cF ?_ | (refine cS ?_ ?_ <;> intro hc)) <;> (refine KO_nil ?_)) | (refine K_region (id := 8) ?_; refine mv ?_; refine mv ?_; refine mv ?_; refine mv ?_; refine KO_nil ?_) | (refine K_region (id := 9) ?_; refine mv ?_; refine mv ?_)))
      · refine K_ret ⟨_, rfl, ?_⟩
        exact ⟨i, _, rfl, .inr ⟨by omega, .inl ⟨i, hi, rfl, h2, .inl ⟨by simpa using hc, rfl⟩⟩⟩, S.drop⟩
      · refine su 0 i (hr.ext w S.ext) H.cap ?_; intro vs hrs hcs; (refine vl ?_)
        have gb := S.gB (b := b)
        have hlen : ((l.drop 0).take (i - 0)).length = i := by simp; omega
        have hget : ∀ k, k < i → ((l.drop 0).take (i - 0)).getD k default = tb l k := fun k hk => by
          unfold tb
          simp only [List.drop_zero, Nat.sub_zero, List.getD_eq_getElem?_getD, List.getElem?_take, if_pos hk]
        have hf : ∀ k h', k < ((l.drop 0).take (i - 0)).length → Hs h h' [] → Fn Tryz.prog Xh 113 (tabV (((l.drop 0).take (i - 0)).getD k default) :: [.pointer (some ⟨b, 0, none⟩)]) h' (fun v h'' => BoolIs v ((tb l k).name = (tb l i).name) ∧ Hs h' h'' []) := fun k h' hk x => by
          rw [hget k (by omega)]
          exact sameName_ok x.wf (tb l k) (tb l i) b (x.ext.get S.wf gb)
        (refine KO_fn rfl rfl rfl rfl rfl ((containsTab_ok S.wf vs _ 113 [.pointer (some ⟨b, 0, none⟩)] (fun k => (tb l k).name = (tb l i).name) hrs (by omega) hf).mono ?_); rintro _ h ⟨⟨rfl, hq⟩ | ⟨rfl, hq⟩, x⟩) <;> (replace S := S.join0 x; clear x; refine KO_nil ?_)
        all_goals (repeat' (first | refine K_seq ?_ | refine k_cond rfl ?_ | refine K_skip ?_ | refine K_exit ?_ | refine k_block ?_ | refine K_scope ?_ | (refine K_region (id := 10) ?_; refine mv ?_; refine mv ?_; refine mv ?_; refine KO_nil ?_) | (refine K_region (id := 11) ?_; (first | refine ad ?_ | refine vl ?_); refine mv ?_; refine KO_nil ?_)))
        · refine K_ret ⟨_, rfl, ?_⟩
          obtain ⟨j, hj, hq⟩ := hq
          exact ⟨i, 5, rfl, .inr ⟨by omega, .inl ⟨i, hi, rfl, h2, .inr ⟨by simpa using hc, ⟨j, by omega, hq⟩, rfl⟩⟩⟩, S.drop⟩
        · refine ⟨i + 1, ?_, ?_, (by repeat (first | exact Ks.le_nil _ | refine Ks.le_cons rfl ?_ | refine Ks.le_int ?_))⟩
          · show l.length - (i + 1) < l.length - i; omega
          · refine ⟨S.drop, by omega, fun j hj => ?_⟩
            rcases Nat.lt_or_ge j i with q | q
            · exact h2 j q
            · obtain rfl : j = i := by omega
              exact ⟨by simpa using hc, fun ⟨k, hk, he⟩ => hq ⟨k, by omega, he⟩⟩
    · refine K_ret ⟨_, rfl, ?_⟩
      exact ⟨0, 0, rfl, .inr ⟨by omega, .inr ⟨fun j hj => h2 j (by omega), rfl, rfl⟩⟩, S⟩

theorem valid_ok {h0 : AH} (w : WfH h0) (v : Value) (l : List Tab) (H : HallR h0 v l) : Fn Tryz.prog Xh 84 [v] h0 (fun r h' => BoolIs r (ValidL l) ∧ Hs h0 h' []) := by
  have S := Hs.start w
  refine Fn_K rfl Tryz.func84 rfl rfl ?_
  all_goals (repeat' (first | refine K_seq ?_ | refine k_cond rfl ?_ | refine K_skip ?_ | refine K_exit ?_ | refine k_block ?_ | refine K_scope ?_ | (refine K_region (id := 0) ?_; refine mv ?_; refine KO_nil ?_) | (refine K_region (id := 1) ?_; refine mv ?_)))
  (refine KO_fn rfl rfl rfl rfl rfl ((checkAll_ok S.wf v l H).mono ?_); rintro _ h ⟨i, e, rfl, hk, x⟩) <;> (replace S := S.join0 x; clear x; refine mv ?_; refine vl ?_; refine vl ?_; refine mv ?_; refine mv ?_; refine KO_nil ?_)
  all_goals (repeat' (first | refine K_seq ?_ | refine k_cond rfl ?_ | refine K_skip ?_ | refine K_exit ?_ | refine k_block ?_ | refine K_scope ?_ | (refine K_region (id := 2) ?_; refine mv ?_; (first | refine cT ?_ | refine cF ?_ | (refine cS ?_ ?_ <;> intro hc)) <;> (refine mv ?_; refine KO_nil ?_))))
  all_goals (refine K_ret ⟨_, rfl, ?_⟩)
  · exact ⟨.inl ⟨rfl, hk.valid.1 hc⟩, S⟩
  · exact ⟨.inr ⟨rfl, fun q => hc (hk.valid.2 q)⟩, S⟩
end Go.Proofs.Xx

/-
  hall.permutation.
-/
namespace Go.Proofs.Xx
open Go Go.Proofs
set_option linter.unusedSimpArgs false
set_option linter.unusedVariables false

def permOk (l : List Int) : Bool := decide ((∀ x ∈ l, 0 ≤ x ∧ x < l.length) ∧ l.Nodup)
def seenL (l : List Int) (i : Nat) : List Value := (List.range l.length).map fun (k : Nat) => Value.bool (decide ((k : Int) ∈ l.take i))
end Go.Proofs.Xx

/-
  slices.Equal, slices.Clone of ints.
-/
namespace Go.Proofs.Xx
open Go Go.Proofs
set_option linter.unusedSimpArgs false
set_option linter.unusedVariables false

end Go.Proofs.Xx

/-
  Copies of halls; when halls are the same; which are few.
-/
namespace Go.Proofs.Xx
open Go Go.Proofs
set_option linter.unusedSimpArgs false
set_option linter.unusedVariables false
set_option maxRecDepth 100000

theorem Hs.nilS {h0 h : AH} {rs : List Rs} {α : Type} {e : TypeId} {z : Nat} {enc : α → List Value} (S : Hs h0 h rs) : Hs h0 h (.sl (.slice none 0 0) e z enc [] :: rs) :=
  S.grow (fp := fun _ => False) (Ext.refl S.wf) (.inl ⟨rfl, rfl⟩) fun b hb => hb.elim
theorem Hs.anyS {h0 h : AH} {rs : List Rs} {p : AH → Fp → Prop} (S : Hs h0 h rs) (k : ∀ h', p h' fun _ => False) : Hs h0 h (.any p :: rs) :=
  S.grow (fp := fun _ => False) (Ext.refl S.wf) (fun h' _ => k h') fun b hb => hb.elim
theorem Hs.anyP {h0 h : AH} {rs : List Rs} {p : AH → Fp → Prop} (S : Hs h0 h rs) (a : At rs (.any p)) : ∃ fp, p h fp := by
  obtain ⟨fp, k, -⟩ := a.ok S.sep
  exact ⟨fp, k h fun _ _ => rfl⟩
theorem Hs.capS {h0 h : AH} {rs : List Rs} {v : Value} {α : Type} {e : TypeId} {z : Nat} {enc : α → List Value} {l : List α} (S : Hs h0 h rs) (a : At rs (.sl v e z enc l)) : CapOk v := by
  obtain ⟨fp, k, -⟩ := a.ok S.sep
  rcases k with ⟨rfl, -⟩ | ⟨b, o, cc, slk, rfl, -⟩
  · exact Nat.le_refl _
  · exact Nat.le_refl _

theorem clone_ok {h0 : AH} (w : WfH h0) (v : Value) (a : List Int) (r : RdL h0 v 1 eI a) (hl : a.length ≤ 1000000) : Fn Tryz.prog Xh 49 [v] h0 (fun u h' => Hs h0 h' [.sl u 3 1 eI a]) := by
  have S := Hs.start w
  have r0 := r
  rcases r with ⟨rfl, h1, -⟩ | ⟨b, o, cap, cc, e, s, q, rfl, h1, h2⟩
  · obtain rfl : a = [] := List.length_eq_zero_iff.1 h1
    refine Fn_K rfl Tryz.func49 rfl rfl ?_
    all_goals (repeat' (first | refine K_seq ?_ | refine k_cond rfl ?_ | refine K_skip ?_ | refine K_exit ?_ | refine k_block ?_ | refine K_scope ?_ | (refine K_region (id := 0) ?_; refine mv ?_; refine KO_nil ?_) | (refine K_region (id := 1) ?_; refine mv ?_; refine vl ?_; refine KO_nil ?_) | (refine K_region (id := 2) ?_; refine mv ?_; refine KO_nil ?_) | (refine K_region (id := 3) ?_; skip)))
    refine K_ret ⟨_, rfl, ?_⟩
    exact S.nilS
  · refine Fn_K rfl Tryz.func49 rfl rfl ?_
    all_goals (repeat' (first | refine K_seq ?_ | refine k_cond rfl ?_ | refine K_skip ?_ | refine K_exit ?_ | refine k_block ?_ | refine K_scope ?_ | (refine K_region (id := 0) ?_; refine mv ?_; refine KO_nil ?_) | (refine K_region (id := 1) ?_; refine mv ?_; refine vl ?_; refine KO_nil ?_) | (refine K_region (id := 2) ?_; refine mv ?_; refine KO_nil ?_) | (refine K_region (id := 3) ?_; skip)))
    refine nw 1 eI S ?_; clear S; intro u h S; (refine mv ?_)
    refine apd S rfl rfl (r0.ext w S.ext) ?_; clear S; intro v' h S; (refine mv ?_; refine KO_nil ?_)
    all_goals (repeat' (first | refine K_seq ?_ | refine k_cond rfl ?_ | refine K_skip ?_ | refine K_exit ?_ | refine k_block ?_ | refine K_scope ?_))
    refine K_ret ⟨_, rfl, ?_⟩
    exact S

/-- Tables that differ at most in where their open seats lie. -/
def SameTab (t u : Tab) : Prop := t = { u with os := t.os }
def SameAll (l m : List Tab) : Prop := l.length = m.length ∧ ∀ i, i < l.length → SameTab (tb l i) (tb m i)
/-- Halls that are examined. -/
def FewP (l : List Tab) : Prop := l.length ≤ 20 ∧ ∀ i, i < l.length → (tb l i).name.length ≤ 40 ∧ (tb l i).opn.length ≤ 40
/-- The open seats of the first k tables. -/
def OpnR (l l2 : List Tab) (k : Nat) (h : AH) (fp : Fp) : Prop := ∀ j, j < k → RdL h (tb l2 j).ov 1 eI (tb l j).opn
end Go.Proofs.Xx

/-
  Seats of tables and halls, first seats, tables by name; the program's and the reference's.
-/
namespace Go.Proofs.Xx
open Go Go.Proofs
set_option linter.unusedSimpArgs false
set_option linter.unusedVariables false
set_option maxRecDepth 100000

theorem sumT_le (l : List Tab) : ∀ n, 0 ≤ sumT l n ∧ sumT l n ≤ 24 * n
  | 0 => by simp [sumT]
  | n + 1 => by
    have := sumT_le l n
    have := tsize_le (tb l n)
    simp only [sumT]; omega
open Classical in
noncomputable def seatsV (t : Tab) : Int := if chk t = 0 then tsize t else 0
theorem seats_ok {h0 : AH} (w : WfH h0) (t : Tab) (r : TabR h0 t) : Fn Tryz.prog Xh 29 [tabV t] h0 (fun v h' => v = .int .i64 (seatsV t) ∧ Hs h0 h' []) := by
  have S := Hs.start w
  refine Fn_K rfl Tryz.func29 rfl rfl ?_
  all_goals (repeat' (first | refine K_seq ?_ | refine k_cond rfl ?_ | refine K_skip ?_ | refine K_exit ?_ | refine k_block ?_ | refine K_scope ?_ | (refine K_region (id := 0) ?_; (refine bx S ?_; clear S; intro b h S); refine mv ?_; refine KO_nil ?_) | (refine K_region (id := 1) ?_; (first | refine lB S rfl rfl ?_ | refine lES S rfl rfl ?_ | refine lEB S ?_ | refine lH S ?_))))
  (refine KO_fn rfl rfl rfl rfl rfl ((check_ok S.wf t (r.ext w S.ext)).mono ?_); rintro _ h ⟨rfl, x⟩) <;> (replace S := S.join0 x; clear x; (first | refine cT ?_ | refine cF ?_ | (refine cS ?_ ?_ <;> intro hc)) <;> (refine KO_nil ?_))
  all_goals (repeat' (first | refine K_seq ?_ | refine k_cond rfl ?_ | refine K_skip ?_ | refine K_exit ?_ | refine k_block ?_ | refine K_scope ?_ | (refine K_region (id := 2) ?_; refine mv ?_; refine KO_nil ?_) | (refine K_region (id := 3) ?_; (first | refine lB S rfl rfl ?_ | refine lES S rfl rfl ?_ | refine lEB S ?_ | refine lH S ?_))))
  · refine K_ret ⟨_, rfl, ?_⟩
    exact ⟨by unfold seatsV; rw [if_neg hc]; rfl, S.drop⟩
  · (refine KO_fn rfl rfl rfl rfl rfl ((size_ok S.wf t).mono ?_); rintro _ h ⟨rfl, x⟩) <;> (replace S := S.join0 x; clear x; refine mv ?_; refine KO_nil ?_)
    all_goals (repeat' (first | refine K_seq ?_ | refine k_cond rfl ?_ | refine K_skip ?_ | refine K_exit ?_ | refine k_block ?_ | refine K_scope ?_))
    refine K_ret ⟨_, rfl, ?_⟩
    exact ⟨by unfold seatsV; rw [if_pos (by simpa using hc)]; rfl, S.drop⟩
open Classical in
noncomputable def firstV (l : List Tab) (t : Int) : Int := if 0 ≤ t ∧ t < l.length ∧ ValidL l then sumT l t.toNat else 0
theorem first_ok {h0 : AH} (w : WfH h0) (v : Value) (l : List Tab) (H : HallR h0 v l) (t : Int) : Fn Tryz.prog Xh 31 [v, .int .i64 t] h0 (fun r h' => r = .int .i64 (firstV l t) ∧ Hs h0 h' []) := by
  have S := Hs.start w
  have hl := H.len
  have hr := H.rd
  by_cases ht0 : t < 0
  · refine Fn_K rfl Tryz.func31 rfl rfl ?_
    all_goals (repeat' (first | refine K_seq ?_ | refine k_cond rfl ?_ | refine K_skip ?_ | refine K_exit ?_ | refine k_block ?_ | refine K_scope ?_ | (refine K_region (id := 0) ?_; refine mv ?_; refine KO_nil ?_) | (refine K_region (id := 1) ?_; refine mv ?_; (first | refine cT ?_ | refine cF ?_ | (refine cS ?_ ?_ <;> intro hc)) <;> (refine mv ?_; (first | refine off ?_ | refine mv ?_); (first | refine off ?_ | refine mv ?_); (first | refine off ?_ | (first | refine lnB S ?_ | refine lnS S rfl rfl ?_)); (first | refine off ?_ | (first | refine cT ?_ | refine cF ?_ | (refine cS ?_ ?_ <;> intro hc))) <;> (refine vl ?_; refine mv ?_; (first | refine off ?_ | refine mv ?_); (first | (refine off ?_; (first | refine off ?_ | refine vl ?_); refine vl ?_; refine KO_nil ?_) | skip)))) | (refine K_region (id := 2) ?_; refine mv ?_; refine KO_nil ?_) | (refine K_region (id := 3) ?_; refine mv ?_; refine KO_nil ?_) | (refine K_region (id := 4) ?_; refine mv ?_; refine mv ?_)))
    all_goals (try omega)
    refine K_ret ⟨_, rfl, ?_⟩
    exact ⟨by unfold firstV; rw [if_neg (by omega)]; rfl, S⟩
  obtain ⟨n, rfl⟩ := Int.eq_ofNat_of_zero_le (show 0 ≤ t by omega)
  refine Fn_K rfl Tryz.func31 rfl rfl ?_
  all_goals (repeat' (first | refine K_seq ?_ | refine k_cond rfl ?_ | refine K_skip ?_ | refine K_exit ?_ | refine k_block ?_ | refine K_scope ?_ | (refine K_region (id := 0) ?_; refine mv ?_; refine KO_nil ?_) | (refine K_region (id := 1) ?_; refine mv ?_; (first | refine cT ?_ | refine cF ?_ | (refine cS ?_ ?_ <;> intro hc)) <;> (refine mv ?_; (first | refine off ?_ | refine mv ?_); (first | refine off ?_ | refine mv ?_); (first | refine off ?_ | (first | refine lnB S ?_ | refine lnS S rfl rfl ?_)); (first | refine off ?_ | (first | refine cT ?_ | refine cF ?_ | (refine cS ?_ ?_ <;> intro hc))) <;> (refine vl ?_; refine mv ?_; (first | refine off ?_ | refine mv ?_); (first | (refine off ?_; (first | refine off ?_ | refine vl ?_); refine vl ?_; refine KO_nil ?_) | skip)))) | (refine K_region (id := 2) ?_; refine mv ?_; refine KO_nil ?_) | (refine K_region (id := 3) ?_; refine mv ?_; refine KO_nil ?_) | (refine K_region (id := 4) ?_; refine mv ?_; refine mv ?_)))
  all_goals (try omega)
  · refine K_ret ⟨_, rfl, ?_⟩
    exact ⟨by unfold firstV; rw [if_neg (by omega)]; rfl, S⟩
  · (refine KO_fn rfl rfl rfl rfl rfl ((valid_ok S.wf v l H).mono ?_); rintro _ h ⟨⟨rfl, hq⟩ | ⟨rfl, hq⟩, x⟩) <;> (replace S := S.join0 x; clear x; (first | refine off ?_ | refine vl ?_); refine vl ?_; refine KO_nil ?_)
    all_goals (repeat' (first | refine K_seq ?_ | refine k_cond rfl ?_ | refine K_skip ?_ | refine K_exit ?_ | refine k_block ?_ | refine K_scope ?_ | (refine K_region (id := 2) ?_; refine mv ?_; refine KO_nil ?_) | (refine K_region (id := 3) ?_; refine mv ?_; refine KO_nil ?_) | (refine K_region (id := 4) ?_; refine mv ?_; refine mv ?_)))
    · refine su 0 n (hr.ext w S.ext) H.cap ?_; intro vs hrs hcs
      have T := S
      have w1 := S.wf
      replace S := Hs.start w1
      have hlen : ((l.drop 0).take (n - 0)).length = n := by simp; omega
      have hget : ∀ k, k < n → ((l.drop 0).take (n - 0)).getD k default = tb l k := fun k hk => by
        unfold tb
        simp only [List.drop_zero, Nat.sub_zero, List.getD_eq_getElem?_getD, List.getElem?_take, if_pos hk]
      generalize ((l.drop 0).take (n - 0)) = ls at hrs hlen hget
      (first | refine lnB S ?_ | refine lnS S rfl rfl ?_); refine mv ?_; refine KO_nil ?_
      all_goals (repeat' (first | refine K_seq ?_ | refine k_cond rfl ?_ | refine K_skip ?_ | refine K_exit ?_ | refine k_block ?_ | refine K_scope ?_))
      refine k_loop (σ := Nat) (fun i h' => Hs h h' [] ∧ i ≤ n) (fun i => n - i) (fun i => [(5, .int .i64 (sumT l i)), (23, vs), (24, .int .i64 n), (25, .int .i64 i)]) 0 (by repeat (first | exact Ks.le_nil _ | refine Ks.le_cons rfl ?_ | refine Ks.le_int ?_)) ?_ ?_
      · exact ⟨S, Nat.zero_le _⟩
      clear S
      rintro i h2 ⟨S, h1⟩
      all_goals (repeat' (first | refine K_seq ?_ | refine k_cond rfl ?_ | refine K_skip ?_ | refine K_exit ?_ | refine k_block ?_ | refine K_scope ?_ | (refine K_region (id := 5) ?_; (first | refine cT ?_ | refine cF ?_ | (refine cS ?_ ?_ <;> intro hc)) <;> (refine KO_nil ?_)) | (refine K_region (id := 6) ?_; (first | refine ixB S ?_ | refine ixS S rfl rfl ?_); (first | refine lB S rfl rfl ?_ | refine lES S rfl rfl ?_ | refine lEB S ?_ | refine lH S ?_); (refine al S ?_; clear S; intro b h S); (first | (refine sB S rfl rfl ?_; clear S; intro h S) | (refine sE S rfl rfl ?_; clear S; intro h S)); refine KO_nil ?_) | (refine K_region (id := 7) ?_; refine mv ?_; (first | refine lB S rfl rfl ?_ | refine lES S rfl rfl ?_ | refine lEB S ?_ | refine lH S ?_)) | (refine K_region (id := 9) ?_; refine mv ?_; refine mv ?_; refine KO_nil ?_)))
      · (try simp only [Int.toNat_natCast] at *)
        have hi : i < n := by omega
        have b1 := sumT_le l i
        have b2 := tsize_le (ls.getD i default)
        (refine KO_fn rfl rfl rfl rfl rfl ((size_ok S.wf (ls.getD i default)).mono ?_); rintro _ h ⟨rfl, x⟩) <;> (replace S := S.join0 x; clear x; (first | refine ad ?_ | refine vl ?_); refine mv ?_; refine KO_nil ?_)
        rw [hget i hi]
        all_goals (repeat' (first | refine K_seq ?_ | refine k_cond rfl ?_ | refine K_skip ?_ | refine K_exit ?_ | refine k_block ?_ | refine K_scope ?_ | (refine K_region (id := 8) ?_; (first | refine ad ?_ | refine vl ?_); refine mv ?_; refine KO_nil ?_)))
        refine ⟨i + 1, ?_, ?_, (by repeat (first | exact Ks.le_nil _ | refine Ks.le_cons rfl ?_ | refine Ks.le_int ?_))⟩
        · show n - (i + 1) < n - i; omega
        · exact ⟨S.drop, by omega⟩
      · refine K_ret ⟨_, rfl, ?_⟩
        have : i = n := by omega
        subst this
        exact ⟨by unfold firstV; rw [if_pos ⟨by omega, by omega, hq⟩, Int.toNat_natCast]; rfl, T.join0 S⟩
    · refine K_ret ⟨_, rfl, ?_⟩
      exact ⟨by unfold firstV; rw [if_neg (fun q => hq q.2.2)]; rfl, S⟩
theorem lastSize_ok {h0 : AH} (w : WfH h0) (v : Value) (l : List Tab) (H : HallR h0 v l) : Fn Tryz.prog Xh 87 [v] h0 (fun r h' => r = .int .i64 (if l.length = 0 then 0 else tsize (tb l (l.length - 1))) ∧ Hs h0 h' []) := by
  have S := Hs.start w
  have hl := H.len
  have hr := H.rd
  refine Fn_K rfl Tryz.func87 rfl rfl ?_
  all_goals (repeat' (first | refine K_seq ?_ | refine k_cond rfl ?_ | refine K_skip ?_ | refine K_exit ?_ | refine k_block ?_ | refine K_scope ?_ | (refine K_region (id := 0) ?_; refine mv ?_; refine KO_nil ?_) | (refine K_region (id := 1) ?_; refine mv ?_; (first | refine lnB S ?_ | refine lnS S rfl rfl ?_); (first | refine cT ?_ | refine cF ?_ | (refine cS ?_ ?_ <;> intro hc)) <;> (refine KO_nil ?_)) | (refine K_region (id := 2) ?_; refine mv ?_; refine KO_nil ?_) | (refine K_region (id := 3) ?_; refine mv ?_; refine mv ?_; (first | refine lnB S ?_ | refine lnS S rfl rfl ?_); (first | refine sb ?_ | refine vl ?_); (first | refine ixB S ?_ | refine ixS S rfl rfl ?_); (first | refine lB S rfl rfl ?_ | refine lES S rfl rfl ?_ | refine lEB S ?_ | refine lH S ?_))))
  · refine K_ret ⟨_, rfl, ?_⟩
    exact ⟨by rw [if_pos (by omega)]; rfl, S⟩
  · (refine KO_fn rfl rfl rfl rfl rfl ((size_ok S.wf _).mono ?_); rintro _ h ⟨rfl, x⟩) <;> (replace S := S.join0 x; clear x; refine mv ?_; refine KO_nil ?_)
    all_goals (repeat' (first | refine K_seq ?_ | refine k_cond rfl ?_ | refine K_skip ?_ | refine K_exit ?_ | refine k_block ?_ | refine K_scope ?_))
    refine K_ret ⟨_, rfl, ?_⟩
    exact ⟨by rw [if_neg (by omega), show l.length - 1 = ((l.length : Int) - 1).toNat by omega]; rfl, S⟩
open Classical in
noncomputable def countV (l : List Tab) : Int := if ValidL l then sumT l l.length else 0
theorem count_ok {h0 : AH} (w : WfH h0) (v : Value) (l : List Tab) (H : HallR h0 v l) : Fn Tryz.prog Xh 33 [v] h0 (fun r h' => r = .int .i64 (countV l) ∧ Hs h0 h' []) := by
  have S := Hs.start w
  have hl := H.len
  have hr := H.rd
  refine Fn_K rfl Tryz.func33 rfl rfl ?_
  all_goals (repeat' (first | refine K_seq ?_ | refine k_cond rfl ?_ | refine K_skip ?_ | refine K_exit ?_ | refine k_block ?_ | refine K_scope ?_ | (refine K_region (id := 0) ?_; refine mv ?_; refine KO_nil ?_) | (refine K_region (id := 1) ?_; refine mv ?_)))
  (refine KO_fn rfl rfl rfl rfl rfl ((valid_ok S.wf v l H).mono ?_); rintro _ h ⟨⟨rfl, hq⟩ | ⟨rfl, hq⟩, x⟩) <;> (replace S := S.join0 x; clear x; refine vl ?_; refine KO_nil ?_)
  all_goals (repeat' (first | refine K_seq ?_ | refine k_cond rfl ?_ | refine K_skip ?_ | refine K_exit ?_ | refine k_block ?_ | refine K_scope ?_ | (refine K_region (id := 2) ?_; refine mv ?_; refine KO_nil ?_) | (refine K_region (id := 3) ?_; refine mv ?_; refine mv ?_; (first | refine lnB S ?_ | refine lnS S rfl rfl ?_); (first | refine sb ?_ | refine vl ?_))))
  · have hs : firstV l ((l.length : Int) - 1) + (if l.length = 0 then 0 else tsize (tb l (l.length - 1))) = sumT l l.length := by
      unfold firstV
      cases hk : l.length with
      | zero => rw [if_neg (by omega)]; simp [sumT]
      | succ k => rw [if_pos ⟨by omega, by omega, hq⟩, if_neg (by omega), show ((k + 1 : Nat) : Int) - 1 = (k : Int) by omega, Int.toNat_natCast, Nat.add_sub_cancel]; rfl
    have b1 := sumT_le l l.length
    (refine KO_fn rfl rfl rfl rfl rfl ((first_ok S.wf v l (H.ext w S.ext) _).mono ?_); rintro _ h ⟨rfl, x⟩) <;> (replace S := S.join0 x; clear x; refine mv ?_)
    (refine KO_fn rfl rfl rfl rfl rfl ((lastSize_ok S.wf v l (H.ext w S.ext)).mono ?_); rintro _ h ⟨rfl, x⟩) <;> (replace S := S.join0 x; clear x; (first | refine ad ?_ | refine vl ?_); refine mv ?_; refine KO_nil ?_)
    all_goals (repeat' (first | refine K_seq ?_ | refine k_cond rfl ?_ | refine K_skip ?_ | refine K_exit ?_ | refine k_block ?_ | refine K_scope ?_))
    refine K_ret ⟨_, rfl, ?_⟩
    exact ⟨by unfold countV; rw [if_pos hq, ← hs]; rfl, S⟩
  · refine K_ret ⟨_, rfl, ?_⟩
    exact ⟨by unfold countV; rw [if_neg hq]; rfl, S⟩

theorem findName_ok {h0 : AH} (w : WfH h0) (t : Tab) (nm : List UInt8) (b : Nat) (hb : h0.get b = some (.cells [str nm] 9 none false)) : Fn Tryz.prog Xh 86 [tabV t, .pointer (some ⟨b, 0, none⟩)] h0 (fun v h' => BoolIs v (t.name = nm) ∧ Hs h0 h' []) := by
  have S := Hs.start w
  refine Fn_K rfl Tryz.func86 rfl rfl ?_
  all_goals (repeat' (first | refine K_seq ?_ | refine k_cond rfl ?_ | refine K_skip ?_ | refine K_exit ?_ | refine k_block ?_ | refine K_scope ?_ | (refine K_region (id := 0) ?_; (refine bx S ?_; clear S; intro b h S); refine mv ?_; refine KO_nil ?_) | (refine K_region (id := 1) ?_; (first | refine vl ?_ | refine fB S ?_ | refine fS S rfl rfl ?_ | refine fA ?_); (first | refine lB S rfl rfl ?_ | refine lES S rfl rfl ?_ | refine lEB S ?_ | refine lH S ?_); (first | refine lB S rfl rfl ?_ | refine lES S rfl rfl ?_ | refine lEB S ?_ | refine lH S ?_); (refine tS ?_ ?_ <;> intro hc) <;> (refine mv ?_; refine KO_nil ?_))))
  all_goals (refine K_ret ⟨_, rfl, ?_⟩)
  all_goals (refine ⟨?_, S.drop⟩; unfold BoolIs)
  · exact .inl ⟨rfl, hc⟩
  · exact .inr ⟨rfl, hc⟩
def FindIs (l : List Tab) (nm : List UInt8) (v : Value) : Prop :=
  (∃ k : Nat, v = .tuple #[.int .i64 k, .bool true] ∧ ValidL l ∧ k < l.length ∧ (tb l k).name = nm ∧ ∀ j, j < k → ¬ (tb l j).name = nm) ∨
  (v = .tuple #[.int .i64 0, .bool false] ∧ (¬ ValidL l ∨ ∀ j, j < l.length → ¬ (tb l j).name = nm))
theorem find_ok {h0 : AH} (w : WfH h0) (v : Value) (l : List Tab) (H : HallR h0 v l) (nm : List UInt8) : Fn Tryz.prog Xh 32 [v, str nm] h0 (fun r h' => FindIs l nm r ∧ Hs h0 h' []) := by
  have S := Hs.start w
  have hl := H.len
  have hr := H.rd
  refine Fn_K rfl Tryz.func32 rfl rfl ?_
  all_goals (repeat' (first | refine K_seq ?_ | refine k_cond rfl ?_ | refine K_skip ?_ | refine K_exit ?_ | refine k_block ?_ | refine K_scope ?_ | (refine K_region (id := 0) ?_; (refine bx S ?_; clear S; intro b h S); refine mv ?_; refine mv ?_; refine KO_nil ?_) | (refine K_region (id := 1) ?_; refine mv ?_; refine vl ?_)))
  have gb := S.gB (b := b)
  have hf : ∀ i h', i < l.length → Hs h h' [] → Fn Tryz.prog Xh 86 (tabV (l.getD i default) :: [.pointer (some ⟨b, 0, none⟩)]) h' (fun v h'' => BoolIs v ((tb l i).name = nm) ∧ Hs h' h'' []) := fun i h' hi x => findName_ok x.wf (tb l i) nm b (x.ext.get S.wf gb)
  (refine KO_fn rfl rfl rfl rfl rfl ((indexTab_ok S.wf v l 86 [.pointer (some ⟨b, 0, none⟩)] (fun i => (tb l i).name = nm) (hr.ext w S.ext) (by omega) hf).mono ?_); rintro _ h ⟨⟨k, hk, rfl, hq, hn⟩ | ⟨rfl, hn⟩, x⟩) <;> (replace S := S.join0 x; clear x; refine mv ?_; refine KO_nil ?_)
  all_goals (repeat' (first | refine K_seq ?_ | refine k_cond rfl ?_ | refine K_skip ?_ | refine K_exit ?_ | refine k_block ?_ | refine K_scope ?_ | (refine K_region (id := 2) ?_; refine mv ?_; (first | refine cT ?_ | refine cF ?_ | (refine cS ?_ ?_ <;> intro hc)) <;> (refine mv ?_; (first | refine off ?_ | refine mv ?_); (first | (refine off ?_; (first | refine off ?_ | refine vl ?_); refine vl ?_; refine KO_nil ?_) | skip))) | (refine K_region (id := 3) ?_; refine mv ?_; refine mv ?_; refine KO_nil ?_) | (refine K_region (id := 4) ?_; refine mv ?_; refine mv ?_; refine mv ?_; refine KO_nil ?_)))
  all_goals (try omega)
  · (refine KO_fn rfl rfl rfl rfl rfl ((valid_ok S.wf v l (H.ext w S.ext)).mono ?_); rintro _ h ⟨⟨rfl, hv⟩ | ⟨rfl, hv⟩, x⟩) <;> (replace S := S.join0 x; clear x; (first | refine off ?_ | refine vl ?_); refine vl ?_; refine KO_nil ?_)
    all_goals (repeat' (first | refine K_seq ?_ | refine k_cond rfl ?_ | refine K_skip ?_ | refine K_exit ?_ | refine k_block ?_ | refine K_scope ?_ | (refine K_region (id := 3) ?_; refine mv ?_; refine mv ?_; refine KO_nil ?_) | (refine K_region (id := 4) ?_; refine mv ?_; refine mv ?_; refine mv ?_; refine KO_nil ?_)))
    all_goals (refine K_ret ⟨_, rfl, ?_⟩)
    · exact ⟨.inl ⟨k, rfl, hv, hk, hq, hn⟩, S.drop⟩
    · exact ⟨.inr ⟨rfl, .inl hv⟩, S.drop⟩
  · refine K_ret ⟨_, rfl, ?_⟩
    exact ⟨.inr ⟨rfl, .inr hn⟩, S.drop⟩

def eSt (p : Nat × Nat) : List Value := [.int .i64 (p.1 : Int), .int .i64 (p.2 : Int)]
/-- The seats of the first n tables, and the first k of the next. -/
def SeatsTo (l : List Tab) (n k : Nat) (out : List (Nat × Nat)) : Prop := (out.length : Int) = sumT l n + k ∧ ∀ x, x < out.length → ((out.getD x default).1 < n ∨ ((out.getD x default).1 = n ∧ (out.getD x default).2 < k)) ∧ ((out.getD x default).2 : Int) < tsize (tb l (out.getD x default).1) ∧ (x : Int) = sumT l (out.getD x default).1 + (out.getD x default).2
end Go.Proofs.Xx

/-
  Swapping within a range of a list; ranges in order.
-/
namespace Go.Proofs.Xx
set_option linter.unusedVariables false
set_option linter.unusedSectionVars false

section
variable {α : Type} [Inhabited α]
theorem getD_set (l : List α) {i : Nat} (x : α) (h : i < l.length) (j : Nat) : (l.set i x).getD j default = if j = i then x else l.getD j default := by
  rw [List.getD_eq_getElem?_getD, List.getD_eq_getElem?_getD, List.getElem?_set]
  by_cases e : i = j
  · subst e; rw [if_pos rfl, if_pos rfl, if_pos h]; rfl
  · rw [if_neg e, if_neg (fun q => e q.symm)]
theorem ext_getD {l m : List α} (h : l.length = m.length) (k : ∀ i, i < l.length → l.getD i default = m.getD i default) : l = m := by
  refine List.ext_getElem h fun i q1 q2 => ?_
  have e := k i q1
  rw [List.getD_eq_getElem?_getD, List.getD_eq_getElem?_getD, List.getElem?_eq_getElem q1, List.getElem?_eq_getElem q2] at e
  exact e

theorem getD_snoc1 (l : List α) (x : α) {j : Nat} (h : j < l.length) : (l ++ [x]).getD j default = l.getD j default := by
  simp only [List.getD_eq_getElem?_getD, List.getElem?_append_left h]
theorem getD_snoc2 (l : List α) (x : α) {j : Nat} (h : j = l.length) : (l ++ [x]).getD j default = x := by
  subst h
  simp only [List.getD_eq_getElem?_getD, List.getElem?_append_right (Nat.le_refl _), Nat.sub_self, List.getElem?_cons_zero, Option.getD_some]
/-- Two elements change places. -/
def swp (l : List α) (i j : Nat) : List α := (l.set i (l.getD j default)).set j (l.getD i default)
theorem swp_len (l : List α) (i j : Nat) : (swp l i j).length = l.length := by simp [swp]
theorem swp_get {l : List α} {i j : Nat} (hi : i < l.length) (hj : j < l.length) (k : Nat) : (swp l i j).getD k default = if k = j then l.getD i default else if k = i then l.getD j default else l.getD k default := by
  unfold swp
  rw [getD_set _ _ (by simpa using hj), getD_set _ _ hi]
theorem swp_perm {l : List α} {i j : Nat} (hi : i < l.length) (hj : j < l.length) : (swp l i j).Perm l := by
  unfold swp
  have e1 : l.getD i default = l[i] := by simp [List.getD_eq_getElem?_getD, List.getElem?_eq_getElem hi]
  have e2 : l.getD j default = l[j] := by simp [List.getD_eq_getElem?_getD, List.getElem?_eq_getElem hj]
  rw [e1, e2]
  exact List.set_set_perm hi hj

/-- l' is l, with elements in [a, b) exchanged. -/
inductive Sw (a b : Nat) : List α → List α → Prop
  | refl (l : List α) : Sw a b l l
  | step {l l' : List α} (i j : Nat) (h : Sw a b l l') (hi : a ≤ i ∧ i < b) (hj : a ≤ j ∧ j < b) (hb : b ≤ l'.length) : Sw a b l (swp l' i j)
theorem Sw.len {a b : Nat} {l l' : List α} (h : Sw a b l l') : l'.length = l.length := by
  induction h with
  | refl => rfl
  | step i j h hi hj hb ih => rw [swp_len, ih]
theorem Sw.perm {a b : Nat} {l l' : List α} (h : Sw a b l l') : l'.Perm l := by
  induction h with
  | refl => exact .refl _
  | step i j h hi hj hb ih => exact (swp_perm (by omega) (by omega)).trans ih
theorem Sw.out {a b : Nat} {l l' : List α} (h : Sw a b l l') {k : Nat} (hk : k < a ∨ b ≤ k) : l'.getD k default = l.getD k default := by
  induction h with
  | refl => rfl
  | step i j h hi hj hb ih => rw [swp_get (by omega) (by omega), if_neg (by omega), if_neg (by omega), ih]
theorem Sw.in_ {a b : Nat} {l l' : List α} (h : Sw a b l l') : ∀ {k : Nat}, a ≤ k → k < b → ∃ m, a ≤ m ∧ m < b ∧ l'.getD k default = l.getD m default := by
  induction h with
  | refl => intro k h1 h2; exact ⟨k, h1, h2, rfl⟩
  | step i j h hi hj hb ih =>
    intro k h1 h2
    rw [swp_get (by omega) (by omega)]
    split
    · exact ih hi.1 hi.2
    · split
      · exact ih hj.1 hj.2
      · exact ih h1 h2
theorem Sw.trans {a b : Nat} {l m n : List α} (h : Sw a b l m) (g : Sw a b m n) : Sw a b l n := by
  induction g with
  | refl => exact h
  | step i j g hi hj hb ih => exact .step i j ih hi hj hb
theorem Sw.mono {a b a' b' : Nat} {l m : List α} (h : Sw a b l m) (ha : a' ≤ a) (hb : b ≤ b') (hl : b' ≤ l.length) : Sw a' b' l m := by
  induction h with
  | refl => exact .refl _
  | step i j g hi hj hbl ih =>
    exact .step i j ih ⟨by omega, by omega⟩ ⟨by omega, by omega⟩ (by rw [g.len]; exact hl)
theorem Sw.one {a b : Nat} {l : List α} (i j : Nat) (hi : a ≤ i ∧ i < b) (hj : a ≤ j ∧ j < b) (hb : b ≤ l.length) : Sw a b l (swp l i j) := .step i j (.refl l) hi hj hb

/-- An order by weight. -/
structure WOrd (lt : α → α → Prop) : Prop where
  irr : ∀ x, ¬ lt x x
  tr : ∀ {x y z}, lt x y → lt y z → lt x z
  ntr : ∀ {x y z}, ¬ lt y x → ¬ lt z y → ¬ lt z x
theorem WOrd.asym {lt : α → α → Prop} (W : WOrd lt) {x y : α} (h : lt x y) : ¬ lt y x := fun g => W.irr x (W.tr h g)

/-- The elements in [a, b) stand in order. -/
def Srt (lt : α → α → Prop) (a b : Nat) (l : List α) : Prop := ∀ i j, a ≤ i → i < j → j < b → ¬ lt (l.getD j default) (l.getD i default)
/-- From neighbours. -/
theorem Srt.adj {lt : α → α → Prop} (W : WOrd lt) {a b : Nat} {l : List α} (h : ∀ i, a ≤ i → i + 1 < b → ¬ lt (l.getD (i + 1) default) (l.getD i default)) : Srt lt a b l := by
  intro i j h1 h2 h3
  induction j with
  | zero => omega
  | succ j ih =>
    rcases Nat.lt_or_ge i j with q | q
    · exact W.ntr (ih q (by omega)) (h j (by omega) h3)
    · have : i = j := by omega
      subst this; exact h i h1 h3

/-! ### insertion -/
/-- [a, i] stands in order but for the element at j, which is on its way down. -/
def InsI (lt : α → α → Prop) (a i j : Nat) (l : List α) : Prop := ∀ p q, a ≤ p → p < q → q ≤ i → q ≠ j → ¬ lt (l.getD q default) (l.getD p default)
theorem InsI.start {lt : α → α → Prop} {a i : Nat} {l : List α} (h : Srt lt a i l) : InsI lt a i i l := fun p q h1 h2 h3 h4 => h p q h1 h2 (by omega)
theorem InsI.next {lt : α → α → Prop} (W : WOrd lt) {a i j : Nat} {l : List α} (h : InsI lt a i j l) (hj : a < j) (hji : j ≤ i) (hl : i < l.length) (hc : lt (l.getD j default) (l.getD (j - 1) default)) : InsI lt a i (j - 1) (swp l j (j - 1)) := by
  intro p q h1 h2 h3 h4
  have g := swp_get (l := l) (i := j) (j := j - 1) (by omega) (by omega)
  rw [g q, g p, if_neg h4]
  by_cases e1 : q = j
  · subst e1
    rw [if_pos rfl]
    by_cases e2 : p = q - 1
    · rw [if_pos e2]; exact W.asym hc
    · rw [if_neg e2, if_neg (by omega)]; exact h p (q - 1) h1 (by omega) (by omega) (by omega)
  · rw [if_neg e1]
    by_cases e2 : p = j - 1
    · rw [if_pos e2]; exact h j q (by omega) (by omega) h3 e1
    · rw [if_neg e2]
      by_cases e3 : p = j
      · rw [if_pos e3]; exact h (j - 1) q (by omega) (by omega) h3 e1
      · rw [if_neg e3]; exact h p q h1 h2 h3 e1
theorem InsI.done {lt : α → α → Prop} (W : WOrd lt) {a i j : Nat} {l : List α} (h : InsI lt a i j l) (hc : j ≤ a ∨ ¬ lt (l.getD j default) (l.getD (j - 1) default)) : Srt lt a (i + 1) l := by
  intro p q h1 h2 h3
  by_cases e : q = j
  · subst e
    rcases hc with hc | hc
    · omega
    · by_cases e2 : p = q - 1
      · rw [e2]; exact hc
      · exact W.ntr (h p (q - 1) h1 (by omega) (by omega) (by omega)) hc
  · exact h p q h1 h2 (by omega) e

/-! ### heaps -/
def HeapAt (lt : α → α → Prop) (f hi k : Nat) (l : List α) : Prop :=
  (2 * k + 1 < hi → ¬ lt (l.getD (f + k) default) (l.getD (f + (2 * k + 1)) default)) ∧ (2 * k + 2 < hi → ¬ lt (l.getD (f + k) default) (l.getD (f + (2 * k + 2)) default))
def Heap (lt : α → α → Prop) (f lo hi : Nat) (l : List α) : Prop := ∀ k, lo ≤ k → HeapAt lt f hi k l
/-- A heap but for the element at root, which is on its way down. -/
def SiftI (lt : α → α → Prop) (f lo hi root : Nat) (l : List α) : Prop :=
  (∀ k, lo ≤ k → k ≠ root → HeapAt lt f hi k l) ∧ ∀ k, lo ≤ k → (root = 2 * k + 1 ∨ root = 2 * k + 2) → ∀ c, (c = 2 * root + 1 ∨ c = 2 * root + 2) → c < hi → ¬ lt (l.getD (f + k) default) (l.getD (f + c) default)
theorem SiftI.start {lt : α → α → Prop} {f lo hi : Nat} {l : List α} (h : Heap lt f (lo + 1) hi l) : SiftI lt f lo hi lo l := ⟨fun k h1 h2 => h k (by omega), fun k h1 h2 => by omega⟩
theorem SiftI.done {lt : α → α → Prop} {f lo hi root : Nat} {l : List α} (h : SiftI lt f lo hi root l) (hc : HeapAt lt f hi root l) : Heap lt f lo hi l := fun k h1 => by
  by_cases e : k = root
  · subst e; exact hc
  · exact h.1 k h1 e
theorem SiftI.next {lt : α → α → Prop} (W : WOrd lt) {f lo hi root c : Nat} {l : List α} (h : SiftI lt f lo hi root l) (hr : lo ≤ root) (hcc : c = 2 * root + 1 ∨ c = 2 * root + 2) (hch : c < hi) (hl : f + hi ≤ l.length)
    (hm : ∀ d, (d = 2 * root + 1 ∨ d = 2 * root + 2) → d < hi → ¬ lt (l.getD (f + c) default) (l.getD (f + d) default)) (hc : lt (l.getD (f + root) default) (l.getD (f + c) default)) :
    SiftI lt f lo hi c (swp l (f + root) (f + c)) := by
  have g := swp_get (l := l) (i := f + root) (j := f + c) (by omega) (by omega)
  -- the element at k, after the exchange
  have at_c : (swp l (f + root) (f + c)).getD (f + c) default = l.getD (f + root) default := by rw [g, if_pos rfl]
  have at_r : (swp l (f + root) (f + c)).getD (f + root) default = l.getD (f + c) default := by rw [g, if_neg (by omega), if_pos rfl]
  have at_o : ∀ k, k ≠ c → k ≠ root → (swp l (f + root) (f + c)).getD (f + k) default = l.getD (f + k) default := fun k h1 h2 => by rw [g, if_neg (by omega), if_neg (by omega)]
  refine ⟨fun k h1 h2 => ?_, fun k h1 h2 d hd hdh => ?_⟩
  · by_cases e : k = root
    · subst e
      refine ⟨fun q => ?_, fun q => ?_⟩
      · rw [at_r]
        by_cases e1 : 2 * k + 1 = c
        · rw [e1, at_c]; exact W.asym hc
        · rw [at_o _ e1 (by omega)]; exact hm _ (.inl rfl) q
      · rw [at_r]
        by_cases e1 : 2 * k + 2 = c
        · rw [e1, at_c]; exact W.asym hc
        · rw [at_o _ e1 (by omega)]; exact hm _ (.inr rfl) q
    · have hk := h.1 k h1 e
      rw [HeapAt, at_o k h2 e]
      refine ⟨fun q => ?_, fun q => ?_⟩
      · by_cases e1 : 2 * k + 1 = root
        · rw [e1, at_r]; exact h.2 k h1 (.inl e1.symm) c hcc hch
        · by_cases e2 : 2 * k + 1 = c
          · omega
          · rw [at_o _ e2 e1]; exact hk.1 q
      · by_cases e1 : 2 * k + 2 = root
        · rw [e1, at_r]; exact h.2 k h1 (.inr e1.symm) c hcc hch
        · by_cases e2 : 2 * k + 2 = c
          · omega
          · rw [at_o _ e2 e1]; exact hk.2 q
  · have e : k = root := by omega
    subst e
    rw [at_r, at_o d (by omega) (by omega)]
    have hk := h.1 c (by omega) (by omega)
    rcases hd with hd | hd
    · subst hd; exact hk.1 hdh
    · subst hd; exact hk.2 hdh
theorem Heap.max {lt : α → α → Prop} (W : WOrd lt) {f hi : Nat} {l : List α} (h : Heap lt f 0 hi l) (k : Nat) (hk : k < hi) : ¬ lt (l.getD (f + 0) default) (l.getD (f + k) default) := by
  induction k using Nat.strongRecOn with
  | _ k ih =>
    rcases Nat.eq_zero_or_pos k with e | e
    · subst e; exact W.irr _
    · have hp := h ((k - 1) / 2) (Nat.zero_le _)
      have hi' := ih ((k - 1) / 2) (by omega) (by omega)
      -- ¬ lt root parent, ¬ lt parent k
      rcases (by omega : k = 2 * ((k - 1) / 2) + 1 ∨ k = 2 * ((k - 1) / 2) + 2) with q | q
      · have := hp.1 (by omega)
        rw [← q] at this
        exact W.ntr this hi'
      · have := hp.2 (by omega)
        rw [← q] at this
        exact W.ntr this hi'
/-- The heap is [f, f + i), behind it the greatest stand in order. -/
def HeapI (lt : α → α → Prop) (f i n : Nat) (l : List α) : Prop := Heap lt f 0 i l ∧ ∀ p q, p < q → i ≤ q → q < n → ¬ lt (l.getD (f + q) default) (l.getD (f + p) default)
theorem HeapI.pop {lt : α → α → Prop} (W : WOrd lt) {f i n : Nat} {l l' : List α} (h : HeapI lt f (i + 1) n l) (hin : i < n) (hl : f + n ≤ l.length) (s : Sw f (f + i) (swp l f (f + i)) l') (hh : Heap lt f 0 i l') : HeapI lt f i n l' := by
  refine ⟨hh, fun p q h1 h2 h3 => ?_⟩
  have g := swp_get (l := l) (i := f) (j := f + i) (by omega) (by omega)
  have hq : l'.getD (f + q) default = if q = i then l.getD f default else l.getD (f + q) default := by
    rw [s.out (by omega), g]
    by_cases e : q = i
    · rw [if_pos (by omega), if_pos e]
    · rw [if_neg (by omega), if_neg (by omega), if_neg e]
  rw [hq]
  -- where the element at p was
  have hp : ∃ m, m < n ∧ (m ≤ i ∨ m = p) ∧ m ≤ q ∧ (m < q ∨ q = i) ∧ l'.getD (f + p) default = l.getD (f + m) default := by
    rcases Nat.lt_or_ge p i with q1 | q1
    · obtain ⟨m, m1, m2, m3⟩ := s.in_ (k := f + p) (by omega) (by omega)
      rw [g] at m3
      rw [if_neg (by omega)] at m3
      by_cases e : m = f
      · rw [if_pos e] at m3
        exact ⟨i, by omega, .inl (Nat.le_refl _), by omega, by omega, m3⟩
      · rw [if_neg e] at m3
        exact ⟨m - f, by omega, .inl (by omega), by omega, by omega, by rw [m3]; congr 1; omega⟩
    · rw [s.out (by omega), g]
      by_cases e : p = i
      · refine ⟨0, by omega, .inl (by omega), by omega, by omega, ?_⟩
        rw [if_pos (by omega)]; rfl
      · exact ⟨p, by omega, .inr rfl, by omega, by omega, by rw [if_neg (by omega), if_neg (by omega)]⟩
  obtain ⟨m, m1, m2, m3, m4, m5⟩ := hp
  rw [m5]
  by_cases e : q = i
  · rw [if_pos e]
    exact Heap.max W h.1 m (by omega)
  · rw [if_neg e]
    exact h.2 m q (by omega) (by omega) h3

/-! ### quicksort -/
/-- All pairs in [a, b) stand in order but those within [a', b'). -/
def DoneI (lt : α → α → Prop) (a b a' b' : Nat) (l : List α) : Prop := ∀ i j, a ≤ i → i < j → j < b → (i < a' ∨ b' ≤ j) → ¬ lt (l.getD j default) (l.getD i default)
theorem DoneI.start {lt : α → α → Prop} {a b : Nat} {l : List α} : DoneI lt a b a b l := fun i j h1 h2 h3 h4 => by omega
theorem DoneI.sw {lt : α → α → Prop} {a b a' b' : Nat} {l l' : List α} (h : DoneI lt a b a' b' l) (s : Sw a' b' l l') (h1 : a ≤ a') (h2 : b' ≤ b) : DoneI lt a b a' b' l' := by
  intro i j q1 q2 q3 q4
  rcases q4 with q4 | q4
  · rw [s.out (k := i) (.inl q4)]
    rcases Nat.lt_or_ge j a' with q5 | q5
    · rw [s.out (.inl q5)]; exact h i j q1 q2 q3 (.inl q4)
    · rcases Nat.lt_or_ge j b' with q6 | q6
      · obtain ⟨m, m1, m2, m3⟩ := s.in_ q5 q6
        rw [m3]; exact h i m q1 (by omega) (by omega) (.inl q4)
      · rw [s.out (.inr q6)]; exact h i j q1 q2 q3 (.inl q4)
  · rw [s.out (k := j) (.inr q4)]
    rcases Nat.lt_or_ge i a' with q5 | q5
    · rw [s.out (.inl q5)]; exact h i j q1 q2 q3 (.inl q5)
    · rcases Nat.lt_or_ge i b' with q6 | q6
      · obtain ⟨m, m1, m2, m3⟩ := s.in_ q5 q6
        rw [m3]; exact h m j (by omega) (by omega) q3 (.inr q4)
      · rw [s.out (.inr q6)]; exact h i j q1 q2 q3 (.inr q4)
theorem DoneI.finish {lt : α → α → Prop} {a b a' b' : Nat} {l : List α} (h : DoneI lt a b a' b' l) (s : Srt lt a' b' l) : Srt lt a b l := by
  intro i j q1 q2 q3
  by_cases e : i < a' ∨ b' ≤ j
  · exact h i j q1 q2 q3 e
  · exact s i j (by omega) q2 (by omega)
/-- [a, b) is parted at m: less before it, not less behind it. -/
def Parted (lt : α → α → Prop) (a b m : Nat) (l : List α) : Prop := (∀ k, a ≤ k → k < m → lt (l.getD k default) (l.getD m default)) ∧ ∀ k, m < k → k < b → ¬ lt (l.getD k default) (l.getD m default)
theorem Parted.across {lt : α → α → Prop} (W : WOrd lt) {a b m : Nat} {l : List α} (h : Parted lt a b m l) {i j : Nat} (h1 : a ≤ i) (h2 : i ≤ m) (h3 : m ≤ j) (h4 : j < b) (h5 : i < j) : ¬ lt (l.getD j default) (l.getD i default) := by
  have e1 : ¬ lt (l.getD m default) (l.getD i default) := by
    rcases Nat.lt_or_ge i m with q | q
    · exact W.asym (h.1 i h1 q)
    · have : i = m := by omega
      subst this; exact W.irr _
  have e2 : ¬ lt (l.getD j default) (l.getD m default) := by
    rcases Nat.lt_or_ge m j with q | q
    · exact h.2 j q h4
    · have : j = m := by omega
      subst this; exact W.irr _
  exact W.ntr e1 e2
/-- The left part is put in order: what is left is the right one. -/
theorem DoneI.left {lt : α → α → Prop} (W : WOrd lt) {a b a' b' m : Nat} {l l' : List α} (h : DoneI lt a b a' b' l) (p : Parted lt a' b' m l) (hm : a' ≤ m ∧ m < b') (hab : a ≤ a' ∧ b' ≤ b) (s : Sw a' m l l') (hs : Srt lt a' m l') (hl : b' ≤ l.length) : DoneI lt a b (m + 1) b' l' := by
  have h' := h.sw (s.mono (Nat.le_refl _) (by omega) hl) hab.1 hab.2
  intro i j q1 q2 q3 q4
  by_cases e : i < a' ∨ b' ≤ j
  · exact h' i j q1 q2 q3 e
  · rcases q4 with q4 | q4
    · rcases Nat.lt_or_ge j m with q5 | q5
      · exact hs i j (by omega) q2 q5
      · rw [s.out (k := j) (.inr q5)]
        rcases Nat.lt_or_ge i m with q6 | q6
        · obtain ⟨k, k1, k2, k3⟩ := s.in_ (k := i) (by omega) q6
          rw [k3]; exact p.across W k1 (by omega) q5 (by omega) (by omega)
        · rw [s.out (.inr q6)]; exact p.across W (by omega) (by omega) q5 (by omega) q2
    · omega
theorem DoneI.right {lt : α → α → Prop} (W : WOrd lt) {a b a' b' m : Nat} {l l' : List α} (h : DoneI lt a b a' b' l) (p : Parted lt a' b' m l) (hm : a' ≤ m ∧ m < b') (hab : a ≤ a' ∧ b' ≤ b) (s : Sw (m + 1) b' l l') (hs : Srt lt (m + 1) b' l') (hl : b' ≤ l.length) : DoneI lt a b a' m l' := by
  have h' := h.sw (s.mono (by omega) (Nat.le_refl _) hl) hab.1 hab.2
  intro i j q1 q2 q3 q4
  by_cases e : i < a' ∨ b' ≤ j
  · exact h' i j q1 q2 q3 e
  · rcases q4 with q4 | q4
    · omega
    · rcases Nat.lt_or_ge m i with q5 | q5
      · exact hs i j (by omega) q2 (by omega)
      · rw [s.out (k := i) (.inl (by omega))]
        rcases Nat.lt_or_ge m j with q6 | q6
        · obtain ⟨k, k1, k2, k3⟩ := s.in_ (k := j) (by omega) (by omega)
          rw [k3]; exact p.across W (by omega) q5 (by omega) k2 (by omega)
        · rw [s.out (.inl (by omega))]; exact p.across W (by omega) q5 (by omega) (by omega) q2
/-- Elements that are not greater than x in front, greater ones behind; none is less than x. -/
theorem DoneI.eq_ {lt : α → α → Prop} (W : WOrd lt) {a b a' b' m : Nat} {l : List α} {x : α} (h : DoneI lt a b a' b' l) (hm : a' ≤ m ∧ m ≤ b') (h1 : ∀ k, a' ≤ k → k < m → ¬ lt x (l.getD k default)) (h2 : ∀ k, m ≤ k → k < b' → lt x (l.getD k default)) (h3 : ∀ k, a' ≤ k → k < b' → ¬ lt (l.getD k default) x) : DoneI lt a b m b' l := by
  intro i j q1 q2 q3 q4
  by_cases e : i < a' ∨ b' ≤ j
  · exact h i j q1 q2 q3 e
  · rcases q4 with q4 | q4
    · exact W.ntr (h1 i (by omega) q4) (h3 j (by omega) (by omega))
    · omega
theorem Sw.all {a b : Nat} {l l' : List α} (s : Sw a b l l') {p : α → Prop} (h : ∀ k, a ≤ k → k < b → p (l.getD k default)) : ∀ k, a ≤ k → k < b → p (l'.getD k default) := fun k h1 h2 => by
  obtain ⟨m, m1, m2, m3⟩ := s.in_ h1 h2
  rw [m3]; exact h m m1 m2
end
end Go.Proofs.Xx

/-
  Merging by symmetric comparisons: two runs become one, rotations.
-/
namespace Go.Proofs.Xx
set_option linter.unusedVariables false
set_option linter.unusedSectionVars false

section
variable {α : Type} [Inhabited α]
/-- n elements from a on and from b on change places. -/
def xch (a b n k : Nat) : Nat := if a ≤ k ∧ k < a + n then k + (b - a) else if b ≤ k ∧ k < b + n then k - (b - a) else k
def IsXch (a b n : Nat) (l l' : List α) : Prop := ∀ k, l'.getD k default = l.getD (xch a b n k) default
theorem IsXch.zero {a b : Nat} {l : List α} : IsXch a b 0 l l := fun k => by
  unfold xch
  rw [if_neg (by omega), if_neg (by omega)]
theorem IsXch.next {a b i : Nat} {l l' : List α} (h : IsXch a b i l l') (hab : a + i < b) (hl : b + i < l'.length) : IsXch a b (i + 1) l (swp l' (a + i) (b + i)) := fun k => by
  rw [swp_get (by omega) hl]
  rw [h, h, h]
  unfold xch
  repeat' split
  all_goals first | omega | rfl | (congr 1 <;> omega)
/-- Two neighbouring parts change places. -/
def rot (a m b k : Nat) : Nat := if k < a then k else if k < a + (b - m) then k + (m - a) else if k < b then k - (b - m) else k
def IsRot (a m b : Nat) (l l' : List α) : Prop := ∀ k, l'.getD k default = l.getD (rot a m b k) default
/-- l, rotated, is c, rotated between i before m and j behind it. -/
def RotI (a m b i j : Nat) (l c : List α) : Prop := ∀ k, l.getD (rot a m b k) default = c.getD (rot (m - i) m (m + j) k) default
theorem RotI.start {a m b : Nat} {l : List α} (h1 : a ≤ m) (h2 : m ≤ b) : RotI a m b (m - a) (b - m) l l := fun k => by
  rw [show m - (m - a) = a by omega, show m + (b - m) = b by omega]
theorem RotI.left {a m b i j : Nat} {l c c' : List α} (h : RotI a m b i j l c) (hi : i ≤ m) (hij : j < i) (x : IsXch (m - i) m j c c') : RotI a m b (i - j) j l c' := fun k => by
  rw [h k, x]
  congr 1
  unfold xch rot
  repeat' split
  all_goals omega
theorem RotI.right {a m b i j : Nat} {l c c' : List α} (h : RotI a m b i j l c) (hi : i ≤ m) (hij : i < j) (x : IsXch (m - i) (m + j - i) i c c') : RotI a m b i (j - i) l c' := fun k => by
  rw [h k, x]
  congr 1
  unfold xch rot
  repeat' split
  all_goals omega
theorem RotI.done {a m b i : Nat} {l c c' : List α} (h : RotI a m b i i l c) (hi : i ≤ m) (x : IsXch (m - i) m i c c') : IsRot a m b l c' := fun k => by
  rw [h k, x]
  congr 1
  unfold xch rot
  repeat' split
  all_goals omega

/-- An element goes up from a to k. -/
def IsUp (a k : Nat) (l l' : List α) : Prop := ∀ x, l'.getD x default = l.getD (if x < a then x else if x < k then x + 1 else if x = k then a else x) default
theorem IsUp.start {a : Nat} {l : List α} : IsUp a a l l := fun x => by
  congr 1
  repeat' split
  all_goals omega
theorem IsUp.next {a k : Nat} {l l' : List α} (h : IsUp a k l l') (hak : a ≤ k) (hl : k + 1 < l'.length) : IsUp a (k + 1) l (swp l' k (k + 1)) := fun x => by
  rw [swp_get (by omega) hl]
  rw [h, h, h]
  repeat' split
  all_goals first | omega | rfl | (congr 1 <;> omega)
/-- An element goes down from m to k. -/
def IsDown (m k : Nat) (l l' : List α) : Prop := ∀ x, l'.getD x default = l.getD (if x < k then x else if x = k then m else if x ≤ m then x - 1 else x) default
theorem IsDown.start {m : Nat} {l : List α} : IsDown m m l l := fun x => by
  congr 1
  repeat' split
  all_goals omega
theorem IsDown.next {m k : Nat} {l l' : List α} (h : IsDown m k l l') (hk : 0 < k ∧ k ≤ m) (hl : m < l'.length) : IsDown m (k - 1) l (swp l' k (k - 1)) := fun x => by
  rw [swp_get (by omega) (by omega)]
  rw [h, h, h]
  repeat' split
  all_goals first | omega | rfl | (congr 1 <;> omega)
end

/-- By a key, and by number where the keys are the same. -/
def lexi (key : Int → Int) (x y : Int) : Prop := key x < key y ∨ (key x = key y ∧ x < y)
theorem lexi_ord (key : Int → Int) : WOrd (lexi key) where
  irr x h := by unfold lexi at h; omega
  tr h1 h2 := by unfold lexi at *; omega
  ntr h1 h2 := by unfold lexi at *; omega
theorem lexi_key {key : Int → Int} {x y : Int} (h : y < x) : lexi key x y ↔ key x < key y := by unfold lexi; omega

/-- Two runs; what is in the first has the lesser numbers. -/
structure Mrg (key : Int → Int) (a m b : Nat) (l : List Int) : Prop where
  sl : Srt (lexi key) a m l
  sr : Srt (lexi key) m b l
  cr : ∀ p q, a ≤ p → p < m → m ≤ q → q < b → l.getD p default < l.getD q default

theorem Mrg.up {key : Int → Int} {a b i : Nat} {l l' : List Int} (h : Mrg key a (a + 1) b l) (hi : a + 1 ≤ i ∧ i ≤ b) (h1 : ∀ k, a + 1 ≤ k → k < i → lexi key (l.getD k default) (l.getD a default)) (h2 : ∀ k, i ≤ k → k < b → ¬ lexi key (l.getD k default) (l.getD a default)) (u : IsUp a (i - 1) l l') : Srt (lexi key) a b l' := by
  have W := lexi_ord key
  have u1 : ∀ x, a ≤ x → x < i - 1 → l'.getD x default = l.getD (x + 1) default := fun x q1 q2 => by rw [u x, if_neg (by omega), if_pos q2]
  have u2 : l'.getD (i - 1) default = l.getD a default := by
    rw [u, if_neg (by omega), if_neg (by omega), if_pos rfl]
  have u3 : ∀ x, i - 1 < x → l'.getD x default = l.getD x default := fun x q1 => by rw [u x, if_neg (by omega), if_neg (by omega), if_neg (by omega)]
  intro p q q1 q2 q3
  rcases Nat.lt_trichotomy p (i - 1) with e1 | e1 | e1
  · rw [u1 p q1 e1]
    rcases Nat.lt_trichotomy q (i - 1) with e2 | e2 | e2
    · rw [u1 q (by omega) e2]; exact h.sr _ _ (by omega) (by omega) (by omega)
    · rw [e2, u2]; exact W.asym (h1 _ (by omega) (by omega))
    · rw [u3 q e2]; exact h.sr _ _ (by omega) (by omega) (by omega)
  · rw [e1, u2, u3 q (by omega)]; exact h2 _ (by omega) q3
  · rw [u3 p e1, u3 q (by omega)]; exact h.sr _ _ (by omega) (by omega) (by omega)
theorem Mrg.down {key : Int → Int} {a m i : Nat} {l l' : List Int} (h : Mrg key a m (m + 1) l) (hi : a ≤ i ∧ i ≤ m) (h1 : ∀ k, a ≤ k → k < i → ¬ lexi key (l.getD m default) (l.getD k default)) (h2 : ∀ k, i ≤ k → k < m → lexi key (l.getD m default) (l.getD k default)) (u : IsDown m i l l') : Srt (lexi key) a (m + 1) l' := by
  have W := lexi_ord key
  have u1 : ∀ x, x < i → l'.getD x default = l.getD x default := fun x q1 => by rw [u x, if_pos q1]
  have u2 : l'.getD i default = l.getD m default := by
    rw [u, if_neg (by omega), if_pos rfl]
  have u3 : ∀ x, i < x → x ≤ m → l'.getD x default = l.getD (x - 1) default := fun x q1 q2 => by rw [u x, if_neg (by omega), if_neg (by omega), if_pos q2]
  intro p q q1 q2 q3
  rcases Nat.lt_trichotomy p i with e1 | e1 | e1
  · rw [u1 p e1]
    rcases Nat.lt_trichotomy q i with e2 | e2 | e2
    · rw [u1 q e2]; exact h.sl _ _ (by omega) (by omega) (by omega)
    · rw [e2, u2]; exact h1 _ (by omega) (by omega)
    · rw [u3 q e2 (by omega)]; exact h.sl _ _ (by omega) (by omega) (by omega)
  · rw [e1, u2, u3 q (by omega) (by omega)]; exact W.asym (h2 _ (by omega) (by omega))
  · rw [u3 p e1 (by omega), u3 q (by omega) (by omega)]; exact h.sl _ _ (by omega) (by omega) (by omega)

/-- The search: at s the low end, at r the high one. -/
structure SrI (key : Int → Int) (a m b mid s r : Nat) (l : List Int) : Prop where
  lo : (if m > mid then mid + m - b else a) ≤ s
  sr : s ≤ r
  hi : r ≤ (if m > mid then mid else m)
  low : (if m > mid then mid + m - b else a) < s → ¬ lexi key (l.getD (mid + m - s) default) (l.getD (s - 1) default)
  high : r < (if m > mid then mid else m) → lexi key (l.getD (mid + m - 1 - r) default) (l.getD r default)
theorem Mrg.search {key : Int → Int} {a m b mid s : Nat} {l l2 : List Int} (h : Mrg key a m b l) (hm : mid = (a + b) / 2) (hab : a < m ∧ m < b) (I : SrI key a m b mid s s l)
    (hr : IsRot s m (mid + m - s) l l2) : (a ≤ s ∧ s ≤ mid ∧ s ≤ m ∧ m ≤ mid + m - s ∧ mid + m - s ≤ b) ∧ Mrg key a s mid l2 ∧ Mrg key mid (mid + m - s) b l2 ∧ ∀ x y, a ≤ x → x < mid → mid ≤ y → y < b → ¬ lexi key (l2.getD y default) (l2.getD x default) := by
  have W := lexi_ord key
  have lo := I.lo
  have hi := I.hi
  have low := I.low
  have high := I.high
  have hs : a ≤ s ∧ s ≤ mid ∧ s ≤ m ∧ m ≤ mid + m - s ∧ mid + m - s ≤ b := by
    split at lo <;> split at hi <;> omega
  have r1 : ∀ k, k < s → l2.getD k default = l.getD k default := fun k hk => by rw [hr k]; unfold rot; rw [if_pos hk]
  have r2 : ∀ k, s ≤ k → k < mid → l2.getD k default = l.getD (k + (m - s)) default := fun k h1 h2 => by rw [hr k]; unfold rot; rw [if_neg (by omega), if_pos (by omega)]
  have r3 : ∀ k, mid ≤ k → k < mid + m - s → l2.getD k default = l.getD (k - (mid - s)) default := fun k h1 h2 => by
    rw [hr k]; unfold rot; rw [if_neg (by omega), if_neg (by omega), if_pos (by omega)]; congr 1; omega
  have r4 : ∀ k, mid + m - s ≤ k → l2.getD k default = l.getD k default := fun k h1 => by rw [hr k]; unfold rot; rw [if_neg (by omega), if_neg (by omega), if_neg (by omega)]
  refine ⟨hs, ⟨fun i j q1 q2 q3 => ?_, fun i j q1 q2 q3 => ?_, fun p q q1 q2 q3 q4 => ?_⟩, ⟨fun i j q1 q2 q3 => ?_, fun i j q1 q2 q3 => ?_, fun p q q1 q2 q3 q4 => ?_⟩, fun x y q1 q2 q3 q4 => ?_⟩
  · rw [r1 i (by omega), r1 j q3]; exact h.sl i j q1 q2 (by omega)
  · rw [r2 i q1 (by omega), r2 j (by omega) q3]; exact h.sr _ _ (by omega) (by omega) (by omega)
  · rw [r1 p q2, r2 q q3 q4]; exact h.cr _ _ q1 (by omega) (by omega) (by omega)
  · rw [r3 i q1 (by omega), r3 j (by omega) q3]; exact h.sl _ _ (by omega) (by omega) (by omega)
  · rw [r4 i q1, r4 j (by omega)]; exact h.sr _ _ (by omega) q2 q3
  · rw [r3 p q1 q2, r4 q q3]; exact h.cr _ _ (by omega) (by omega) (by omega) q4
  · -- what is behind the middle of the first run, or of the second one
    have le_of : ∀ {i j : Nat}, a ≤ i → i ≤ j → j < m → ¬ lexi key (l.getD j default) (l.getD i default) := fun {i j} g1 g2 g3 => by
      rcases Nat.lt_or_ge i j with q | q
      · exact h.sl i j g1 q g3
      · have : i = j := by omega
        subst this; exact W.irr _
    have le_of2 : ∀ {i j : Nat}, m ≤ i → i ≤ j → j < b → ¬ lexi key (l.getD j default) (l.getD i default) := fun {i j} g1 g2 g3 => by
      rcases Nat.lt_or_ge i j with q | q
      · exact h.sr i j g1 q g3
      · have : i = j := by omega
        subst this; exact W.irr _
    rcases Nat.lt_or_ge x s with e1 | e1
    · rw [r1 x e1]
      rcases Nat.lt_or_ge y (mid + m - s) with e2 | e2
      · rw [r3 y q3 e2]; exact le_of q1 (by omega) (by omega)
      · rw [r4 y e2]
        have g : ¬ lexi key (l.getD (mid + m - s) default) (l.getD (s - 1) default) := low (by split <;> omega)
        have g1 : ¬ lexi key (l.getD (s - 1) default) (l.getD x default) := le_of q1 (by omega) (by omega)
        have g2 : ¬ lexi key (l.getD y default) (l.getD (mid + m - s) default) := le_of2 (by omega) e2 q4
        exact W.ntr (W.ntr g1 g) g2
    · rw [r2 x e1 q2]
      rcases Nat.lt_or_ge y (mid + m - s) with e2 | e2
      · rw [r3 y q3 e2]
        have g : lexi key (l.getD (mid + m - 1 - s) default) (l.getD s default) := high (by split <;> omega)
        have g1 : ¬ lexi key (l.getD (y - (mid - s)) default) (l.getD s default) := le_of (by omega) (by omega) (by omega)
        have g2 : ¬ lexi key (l.getD (mid + m - 1 - s) default) (l.getD (x + (m - s)) default) := le_of2 (by omega) (by omega) (by omega)
        exact W.ntr (W.ntr g2 (W.asym g)) g1
      · rw [r4 y e2]; exact le_of2 (by omega) (by omega) q4
/-- Both halves in order, and across. -/
theorem srt_halves {key : Int → Int} {a mid b : Nat} {l2 l3 l4 : List Int} (hc : ∀ x y, a ≤ x → x < mid → mid ≤ y → y < b → ¬ lexi key (l2.getD y default) (l2.getD x default)) (s3 : Sw a mid l2 l3) (h3 : Srt (lexi key) a mid l3) (s4 : Sw mid b l3 l4) (h4 : Srt (lexi key) mid b l4) (hm : mid ≤ b) : Srt (lexi key) a b l4 := by
  intro i j q1 q2 q3
  rcases Nat.lt_or_ge j mid with e1 | e1
  · rw [s4.out (.inl e1), s4.out (k := i) (.inl (by omega))]; exact h3 i j q1 q2 e1
  · rcases Nat.lt_or_ge i mid with e2 | e2
    · rw [s4.out (k := i) (.inl e2)]
      obtain ⟨n, n1, n2, n3⟩ := s4.in_ e1 q3
      obtain ⟨k, k1, k2, k3⟩ := s3.in_ q1 e2
      rw [n3, k3, s3.out (.inr n1)]
      exact hc k n k1 k2 n1 n2
    · exact h4 i j e2 q2 q3
theorem Mrg.sw_right {key : Int → Int} {a mid m b : Nat} {l2 l3 : List Int} (h : Mrg key mid m b l2) (s : Sw a mid l2 l3) (hm : mid ≤ m) : Mrg key mid m b l3 := by
  have e : ∀ k, mid ≤ k → l3.getD k default = l2.getD k default := fun k hk => s.out (.inr hk)
  exact ⟨fun i j q1 q2 q3 => by rw [e i q1, e j (by omega)]; exact h.sl i j q1 q2 q3, fun i j q1 q2 q3 => by rw [e i (by omega), e j (by omega)]; exact h.sr i j q1 q2 q3, fun p q q1 q2 q3 q4 => by rw [e p q1, e q (by omega)]; exact h.cr p q q1 q2 q3 q4⟩
end Go.Proofs.Xx

/-
  Sorting by a key, in place: insertion.
-/
namespace Go.Proofs.Xx
open Go Go.Proofs
set_option linter.unusedSimpArgs false
set_option linter.unusedVariables false
set_option maxRecDepth 100000

/-- The function g compares what p holds for by a key. -/
def KeyFn (h0 : AH) (g : Nat) (cap : List Value) (key : Int → Int) (p : Int → Prop) : Prop :=
  ∀ h x y, Ext h0 h → p x → p y → Fn Tryz.prog Xh g (.int .i64 x :: .int .i64 y :: cap) h (fun v h' => ∃ d, v = .int .i64 d ∧ (d < 0 ↔ key x < key y) ∧ Hs h h' [])
def Inc (a b : Nat) (l : List Int) : Prop := ∀ i j, a ≤ i → i < j → j < b → l.getD i default < l.getD j default
abbrev cvV (g : Nat) (cap : List Value) : Value := .func (.func g) #[] cap.toArray

theorem toNat_pred (j : Nat) : ((j : Int) - 1).toNat = j - 1 := by omega
theorem toNat_succ (j : Nat) : ((j : Int) + 1).toNat = j + 1 := by omega
theorem toNat_sum (i j : Nat) : ((i : Int) + (j : Int)).toNat = i + j := by omega
theorem insK_ok {h0 h : AH} {rs : List Rs} {v : Value} {l : List Int} {g : Nat} {cap : List Value} {key : Int → Int} {p : Int → Prop} (a b : Nat) (S : Hs h0 h (.sl v 3 1 eI l :: rs)) (C : KeyFn h0 g cap key p) (hp : ∀ k, a ≤ k → k < b → p (l.getD k default)) (hab : a ≤ b) (hb : b ≤ l.length) (hl : l.length ≤ 1000000) (hi : Inc a b l) :
    Fn Tryz.prog Xh 178 [v, .int .i64 a, .int .i64 b, cvV g cap] h (fun _ h' => ∃ l', Sw a b l l' ∧ Srt (lexi key) a b l' ∧ Hs h0 h' (.sl v 3 1 eI l' :: rs)) := by
  have W := lexi_ord key
  refine Fn_K rfl Tryz.func178 rfl rfl ?_
  all_goals (repeat' (first | refine K_seq ?_ | refine k_cond rfl ?_ | refine K_skip ?_ | refine K_exit ?_ | refine k_block ?_ | refine K_scope ?_ | (refine K_region (id := 0) ?_; refine mv ?_; (first | refine ad ?_ | refine vl ?_); refine mv ?_; refine KO_nil ?_)))
  refine k_loop (σ := Nat × List Int) (fun (i, m) h' => Hs h0 h' (.sl v 3 1 eI m :: rs) ∧ a < i ∧ Sw a (min i b) l m ∧ Srt (lexi key) a (min i b) m) (fun (i, m) => b - i) (fun (i, m) => [(0, v), (1, .int .i64 a), (2, .int .i64 b), (3, cvV g cap), (8, .int .i64 i)]) (a + 1, l) (by repeat (first | exact Ks.le_nil _ | refine Ks.le_cons rfl ?_ | refine Ks.le_int ?_)) ?_ ?_
  · exact ⟨S, by omega, .refl _, fun i j q1 q2 q3 => by omega⟩
  clear S
  rintro ⟨i, m⟩ h ⟨S, h1, h2, h3⟩
  have hml := h2.len
  all_goals (repeat' (first | refine K_seq ?_ | refine k_cond rfl ?_ | refine K_skip ?_ | refine K_exit ?_ | refine k_block ?_ | refine K_scope ?_ | (refine K_region (id := 1) ?_; refine mv ?_; refine mv ?_; (first | refine cT ?_ | refine cF ?_ | (refine cS ?_ ?_ <;> intro hc)) <;> (refine KO_nil ?_)) | (refine K_region (id := 3) ?_; refine mv ?_; refine mv ?_; refine KO_nil ?_)))
  · have hib : i < b := by omega
    rw [Nat.min_eq_left (by omega)] at h2 h3
    refine k_loop (σ := Nat × List Int) (fun (j, n) h' => Hs h0 h' (.sl v 3 1 eI n :: rs) ∧ a ≤ j ∧ j ≤ i ∧ Sw a (i + 1) l n ∧ InsI (lexi key) a i j n ∧ n.getD j default = l.getD i default ∧ ∀ k, a ≤ k → k ≤ i → k ≠ j → n.getD k default < l.getD i default) (fun (j, n) => j) (fun (j, n) => [(0, v), (1, .int .i64 a), (2, .int .i64 b), (3, cvV g cap), (8, .int .i64 i), (9, .int .i64 j)]) (i, m) (by repeat (first | exact Ks.le_nil _ | refine Ks.le_cons rfl ?_ | refine Ks.le_int ?_)) ?_ ?_
    · refine ⟨S, by omega, Nat.le_refl _, h2.mono (Nat.le_refl _) (by omega) (by omega), InsI.start h3, h2.out (.inr (Nat.le_refl _)), fun k q1 q2 q3 => ?_⟩
      obtain ⟨r, r1, r2, r3⟩ := h2.in_ q1 (by omega)
      rw [r3]; exact hi r i r1 r2 hib
    clear S h2 h3 hml
    rintro ⟨j, n⟩ h ⟨S, k1, k2, k3, k4, k5, k6⟩
    have hnl := k3.len
    have hpn := fun k (q1 : a ≤ k) (q2 : k < b) => (k3.mono (Nat.le_refl _) (by omega) hb).all hp k q1 q2
    all_goals (repeat' (first | refine K_seq ?_ | refine k_cond rfl ?_ | refine K_skip ?_ | refine K_exit ?_ | refine k_block ?_ | refine K_scope ?_ | (refine K_region (id := 2) ?_; refine mv ?_; (first | refine ad ?_ | refine vl ?_); refine mv ?_; refine KO_nil ?_) | (refine K_draw (id := 4) ?_; refine mv ?_; refine mv ?_; (first | refine cT ?_ | refine cF ?_ | (refine cS ?_ ?_ <;> intro hc)) <;> (refine mv ?_; (first | refine off ?_ | refine mv ?_); (first | refine off ?_ | refine mv ?_); (first | refine off ?_ | refine mv ?_); (first | refine off ?_ | (first | refine ixB S ?_ | refine ixS2 S rfl rfl ?_)); (first | refine off ?_ | (first | refine lB S rfl rfl ?_ | refine lES2 S rfl rfl ?_ | refine lEB S ?_ | refine lH S ?_)); (first | refine off ?_ | refine mv ?_); (first | refine off ?_ | refine mv ?_); (first | refine off ?_ | (first | refine sb ?_ | refine vl ?_)); (first | refine off ?_ | (first | refine ixB S ?_ | refine ixS2 S rfl rfl ?_)); (first | refine off ?_ | (first | refine lB S rfl rfl ?_ | refine lES2 S rfl rfl ?_ | refine lEB S ?_ | refine lH S ?_)); (first | (refine off ?_; (first | refine off ?_ | (first | refine cT ?_ | refine cF ?_ | (refine cS ?_ ?_ <;> intro hc))) <;> (refine vl ?_; refine KO_nil ?_)) | skip))) | (refine K_region (id := 5) ?_; refine mv ?_; (first | refine sb ?_ | refine vl ?_); refine mv ?_; refine KO_nil ?_) | (refine K_draw (id := 6) ?_; refine mv ?_; refine mv ?_; refine mv ?_; refine mv ?_; (first | refine sb ?_ | refine vl ?_); refine mv ?_; refine mv ?_; (first | refine sb ?_ | refine vl ?_); (first | refine ixB S ?_ | refine ixS2 S rfl rfl ?_); (first | refine lB S rfl rfl ?_ | refine lES2 S rfl rfl ?_ | refine lEB S ?_ | refine lH S ?_); refine mv ?_; refine mv ?_; (first | refine ixB S ?_ | refine ixS2 S rfl rfl ?_); (first | refine lB S rfl rfl ?_ | refine lES2 S rfl rfl ?_ | refine lEB S ?_ | refine lH S ?_); (first | refine ixB S ?_ | refine ixS2 S rfl rfl ?_); (first | (refine sB S rfl rfl ?_; clear S; intro h S) | (refine sE2 S rfl rfl ?_; clear S; intro h S)); (first | refine ixB S ?_ | refine ixS2 S rfl rfl ?_); (first | (refine sB S rfl rfl ?_; clear S; intro h S) | (refine sE2 S rfl rfl ?_; clear S; intro h S)); refine KO_nil ?_)))
    · simp only [toNat_pred, Int.toNat_natCast]
      (refine KO_call rfl rfl rfl rfl ((C _ _ _ S.ext (hpn j (by omega) (by omega)) (hpn (j - 1) (by omega) (by omega))).mono ?_); rintro _ h ⟨d, rfl, hd, x⟩) <;> (replace S := S.join0 x; clear x; have hd := hd.trans (lexi_key (show n.getD (j - 1) default < n.getD j default by rw [k5]; exact k6 _ (by omega) (by omega) (by omega))).symm; (first | refine off ?_ | (first | refine cT ?_ | refine cF ?_ | (refine cS ?_ ?_ <;> intro hc))) <;> (refine vl ?_; refine KO_nil ?_))
      all_goals (repeat' (first | refine K_seq ?_ | refine k_cond rfl ?_ | refine K_skip ?_ | refine K_exit ?_ | refine k_block ?_ | refine K_scope ?_ | (refine K_region (id := 2) ?_; refine mv ?_; (first | refine ad ?_ | refine vl ?_); refine mv ?_; refine KO_nil ?_) | (refine K_region (id := 5) ?_; refine mv ?_; (first | refine sb ?_ | refine vl ?_); refine mv ?_; refine KO_nil ?_) | (refine K_draw (id := 6) ?_; refine mv ?_; refine mv ?_; refine mv ?_; refine mv ?_; (first | refine sb ?_ | refine vl ?_); refine mv ?_; refine mv ?_; (first | refine sb ?_ | refine vl ?_); (first | refine ixB S ?_ | refine ixS2 S rfl rfl ?_); (first | refine lB S rfl rfl ?_ | refine lES2 S rfl rfl ?_ | refine lEB S ?_ | refine lH S ?_); refine mv ?_; refine mv ?_; (first | refine ixB S ?_ | refine ixS2 S rfl rfl ?_); (first | refine lB S rfl rfl ?_ | refine lES2 S rfl rfl ?_ | refine lEB S ?_ | refine lH S ?_); (first | refine ixB S ?_ | refine ixS2 S rfl rfl ?_); (first | (refine sB S rfl rfl ?_; clear S; intro h S) | (refine sE2 S rfl rfl ?_; clear S; intro h S)); (first | refine ixB S ?_ | refine ixS2 S rfl rfl ?_); (first | (refine sB S rfl rfl ?_; clear S; intro h S) | (refine sE2 S rfl rfl ?_; clear S; intro h S)); refine KO_nil ?_)))
      · simp only [toNat_pred, Int.toNat_natCast] at S
        have hjs := k4.next W (by omega) k2 (by omega) (hd.1 (by assumption))
        refine ⟨(j - 1, swp n j (j - 1)), ?_, ?_, (by repeat (first | exact Ks.le_nil _ | refine Ks.le_cons rfl ?_ | refine Ks.le_int ?_))⟩
        · show j - 1 < j; omega
        · refine ⟨S, by omega, by omega, k3.step j (j - 1) ⟨by omega, by omega⟩ ⟨by omega, by omega⟩ (by omega), hjs, ?_, fun k q1 q2 q3 => ?_⟩
          · rw [swp_get (by omega) (by omega), if_pos rfl]; exact k5
          · rw [swp_get (by omega) (by omega), if_neg q3]
            split
            · exact k6 _ (by omega) (by omega) (by omega)
            · exact k6 _ q1 q2 (by assumption)
      · refine ⟨(i + 1, n), ?_, ?_, (by repeat (first | exact Ks.le_nil _ | refine Ks.le_cons rfl ?_ | refine Ks.le_int ?_))⟩
        · show b - (i + 1) < b - i; omega
        · simp only [Nat.min_eq_left (show i + 1 ≤ b by omega)]
          exact ⟨S, by omega, k3, k4.done W (.inr fun q => absurd (hd.2 q) (by assumption))⟩
    · refine ⟨(i + 1, n), ?_, ?_, (by repeat (first | exact Ks.le_nil _ | refine Ks.le_cons rfl ?_ | refine Ks.le_int ?_))⟩
      · show b - (i + 1) < b - i; omega
      · simp only [Nat.min_eq_left (show i + 1 ≤ b by omega)]
        exact ⟨S, by omega, k3, k4.done W (.inl (by omega))⟩
  · rw [Nat.min_eq_right (by omega)] at h2 h3
    refine ⟨_, rfl, ?_⟩
    exact ⟨m, h2, h3, S⟩

theorem xch_ok {h0 h : AH} {rs : List Rs} {v : Value} {l : List Int} {cv : Value} (a b n : Nat) (S : Hs h0 h (.sl v 3 1 eI l :: rs)) (hab : a + n ≤ b) (hb : b + n ≤ l.length) (hl : l.length ≤ 1000000) :
    Fn Tryz.prog Xh 233 [v, .int .i64 a, .int .i64 b, .int .i64 n, cv] h (fun _ h' => ∃ l', Sw a (b + n) l l' ∧ IsXch a b n l l' ∧ Hs h0 h' (.sl v 3 1 eI l' :: rs)) := by
  refine Fn_K rfl Tryz.func233 rfl rfl ?_
  all_goals (repeat' (first | refine K_seq ?_ | refine k_cond rfl ?_ | refine K_skip ?_ | refine K_exit ?_ | refine k_block ?_ | refine K_scope ?_ | (refine K_region (id := 0) ?_; refine mv ?_; refine KO_nil ?_)))
  refine k_loop (σ := Nat × List Int) (fun (i, m) h' => Hs h0 h' (.sl v 3 1 eI m :: rs) ∧ i ≤ n ∧ Sw a (b + n) l m ∧ IsXch a b i l m) (fun (i, m) => n - i) (fun (i, m) => [(0, v), (1, .int .i64 a), (2, .int .i64 b), (3, .int .i64 n), (10, .int .i64 i)]) (0, l) (by repeat (first | exact Ks.le_nil _ | refine Ks.le_cons rfl ?_ | refine Ks.le_int ?_)) ?_ ?_
  · exact ⟨S, Nat.zero_le _, .refl _, .zero⟩
  clear S
  rintro ⟨i, m⟩ h ⟨S, h1, h2, h3⟩
  have hml := h2.len
  all_goals (repeat' (first | refine K_seq ?_ | refine k_cond rfl ?_ | refine K_skip ?_ | refine K_exit ?_ | refine k_block ?_ | refine K_scope ?_ | (refine K_region (id := 1) ?_; refine mv ?_; refine mv ?_; (first | refine cT ?_ | refine cF ?_ | (refine cS ?_ ?_ <;> intro hc)) <;> (refine KO_nil ?_)) | (refine K_region (id := 2) ?_; refine mv ?_; (first | refine ad ?_ | refine vl ?_); refine mv ?_; refine KO_nil ?_) | (refine K_draw (id := 3) ?_; refine mv ?_; refine mv ?_; refine mv ?_; (first | refine ad ?_ | refine vl ?_); refine mv ?_; refine mv ?_; refine mv ?_; (first | refine ad ?_ | refine vl ?_); refine mv ?_; refine mv ?_; refine mv ?_; (first | refine ad ?_ | refine vl ?_); (first | refine ixB S ?_ | refine ixS2 S rfl rfl ?_); (first | refine lB S rfl rfl ?_ | refine lES2 S rfl rfl ?_ | refine lEB S ?_ | refine lH S ?_); refine mv ?_; refine mv ?_; refine mv ?_; (first | refine ad ?_ | refine vl ?_); (first | refine ixB S ?_ | refine ixS2 S rfl rfl ?_); (first | refine lB S rfl rfl ?_ | refine lES2 S rfl rfl ?_ | refine lEB S ?_ | refine lH S ?_); (first | refine ixB S ?_ | refine ixS2 S rfl rfl ?_); (first | (refine sB S rfl rfl ?_; clear S; intro h S) | (refine sE2 S rfl rfl ?_; clear S; intro h S)); (first | refine ixB S ?_ | refine ixS2 S rfl rfl ?_); (first | (refine sB S rfl rfl ?_; clear S; intro h S) | (refine sE2 S rfl rfl ?_; clear S; intro h S)); refine KO_nil ?_)))
  · simp only [toNat_sum] at S
    refine ⟨(i + 1, swp m (a + i) (b + i)), ?_, ?_, (by repeat (first | exact Ks.le_nil _ | refine Ks.le_cons rfl ?_ | refine Ks.le_int ?_))⟩
    · show n - (i + 1) < n - i; omega
    · exact ⟨S, by omega, h2.step _ _ ⟨by omega, by omega⟩ ⟨by omega, by omega⟩ (by omega), h3.next (by omega) (by omega)⟩
  · obtain rfl : i = n := by omega
    refine ⟨_, rfl, ?_⟩
    exact ⟨m, h2, h3, S⟩

theorem rot_ok {h0 h : AH} {rs : List Rs} {v : Value} {l : List Int} {cv : Value} (a m b : Nat) (S : Hs h0 h (.sl v 3 1 eI l :: rs)) (hab : a < m ∧ m < b) (hb : b ≤ l.length) (hl : l.length ≤ 1000000) :
    Fn Tryz.prog Xh 217 [v, .int .i64 a, .int .i64 m, .int .i64 b, cv] h (fun _ h' => ∃ l', Sw a b l l' ∧ IsRot a m b l l' ∧ Hs h0 h' (.sl v 3 1 eI l' :: rs)) := by
  refine Fn_K rfl Tryz.func217 rfl rfl ?_
  all_goals (repeat' (first | refine K_seq ?_ | refine k_cond rfl ?_ | refine K_skip ?_ | refine K_exit ?_ | refine k_block ?_ | refine K_scope ?_ | (refine K_region (id := 0) ?_; refine mv ?_; refine mv ?_; (first | refine sb ?_ | refine vl ?_); refine mv ?_; refine KO_nil ?_) | (refine K_region (id := 1) ?_; refine mv ?_; refine mv ?_; (first | refine sb ?_ | refine vl ?_); refine mv ?_; refine KO_nil ?_)))
  refine k_loop (σ := Nat × Nat × List Int) (fun (i, j, c) h' => Hs h0 h' (.sl v 3 1 eI c :: rs) ∧ 0 < i ∧ 0 < j ∧ i ≤ m - a ∧ j ≤ b - m ∧ Sw a b l c ∧ RotI a m b i j l c) (fun (i, j, c) => i + j) (fun (i, j, c) => [(0, v), (1, .int .i64 a), (2, .int .i64 m), (3, .int .i64 b), (4, cv), (10, .int .i64 i), (11, .int .i64 j)]) (m - a, b - m, l) (by repeat (first | exact Ks.le_nil _ | refine Ks.le_cons rfl ?_ | refine Ks.le_int ?_)) ?_ ?_
  · exact ⟨S, by omega, by omega, by omega, by omega, .refl _, .start (by omega) (by omega)⟩
  clear S
  rintro ⟨i, j, c⟩ h ⟨S, h1, h2, h3, h4, h5, h6⟩
  have hcl := h5.len
  have e1 : (m : Int) - i = ((m - i : Nat) : Int) := by omega
  all_goals (repeat' (first | refine K_seq ?_ | refine k_cond rfl ?_ | refine K_skip ?_ | refine K_exit ?_ | refine k_block ?_ | refine K_scope ?_ | (refine K_region (id := 2) ?_; refine mv ?_; refine mv ?_; (first | refine cT ?_ | refine cF ?_ | (refine cS ?_ ?_ <;> intro hc)) <;> (refine KO_nil ?_)) | (refine K_region (id := 3) ?_; refine mv ?_; refine mv ?_; (first | refine cT ?_ | refine cF ?_ | (refine cS ?_ ?_ <;> intro hc)) <;> (refine KO_nil ?_)) | (refine K_region (id := 4) ?_; refine mv ?_; refine mv ?_; refine mv ?_; (first | refine sb ?_ | refine vl ?_); refine mv ?_; refine mv ?_; refine mv ?_; skip) | (refine K_region (id := 6) ?_; refine mv ?_; refine mv ?_; refine mv ?_; (first | refine sb ?_ | refine vl ?_); refine mv ?_; refine mv ?_; (first | refine ad ?_ | refine vl ?_); refine mv ?_; (first | refine sb ?_ | refine vl ?_); refine mv ?_; refine mv ?_) | (refine K_region (id := 8) ?_; refine mv ?_; refine mv ?_; refine mv ?_; (first | refine sb ?_ | refine vl ?_); refine mv ?_; refine mv ?_; refine mv ?_; skip)))
  · rw [e1]
    (refine KO_fn rfl rfl rfl rfl rfl ((xch_ok (m - i) m j S (by omega) (by omega) (by omega)).mono ?_); rintro _ h ⟨c2, g1, g2, S2⟩) <;> (replace S := S2; clear S2; refine KO_nil ?_)
    all_goals (repeat' (first | refine K_seq ?_ | refine k_cond rfl ?_ | refine K_skip ?_ | refine K_exit ?_ | refine k_block ?_ | refine K_scope ?_ | (refine K_region (id := 5) ?_; refine mv ?_; refine mv ?_; (first | refine sb ?_ | refine vl ?_); refine mv ?_; refine KO_nil ?_)))
    refine ⟨(i - j, j, c2), ?_, ?_, (by repeat (first | exact Ks.le_nil _ | refine Ks.le_cons rfl ?_ | refine Ks.le_int ?_))⟩
    · show i - j + j < i + j; omega
    · exact ⟨S, by omega, h2, by omega, h4, h5.trans (g1.mono (by omega) (by omega) (by omega)), h6.left (by omega) (by omega) g2⟩
  · have e2 : (m : Int) + j - i = ((m + j - i : Nat) : Int) := by omega
    rw [e1, e2]
    (refine KO_fn rfl rfl rfl rfl rfl ((xch_ok (m - i) (m + j - i) i S (by omega) (by omega) (by omega)).mono ?_); rintro _ h ⟨c2, g1, g2, S2⟩) <;> (replace S := S2; clear S2; refine KO_nil ?_)
    all_goals (repeat' (first | refine K_seq ?_ | refine k_cond rfl ?_ | refine K_skip ?_ | refine K_exit ?_ | refine k_block ?_ | refine K_scope ?_ | (refine K_region (id := 7) ?_; refine mv ?_; refine mv ?_; (first | refine sb ?_ | refine vl ?_); refine mv ?_; refine KO_nil ?_)))
    refine ⟨(i, j - i, c2), ?_, ?_, (by repeat (first | exact Ks.le_nil _ | refine Ks.le_cons rfl ?_ | refine Ks.le_int ?_))⟩
    · show i + (j - i) < i + j; omega
    · exact ⟨S, h1, by omega, h3, by omega, h5.trans (g1.mono (by omega) (by omega) (by omega)), h6.right (by omega) (by omega) g2⟩
  · obtain rfl : i = j := by omega
    rw [e1]
    (refine KO_fn rfl rfl rfl rfl rfl ((xch_ok (m - i) m i S (by omega) (by omega) (by omega)).mono ?_); rintro _ h ⟨c2, g1, g2, S2⟩) <;> (replace S := S2; clear S2; refine KO_nil ?_)
    all_goals (repeat' (first | refine K_seq ?_ | refine k_cond rfl ?_ | refine K_skip ?_ | refine K_exit ?_ | refine k_block ?_ | refine K_scope ?_))
    refine ⟨_, rfl, ?_⟩
    exact ⟨c2, h5.trans (g1.mono (by omega) (by omega) (by omega)), h6.done (by omega) g2, S⟩
end Go.Proofs.Xx

/-
  Words: the length of a number, random words.
-/
namespace Go.Proofs.Xx
open Go Go.Proofs
set_option linter.unusedSimpArgs false
set_option linter.unusedVariables false
set_option maxRecDepth 100000

def lenTab : List UInt8 := [0, 1] ++ List.replicate 2 2 ++ List.replicate 4 3 ++ List.replicate 8 4 ++ List.replicate 16 5 ++ List.replicate 32 6 ++ List.replicate 64 7 ++ List.replicate 128 8
theorem lenTab_ok : ∀ n, n < 64 → 0 < n → (lenTab.getD n 0).toNat ≤ 6 ∧ n < 2 ^ (lenTab.getD n 0).toNat ∧ 2 ^ (lenTab.getD n 0).toNat ≤ 2 * n := by decide +kernel
theorem lenTab_len : lenTab.length = 256 := by decide +kernel
theorem len64_ok {h0 : AH} (w : WfH h0) (n : Nat) (hn : n < 64) : Fn Tryz.prog Xh 189 [.int .u64 n] h0 (fun v h' => v = .int .i64 ((lenTab.getD n 0).toNat : Int) ∧ Hs h0 h' []) := by
  have S := Hs.start w
  have hl := lenTab_len
  have hb : (lenTab.getD n 0).toNat < 256 := UInt8.toNat_lt _
  refine Fn_K rfl Tryz.func189 rfl rfl ?_
  all_goals (repeat' (first | refine K_seq ?_ | refine k_cond rfl ?_ | refine K_skip ?_ | refine K_exit ?_ | refine k_block ?_ | refine K_scope ?_ | (refine K_region (id := 0) ?_; refine mv ?_; refine KO_nil ?_) | (refine K_region (id := 1) ?_; refine mv ?_; (first | refine cT ?_ | refine cF ?_ | (refine cS ?_ ?_ <;> intro hc)) <;> (refine KO_nil ?_)) | (refine K_region (id := 4) ?_; refine mv ?_; (first | refine cT ?_ | refine cF ?_ | (refine cS ?_ ?_ <;> intro hc)) <;> (refine KO_nil ?_)) | (refine K_region (id := 7) ?_; refine mv ?_; (first | refine cT ?_ | refine cF ?_ | (refine cS ?_ ?_ <;> intro hc)) <;> (refine KO_nil ?_))))
  refine K_region (id := 10) ?_
  refine mv ?_; refine mv ?_; refine cU ?_
  refine ti (l := lenTab) ?_
  rw [Int.toNat_natCast]
  (first | refine cI ?_ | refine vl ?_); (first | refine ad ?_ | refine vl ?_); refine mv ?_; refine KO_nil ?_
  all_goals (repeat' (first | refine K_seq ?_ | refine k_cond rfl ?_ | refine K_skip ?_ | refine K_exit ?_ | refine k_block ?_ | refine K_scope ?_ | (refine K_region (id := 0) ?_; refine mv ?_; refine KO_nil ?_) | (refine K_region (id := 1) ?_; refine mv ?_; (first | refine cT ?_ | refine cF ?_ | (refine cS ?_ ?_ <;> intro hc)) <;> (refine KO_nil ?_)) | (refine K_region (id := 2) ?_; refine mv ?_; (first | refine sR1 ?_ | refine sR ?_); refine mv ?_; refine KO_nil ?_) | (refine K_region (id := 3) ?_; refine mv ?_; refine KO_nil ?_) | (refine K_region (id := 4) ?_; refine mv ?_; (first | refine cT ?_ | refine cF ?_ | (refine cS ?_ ?_ <;> intro hc)) <;> (refine KO_nil ?_)) | (refine K_region (id := 5) ?_; refine mv ?_; (first | refine sR1 ?_ | refine sR ?_); refine mv ?_; refine KO_nil ?_) | (refine K_region (id := 6) ?_; refine mv ?_; (first | refine ad ?_ | refine vl ?_); refine mv ?_; refine KO_nil ?_) | (refine K_region (id := 7) ?_; refine mv ?_; (first | refine cT ?_ | refine cF ?_ | (refine cS ?_ ?_ <;> intro hc)) <;> (refine KO_nil ?_)) | (refine K_region (id := 8) ?_; refine mv ?_; (first | refine sR1 ?_ | refine sR ?_); refine mv ?_; refine KO_nil ?_) | (refine K_region (id := 9) ?_; refine mv ?_; (first | refine ad ?_ | refine vl ?_); refine mv ?_; refine KO_nil ?_) | (refine K_region (id := 10) ?_; refine mv ?_; refine mv ?_; (first | refine cU ?_ | refine vl ?_); (first | refine ti ?_ | refine vl ?_); (first | refine cI ?_ | refine vl ?_); (first | refine ad ?_ | refine vl ?_); refine mv ?_; refine KO_nil ?_)))
  refine K_ret ⟨_, rfl, ?_⟩
  exact ⟨by show Value.int .i64 (0 + _) = _; rw [Int.zero_add], S⟩
theorem len_ok {h0 : AH} (w : WfH h0) (n : Nat) (hn : n < 64) : Fn Tryz.prog Xh 141 [.int .u64 n] h0 (fun v h' => v = .int .i64 ((lenTab.getD n 0).toNat : Int) ∧ Hs h0 h' []) := by
  have S := Hs.start w
  refine Fn_K rfl Tryz.func141 rfl rfl ?_
  all_goals (repeat' (first | refine K_seq ?_ | refine k_cond rfl ?_ | refine K_skip ?_ | refine K_exit ?_ | refine k_block ?_ | refine K_scope ?_ | (refine K_region (id := 0) ?_; refine mv ?_; refine KO_nil ?_) | (refine K_region (id := 2) ?_; refine mv ?_)))
  (refine KO_fn rfl rfl rfl rfl rfl ((len64_ok S.wf n hn).mono ?_); rintro _ h ⟨rfl, x⟩) <;> (replace S := S.join0 x; clear x; refine mv ?_; refine KO_nil ?_)
  all_goals (repeat' (first | refine K_seq ?_ | refine k_cond rfl ?_ | refine K_skip ?_ | refine K_exit ?_ | refine k_block ?_ | refine K_scope ?_ | (refine K_region (id := 0) ?_; refine mv ?_; refine KO_nil ?_) | (refine K_region (id := 1) ?_; refine mv ?_) | (refine K_region (id := 2) ?_; refine mv ?_)))
  refine K_ret ⟨_, rfl, ?_⟩
  exact ⟨rfl, S⟩
theorem npot_ok {h0 : AH} (w : WfH h0) (n : Nat) (hn : 0 < n ∧ n < 64) : Fn Tryz.prog Xh 219 [.int .i64 n] h0 (fun v h' => ∃ P : Int, v = .int .u64 P ∧ (n : Int) < P ∧ P ≤ 2 * n ∧ Hs h0 h' []) := by
  have S := Hs.start w
  have hk := lenTab_ok n hn.2 hn.1
  refine Fn_K rfl Tryz.func219 rfl rfl ?_
  all_goals (repeat' (first | refine K_seq ?_ | refine k_cond rfl ?_ | refine K_skip ?_ | refine K_exit ?_ | refine k_block ?_ | refine K_scope ?_ | (refine K_region (id := 0) ?_; refine mv ?_; refine KO_nil ?_) | (refine K_region (id := 1) ?_; refine mv ?_; (first | refine cW ?_ | refine vl ?_))))
  (refine KO_fn rfl rfl rfl rfl rfl ((len_ok S.wf n hn.2).mono ?_); rintro _ h ⟨rfl, x⟩) <;> (replace S := S.join0 x; clear x; (first | refine sL ?_ | (refine aW ?_; intro r1 hr1 hr2)); refine mv ?_; refine KO_nil ?_)
  all_goals (repeat' (first | refine K_seq ?_ | refine k_cond rfl ?_ | refine K_skip ?_ | refine K_exit ?_ | refine k_block ?_ | refine K_scope ?_))
  refine K_ret ⟨_, rfl, ?_⟩
  refine ⟨_, rfl, ?_, ?_, S⟩
  · have : (n : Int) < ((2 ^ (lenTab.getD n 0).toNat : Nat) : Int) := by exact_mod_cast hk.2.1
    simpa using this
  · have : ((2 ^ (lenTab.getD n 0).toNat : Nat) : Int) ≤ ((2 * n : Nat) : Int) := by exact_mod_cast hk.2.2
    simpa using this
theorem xnext_ok {h0 h : AH} {rs : List Rs} {bs : Nat} {z : Int} (S : Hs h0 h (.blk bs [.int .u64 z] 188 :: rs)) (hz : 0 ≤ z ∧ z ≤ 18446744073709551615) : Fn Tryz.prog Xh 220 [.pointer (some ⟨bs, 0, none⟩)] h (fun r h' => ∃ y, r = .int .u64 y ∧ (0 ≤ y ∧ y ≤ 18446744073709551615) ∧ Hs h0 h' (.blk bs [.int .u64 y] 188 :: rs)) := by
  refine Fn_K rfl Tryz.func220 rfl rfl ?_
  all_goals (repeat' (first | refine K_seq ?_ | refine k_cond rfl ?_ | refine K_skip ?_ | refine K_exit ?_ | refine k_block ?_ | refine K_scope ?_ | (refine K_region (id := 0) ?_; refine mv ?_; refine KO_nil ?_) | (refine K_draw (id := 1) ?_; refine mv ?_; refine vl ?_; (first | refine lB S rfl rfl ?_ | refine lES2 S rfl rfl ?_ | refine lEB S ?_ | refine lH S ?_); refine mv ?_; refine vl ?_; (first | refine lB S rfl rfl ?_ | refine lES2 S rfl rfl ?_ | refine lEB S ?_ | refine lH S ?_); (first | refine sL ?_ | (refine aW ?_; intro r1 hr1 hr2)); (first | refine sL ?_ | (refine aW ?_; intro r1 hr1 hr2)); refine vl ?_; (first | (refine sB S rfl rfl ?_; clear S; intro h S) | (refine sE2 S rfl rfl ?_; clear S; intro h S)); refine KO_nil ?_) | (refine K_draw (id := 2) ?_; refine mv ?_; refine vl ?_; (first | refine lB S rfl rfl ?_ | refine lES2 S rfl rfl ?_ | refine lEB S ?_ | refine lH S ?_); refine mv ?_; refine vl ?_; (first | refine lB S rfl rfl ?_ | refine lES2 S rfl rfl ?_ | refine lEB S ?_ | refine lH S ?_); (first | refine sR1 ?_ | refine sR ?_); (first | refine sL ?_ | (refine aW ?_; intro r1 hr1 hr2)); refine vl ?_; (first | (refine sB S rfl rfl ?_; clear S; intro h S) | (refine sE2 S rfl rfl ?_; clear S; intro h S)); refine KO_nil ?_) | (refine K_draw (id := 3) ?_; refine mv ?_; refine vl ?_; (first | refine lB S rfl rfl ?_ | refine lES2 S rfl rfl ?_ | refine lEB S ?_ | refine lH S ?_); refine mv ?_; refine vl ?_; (first | refine lB S rfl rfl ?_ | refine lES2 S rfl rfl ?_ | refine lEB S ?_ | refine lH S ?_); (first | refine sL ?_ | (refine aW ?_; intro r1 hr1 hr2)); (first | refine sL ?_ | (refine aW ?_; intro r1 hr1 hr2)); refine vl ?_; (first | (refine sB S rfl rfl ?_; clear S; intro h S) | (refine sE2 S rfl rfl ?_; clear S; intro h S)); refine KO_nil ?_) | (refine K_region (id := 4) ?_; refine mv ?_; refine vl ?_; (first | refine lB S rfl rfl ?_ | refine lES2 S rfl rfl ?_ | refine lEB S ?_ | refine lH S ?_); refine mv ?_; refine KO_nil ?_)))
  refine K_ret ⟨_, rfl, ?_⟩
  exact ⟨_, rfl, by omega, S⟩
end Go.Proofs.Xx

/-
  Parting a range by an element.
-/
namespace Go.Proofs.Xx
set_option linter.unusedVariables false
section
variable {α : Type} [Inhabited α] {lt : α → α → Prop}
/-- Heaps do not see what is outside. -/
theorem Heap.pop {f i : Nat} {l : List α} (h : Heap lt f 0 (i + 1) l) (hl : f + i < l.length) : Heap lt f 1 i (swp l f (f + i)) := by
  intro k hk
  have g := swp_get (l := l) (i := f) (j := f + i) (by omega) (by omega)
  have hh := h k (Nat.zero_le _)
  refine ⟨fun q => ?_, fun q => ?_⟩
  · rw [g, g, if_neg (by omega), if_neg (by omega), if_neg (by omega), if_neg (by omega)]; exact hh.1 (by omega)
  · rw [g, g, if_neg (by omega), if_neg (by omega), if_neg (by omega), if_neg (by omega)]; exact hh.2 (by omega)
theorem HeapI.done {f n b : Nat} {l : List α} (h : HeapI lt f 0 n l) (hb : b = f + n) : Srt lt f b l := fun i j h1 h2 h3 => by
  have := h.2 (i - f) (j - f) (by omega) (Nat.zero_le _) (by omega)
  rwa [show f + (j - f) = j by omega, show f + (i - f) = i by omega] at this

/-- [a, b), x at its front, is being parted: before i less than x, behind j not less. -/
structure PartI (lt : α → α → Prop) (a b : Nat) (x : α) (i j : Nat) (m : List α) : Prop where
  bi : a < i ∧ i ≤ j + 1 ∧ j < b
  lo : ∀ k, a < k → k < i → lt (m.getD k default) x
  hi : ∀ k, j < k → k < b → ¬ lt (m.getD k default) x
  x : m.getD a default = x
theorem PartI.swap {a b : Nat} {x : α} {i j : Nat} {m : List α} (h : PartI lt a b x i j m) (hb : b ≤ m.length) (hij : i ≤ j) (h1 : ¬ lt (m.getD i default) x) (h2 : lt (m.getD j default) x) : i < j ∧ PartI lt a b x (i + 1) (j - 1) (swp m i j) := by
  have hbi := h.bi
  have hne : i ≠ j := fun q => by subst q; exact h1 h2
  have g := swp_get (l := m) (i := i) (j := j) (by omega) (by omega)
  refine ⟨by omega, ⟨by omega, fun k q1 q2 => ?_, fun k q1 q2 => ?_, ?_⟩⟩
  · rw [g, if_neg (by omega)]
    split
    · exact h2
    · exact h.lo k q1 (by omega)
  · rw [g]
    split
    · exact h1
    · rw [if_neg (by omega)]; exact h.hi k (by omega) q2
  · rw [g, if_neg (by omega), if_neg (by omega)]; exact h.x
theorem PartI.done (W : WOrd lt) {a b : Nat} {x : α} {i j : Nat} {m : List α} (h : PartI lt a b x i j m) (hb : b ≤ m.length) (hij : j < i) : Parted lt a b j (swp m j a) := by
  have hbi := h.bi
  have g := swp_get (l := m) (i := j) (j := a) (by omega) (by omega)
  have gj : (swp m j a).getD j default = x := by
    rw [g]
    split
    · rename_i e; rw [e]; exact h.x
    · rw [if_pos rfl]; exact h.x
  refine ⟨fun k q1 q2 => ?_, fun k q1 q2 => ?_⟩
  · rw [gj, g]
    split
    · exact h.lo j (by omega) (by omega)
    · rw [if_neg (by omega)]; exact h.lo k (by omega) (by omega)
  · rw [gj, g, if_neg (by omega), if_neg (by omega)]; exact h.hi k q1 q2
/-- [a, b), x at its front, is being parted: before i not greater than x, behind j greater. -/
structure EqI (lt : α → α → Prop) (a b : Nat) (x : α) (i j : Nat) (m : List α) : Prop where
  bi : a < i ∧ i ≤ j + 1 ∧ j < b
  lo : ∀ k, a < k → k < i → ¬ lt x (m.getD k default)
  hi : ∀ k, j < k → k < b → lt x (m.getD k default)
  x : m.getD a default = x
theorem EqI.swap {a b : Nat} {x : α} {i j : Nat} {m : List α} (h : EqI lt a b x i j m) (hb : b ≤ m.length) (hij : i ≤ j) (h1 : lt x (m.getD i default)) (h2 : ¬ lt x (m.getD j default)) : i < j ∧ EqI lt a b x (i + 1) (j - 1) (swp m i j) := by
  have hbi := h.bi
  have hne : i ≠ j := fun q => by subst q; exact h2 h1
  have g := swp_get (l := m) (i := i) (j := j) (by omega) (by omega)
  refine ⟨by omega, ⟨by omega, fun k q1 q2 => ?_, fun k q1 q2 => ?_, ?_⟩⟩
  · rw [g, if_neg (by omega)]
    split
    · exact h2
    · exact h.lo k q1 (by omega)
  · rw [g]
    split
    · exact h1
    · rw [if_neg (by omega)]; exact h.hi k (by omega) q2
  · rw [g, if_neg (by omega), if_neg (by omega)]; exact h.x
/-- A step of quicksort's loop, all elements before a' and behind b' in order. -/
theorem DoneI.low {a b a' b' : Nat} {l : List α} (h : DoneI lt a b a' b' l) (h1 : a < a') (h2 : b' ≤ b) : ∀ k, a' ≤ k → k < b' → ¬ lt (l.getD k default) (l.getD (a' - 1) default) := fun k q1 q2 => h (a' - 1) k (by omega) (by omega) (by omega) (.inl (by omega))
end
end Go.Proofs.Xx
