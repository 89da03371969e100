/-
  The orders of a region: what the masks say, and the orders of a chain.
-/
import Derived.Test.YtnopenpheaihmaaGreatDoorA16
namespace Go.Proofs.Xx
open Go
set_option linter.unusedSimpArgs false
set_option linter.unusedVariables false

/-- The indexes p, listed in this order, each after the ones it waits for. -/
def Valid (ops : Array Oper) (p : List Nat) : Prop := ∀ a j b, p = a ++ j :: b → j ∉ a ∧ ∃ o, ops[j]? = some o ∧ ∀ e ∈ o.after, Region.binds .any e = true → e.on ∈ a

theorem Valid.nil (ops : Array Oper) : Valid ops [] := fun a j b h => by cases a <;> cases h
theorem Valid.snoc {ops : Array Oper} {p : List Nat} (v : Valid ops p) {j : Nat} {o : Oper} (hj : j ∉ p) (ho : ops[j]? = some o) (he : ∀ e ∈ o.after, Region.binds .any e = true → e.on ∈ p) : Valid ops (p ++ [j]) := by
  intro a i b h
  rcases List.eq_nil_or_concat b with hb | ⟨b', x, hb⟩
  · subst hb
    have := List.append_inj' h rfl
    obtain ⟨h1, h2⟩ := this
    cases h2
    subst h1
    exact ⟨hj, o, ho, he⟩
  · subst hb
    have h' : p ++ [j] = (a ++ i :: b') ++ [x] := by rw [h]; simp
    have := List.append_inj' h' rfl
    exact v a i b' this.1
theorem Valid.left {ops : Array Oper} {p q : List Nat} (v : Valid ops (p ++ q)) : Valid ops p := fun a j b h => v a j (b ++ q) (by rw [h]; simp)
theorem Valid.nodup {ops : Array Oper} : ∀ (n : Nat) (p : List Nat), p.length = n → Valid ops p → p.Nodup := by
  intro n
  induction n with
  | zero => intro p h _; have := List.length_eq_zero_iff.1 h; subst this; exact .nil
  | succ n ih =>
    intro p h v
    rcases List.eq_nil_or_concat p with hp | ⟨q, x, hp⟩
    · subst hp; exact .nil
    · rw [List.concat_eq_append] at hp
      subst hp
      have h1 := ih q (by simp at h; exact h) v.left
      have h2 := (v q x [] rfl).1
      rw [List.nodup_append]
      refine ⟨h1, by simp, fun y hy z hz q => ?_⟩
      simp at hz
      subst hz; subst q
      exact h2 hy
theorem Valid.lt {ops : Array Oper} {p : List Nat} (v : Valid ops p) {j : Nat} (h : j ∈ p) : j < ops.size := by
  obtain ⟨a, b, rfl⟩ := List.append_of_mem h
  obtain ⟨-, o, ho, -⟩ := v a j b rfl
  exact (Array.getElem?_eq_some_iff.1 ho).1

/-! ### masks -/
theorem edgeMask_test (ms : List Nat) : ∀ (es : List Edge) (m k : Nat), (es.foldl (edgeMask ms) m).testBit k = true → m.testBit k = true ∨ ∃ e ∈ es, Region.binds .any e = true ∧ (k = e.on ∨ prec ms k e.on = true)
  | [], m, k, h => .inl h
  | e :: r, m, k, h => by
    rw [List.foldl_cons] at h
    rcases edgeMask_test ms r _ k h with h | ⟨e', h1, h2⟩
    · unfold edgeMask at h
      split at h
      · rename_i hb
        rw [Nat.testBit_or, Nat.testBit_or, Bool.or_eq_true, Bool.or_eq_true] at h
        rcases h with h | h | h
        · exact .inl h
        · refine .inr ⟨e, by simp, hb, .inl ?_⟩
          rw [Nat.one_shiftLeft, Nat.testBit_two_pow] at h
          simpa using (show e.on = k by simpa using h).symm
        · refine .inr ⟨e, by simp, hb, .inr ?_⟩
          unfold prec
          cases hm : ms[e.on]? with
          | none => rw [hm] at h; simp at h
          | some m' => rw [hm] at h; simpa using h
      · exact .inl h
    · exact .inr ⟨e', by simp [h1], h2⟩

theorem masks_length : ∀ (os : List Oper) (ms : List Nat), (masks os ms).length = ms.length + os.length
  | [], ms => by simp [masks]
  | o :: r, ms => by simp only [masks, masks_length r, List.length_append, List.length_cons, List.length_nil]; omega
theorem masks_old : ∀ (os : List Oper) (ms : List Nat) (i : Nat), i < ms.length → (masks os ms)[i]? = ms[i]?
  | [], ms, i, h => rfl
  | o :: r, ms, i, h => by
    simp only [masks]
    rw [masks_old r _ i (by simp; omega), List.getElem?_append_left h]
theorem masks_get : ∀ (os : List Oper) (ms : List Nat) (i : Nat) (o : Oper), os[i]? = some o → ∃ ms', ms'.length = ms.length + i ∧ (∀ k, k < ms'.length → ms'[k]? = (masks os ms)[k]?) ∧ (masks os ms)[ms.length + i]? = some (maskOf ms' o)
  | [], ms, i, o, h => by simp at h
  | o :: r, ms, i, o', h => by
    cases i with
    | zero =>
      simp at h; subst h
      refine ⟨ms, rfl, fun k hk => (masks_old (o :: r) ms k hk).symm, ?_⟩
      simp only [masks]
      rw [masks_old r _ _ (by simp)]
      simp
    | succ i =>
      simp at h
      obtain ⟨ms', h1, h2, h3⟩ := masks_get r (ms ++ [maskOf ms o]) i o' h
      refine ⟨ms', by rw [h1]; simp; omega, fun k hk => by simp only [masks]; exact h2 k hk, ?_⟩
      simp only [masks]
      rw [← h3]
      congr 1
      simp; omega

theorem prec_before {ops : Array Oper} : ∀ (j : Nat) (p a b : List Nat) (k : Nat), Valid ops p → p = a ++ j :: b → prec (masks ops.toList []) k j = true → k ∈ a := by
  intro j
  induction j using Nat.strongRecOn with
  | _ j ih =>
    intro p a b k v hp h
    obtain ⟨-, o, ho, he⟩ := v a j b hp
    have ho' : ops.toList[j]? = some o := by rw [Array.getElem?_toList]; exact ho
    obtain ⟨ms', h1, h2, h3⟩ := masks_get ops.toList [] j o ho'
    simp only [List.length_nil, Nat.zero_add] at h1 h3
    unfold prec at h
    rw [h3] at h
    simp only at h
    rcases edgeMask_test ms' _ 0 k h with h | ⟨e, q1, q2, q3⟩
    · simp at h
    · have hea := he e (by simpa using q1) q2
      rcases q3 with q3 | q3
      · rw [q3]; exact hea
      · unfold prec at q3
        cases hm : ms'[e.on]? with
        | none => rw [hm] at q3; cases q3
        | some m' =>
          have hlt : e.on < j := by
            have := (List.getElem?_eq_some_iff.1 hm).1
            omega
          obtain ⟨a1, a2, ha⟩ := List.append_of_mem hea
          have hk := ih e.on hlt p a1 (a2 ++ j :: b) k v (by rw [hp, ha]; simp) (by
            unfold prec
            rw [← h2 e.on (by omega), hm]
            rw [hm] at q3
            exact q3)
          rw [ha]; simp [hk]

/-! ### chains -/
theorem sorted_ext : ∀ {p q : List Nat}, p.Pairwise (· < ·) → q.Pairwise (· < ·) → (∀ x, x ∈ p ↔ x ∈ q) → p = q
  | [], [], _, _, _ => rfl
  | [], y :: q, _, _, h => by have := (h y).2 (by simp); simp at this
  | x :: p, [], _, _, h => by have := (h x).1 (by simp); simp at this
  | x :: p, y :: q, hp, hq, h => by
    rw [List.pairwise_cons] at hp hq
    have hxy : x = y := by
      have h1 := (h x).1 (by simp)
      have h2 := (h y).2 (by simp)
      rw [List.mem_cons] at h1 h2
      rcases h1 with h1 | h1
      · exact h1
      · rcases h2 with h2 | h2
        · exact h2.symm
        · have := hq.1 x h1; have := hp.1 y h2; omega
    subst hxy
    congr 1
    refine sorted_ext hp.2 hq.2 fun z => ⟨fun hz => ?_, fun hz => ?_⟩
    · have := (h z).1 (by simp [hz])
      rw [List.mem_cons] at this
      rcases this with q | q
      · subst q; have := hp.1 z hz; omega
      · exact q
    · have := (h z).2 (by simp [hz])
      rw [List.mem_cons] at this
      rcases this with q | q
      · subst q; have := hq.1 z hz; omega
      · exact q

theorem sorted_take : ∀ {ms q : List Nat}, ms.Pairwise (· < ·) → q.Pairwise (· < ·) → (∀ x ∈ q, x ∈ ms) → (∀ x ∈ q, ∀ y ∈ ms, y < x → y ∈ q) → q = ms.take q.length
  | ms, [], _, _, _, _ => by simp
  | [], y :: q, _, _, h, _ => by have := h y (by simp); simp at this
  | x :: ms, y :: q, hm, hq, h, hd => by
    rw [List.pairwise_cons] at hm hq
    have hxy : x = y := by
      have h1 := h y (by simp)
      rw [List.mem_cons] at h1
      rcases h1 with h1 | h1
      · exact h1.symm
      · have h2 := hm.1 y h1
        have h3 := hd y (by simp) x (by simp) h2
        rw [List.mem_cons] at h3
        rcases h3 with h3 | h3
        · exact h3
        · have := hq.1 x h3; omega
    subst hxy
    rw [List.length_cons, List.take_succ_cons]
    congr 1
    refine sorted_take hm.2 hq.2 (fun z hz => ?_) fun z hz y hy hlt => ?_
    · have := h z (by simp [hz])
      rw [List.mem_cons] at this
      rcases this with q | q
      · subst q; have := hq.1 z hz; omega
      · exact q
    · have := hd z (by simp [hz]) y (by simp [hy]) hlt
      rw [List.mem_cons] at this
      rcases this with q | q
      · subst q; have := hm.1 y hy; omega
      · exact q

theorem range_sorted (n : Nat) (C : Nat → Bool) : ((List.range n).filter C).Pairwise (· < ·) := List.Pairwise.filter _ List.pairwise_lt_range

/-- A set of operations whose order is fixed. -/
def Chain (ops : Array Oper) (C : Nat → Bool) : Prop := ∀ k i, k < i → i < ops.size → C k = true → C i = true → prec (masks ops.toList []) k i = true

theorem Chain.sorted {ops : Array Oper} {C : Nat → Bool} (c : Chain ops C) {p : List Nat} (v : Valid ops p) : (p.filter C).Pairwise (· < ·) := by
  have hn := Valid.nodup _ p rfl v
  rw [List.pairwise_filter]
  rw [List.pairwise_iff_forall_sublist]
  intro x y hs hx hy
  have hxm : x ∈ p := hs.subset (by simp)
  have hym : y ∈ p := hs.subset (by simp)
  have hne : x ≠ y := by
    have := hn.sublist hs
    simp at this; exact this
  rcases Nat.lt_or_ge x y with h | h
  · exact h
  · exfalso
    have hlt : y < x := by omega
    have hp := c y x hlt (v.lt hxm) hy hx
    obtain ⟨a, b, hab⟩ := List.append_of_mem hxm
    have hya := prec_before x p a b y v hab hp
    -- y stands before x, and x before y
    rw [hab] at hs hn
    have h2 : [y].Sublist b := by
      have hxa : x ∉ a := (v a x b hab).1
      have := hs
      rw [List.sublist_append_iff] at this
      obtain ⟨l1, l2, e1, e2, e3⟩ := this
      cases l1 with
      | nil =>
        simp at e1
        subst e1
        cases e3 with
        | cons _ h => exact (List.sublist_cons_self x [y]).trans h |>.trans (List.Sublist.refl _)
        | cons_cons _ h => exact h
      | cons z l1 =>
        simp at e1
        exact absurd (e2.subset (by simp [e1.1])) hxa
    have hyb : y ∈ b := h2.subset (by simp)
    rw [List.nodup_append] at hn
    exact hn.2.2 y hya y (by simp [hyb]) rfl

theorem Chain.at_own {ops : Array Oper} {C : Nat → Bool} {p a b : List Nat} {j : Nat} (v : Valid ops p) (hp : p = a ++ j :: b) (c : Chain ops C)
    (h1 : ∀ k, k < j → C k = true → prec (masks ops.toList []) k j = true) (h2 : ∀ k, j < k → k < ops.size → C k = true → prec (masks ops.toList []) j k = true) : a.filter C = (List.range j).filter C := by
  subst hp
  refine sorted_ext (c.sorted v.left) (range_sorted _ _) fun x => ?_
  simp only [List.mem_filter, List.mem_range]
  constructor
  · rintro ⟨hx, hc⟩
    refine ⟨?_, hc⟩
    have hne : j ∉ a := (v a j b rfl).1
    rcases Nat.lt_trichotomy x j with q | q | q
    · exact q
    · subst q; exact absurd hx hne
    · exfalso
      have hp := h2 x q (v.lt (by simp [hx])) hc
      obtain ⟨a1, a2, ha⟩ := List.append_of_mem hx
      have := prec_before x _ a1 (a2 ++ j :: b) j v (by rw [ha]; simp) hp
      exact hne (by rw [ha]; simp [this])
  · rintro ⟨hx, hc⟩
    exact ⟨prec_before j _ a b x v rfl (h1 x hx hc), hc⟩

theorem Chain.take {ops : Array Oper} {C : Nat → Bool} {p : List Nat} (v : Valid ops p) (c : Chain ops C) : p.filter C = ((List.range ops.size).filter C).take (p.filter C).length := by
  refine sorted_take (range_sorted _ _) (c.sorted v) (fun x hx => ?_) fun x hx y hy hlt => ?_
  · rw [List.mem_filter] at hx ⊢
    exact ⟨List.mem_range.2 (v.lt hx.1), hx.2⟩
  · rw [List.mem_filter] at hx hy ⊢
    refine ⟨?_, hy.2⟩
    have hp := c y x hlt (v.lt hx.1) hy.2 hx.2
    obtain ⟨a1, a2, ha⟩ := List.append_of_mem hx.1
    have := prec_before x p a1 a2 y v ha hp
    rw [ha]; simp [this]

theorem nodup_le : ∀ (n : Nat) (p : List Nat), p.Nodup → (∀ x ∈ p, x < n) → p.length ≤ n
  | 0, [], _, _ => Nat.le_refl _
  | 0, x :: _, _, h => by have := h x (by simp); omega
  | n + 1, p, hn, h => by
    have h1 := nodup_le n (p.erase n) (hn.erase n) fun x hx => by
      rw [hn.mem_erase_iff] at hx
      have := h x hx.2; omega
    by_cases hm : n ∈ p
    · rw [List.length_erase_of_mem hm] at h1; omega
    · rw [List.erase_of_not_mem hm] at h1; omega
theorem nodup_full {n : Nat} {p : List Nat} (hn : p.Nodup) (h : ∀ x ∈ p, x < n) (hl : p.length = n) {x : Nat} (hx : x < n) : x ∈ p := by
  by_cases hm : x ∈ p
  · exact hm
  · have := nodup_le n (x :: p) (List.nodup_cons.2 ⟨hm, hn⟩) fun y hy => by
      rw [List.mem_cons] at hy
      rcases hy with rfl | hy
      · exact hx
      · exact h y hy
    simp at this; omega

theorem Chain.full {ops : Array Oper} {C : Nat → Bool} {p : List Nat} (v : Valid ops p) (c : Chain ops C) (hl : p.length = ops.size) : p.filter C = (List.range ops.size).filter C := by
  refine sorted_ext (c.sorted v) (range_sorted _ _) fun x => ?_
  simp only [List.mem_filter, List.mem_range]
  constructor
  · rintro ⟨hx, hc⟩; exact ⟨v.lt hx, hc⟩
  · rintro ⟨hx, hc⟩
    refine ⟨?_, hc⟩
    have hn := Valid.nodup _ p rfl v
    exact nodup_full hn (fun y hy => v.lt hy) hl hx
end Go.Proofs.Xx
