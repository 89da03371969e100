/-
  Chains: the search, plain part.
-/
import Derived.Test.YtidmdnenlgjpeaaGreatDoorM12
import Derived.Test.YtidmdnenlgjpeaaGreatDoorM10

namespace Go.Proofs.Xx
open Go Go.Proofs
set_option linter.unusedSimpArgs false
set_option linter.unusedVariables false
set_option linter.unusedSectionVars false

/-- A chain from x. -/
inductive Pth (r : Rl) (x : List UInt8) : List (List UInt8) → List UInt8 → Prop
  | one : Pth r x [x] x
  | snoc {Q : List (List UInt8)} {w z : List UInt8} (h : Pth r x Q w) (a : spk r w z) : Pth r x (Q ++ [z]) z
theorem Pth.pos {r : Rl} {x y : List UInt8} {Q : List (List UInt8)} (h : Pth r x Q y) : 0 < Q.length := by
  cases h <;> simp
theorem Pth.cons {r : Rl} {z x y : List UInt8} {Q : List (List UInt8)} (a : spk r z x) (h : Pth r x Q y) : Pth r z (z :: Q) y := by
  induction h with
  | one => exact Pth.snoc (.one) a
  | snoc h b ih => exact Pth.snoc ih b
theorem Pth.rev {r : Rl} {x y : List UInt8} {Q : List (List UInt8)} (h : Pth r x Q y) : Pth r y Q.reverse x := by
  induction h with
  | one => exact .one
  | snoc h b ih =>
    rw [List.reverse_append]
    exact ih.cons b.symm
theorem Pth.head {r : Rl} {x y : List UInt8} {Q : List (List UInt8)} (h : Pth r x Q y) : Q.getD 0 default = x := by
  induction h with
  | one => rfl
  | snoc h b ih => rw [gA1 h.pos]; exact ih
theorem Pth.last {r : Rl} {x y : List UInt8} {Q : List (List UInt8)} (h : Pth r x Q y) : Q.getD (Q.length - 1) default = y := by
  cases h with
  | one => rfl
  | snoc h b => rw [List.length_append, List.length_singleton, Nat.add_sub_cancel, gA2 (Nat.le_refl _), Nat.sub_self]; rfl
theorem Pth.adj {r : Rl} {x y : List UInt8} {Q : List (List UInt8)} (h : Pth r x Q y) : ∀ i, i + 1 < Q.length → spk r (Q.getD i default) (Q.getD (i + 1) default) := by
  induction h with
  | one => intro i hi; simp at hi
  | snoc h b ih =>
    rename_i Q w z
    intro i hi
    rw [List.length_append, List.length_singleton] at hi
    rcases Nat.lt_or_ge (i + 1) Q.length with q | q
    · rw [gA1 (by omega), gA1 q]; exact ih i q
    · have e : i = Q.length - 1 := by omega
      have hp := h.pos
      rw [gA1 (by omega), gA2 q, e, h.last, show Q.length - 1 + 1 - Q.length = 0 by omega]
      exact b
/-- Before in the order of words, place by place. -/
def lxl (P Q : List (List UInt8)) : Prop := ∃ k, k < P.length ∧ k < Q.length ∧ (∀ j, j < k → P.getD j default = Q.getD j default) ∧ sLt (P.getD k default) (Q.getD k default)
theorem lxl.snoc {P Q : List (List UInt8)} {a b : List UInt8} (h : lxl P Q) : lxl (P ++ [a]) (Q ++ [b]) := by
  obtain ⟨k, h1, h2, h3, h4⟩ := h
  refine ⟨k, by simp; omega, by simp; omega, fun j hj => ?_, ?_⟩
  · rw [gA1 (by omega), gA1 (by omega)]; exact h3 j hj
  · rw [gA1 h1, gA1 h2]; exact h4
theorem lxl.last {P : List (List UInt8)} {a b : List UInt8} (h : sLt a b) : lxl (P ++ [a]) (P ++ [b]) := by
  refine ⟨P.length, by simp, by simp, fun j hj => ?_, ?_⟩
  · rw [gA1 hj, gA1 hj]
  · rw [gA2 (Nat.le_refl _), gA2 (Nat.le_refl _), Nat.sub_self]; exact h
theorem lxl.trans {P Q R : List (List UInt8)} (h : lxl P Q) (g : lxl Q R) : lxl P R := by
  obtain ⟨k, h1, h2, h3, h4⟩ := h
  obtain ⟨m, g1, g2, g3, g4⟩ := g
  rcases Nat.lt_trichotomy k m with q | q | q
  · exact ⟨k, h1, by omega, fun j hj => (h3 j hj).trans (g3 j (by omega)), by rw [← g3 k q]; exact h4⟩
  · subst q
    exact ⟨k, h1, g2, fun j hj => (h3 j hj).trans (g3 j hj), sLt_trans h4 g4⟩
  · exact ⟨m, by omega, g2, fun j hj => (h3 j (by omega)).trans (g3 j hj), by rw [h3 m q]; exact g4⟩
def lxe (P Q : List (List UInt8)) : Prop := P = Q ∨ lxl P Q
theorem lxe.trans {P Q R : List (List UInt8)} (h : lxe P Q) (g : lxe Q R) : lxe P R := by
  rcases h with rfl | h
  · exact g
  · rcases g with rfl | g
    · exact .inr h
    · exact .inr (h.trans g)
theorem lxe.snoc {P Q : List (List UInt8)} {a : List UInt8} (h : lxe P Q) : lxe (P ++ [a]) (Q ++ [a]) := by
  rcases h with rfl | h
  · exact .inl rfl
  · exact .inr h.snoc
/-- The least of the shortest chains. -/
structure ChainOk (r : Rl) (x y : List UInt8) (P : List (List UInt8)) : Prop where
  pth : Pth r x P y
  sh : ∀ Q, Pth r x Q y → P.length ≤ Q.length
  lx : ∀ Q, Pth r x Q y → P.length = Q.length → lxe P Q
abbrev NMap := List (List UInt8 × List UInt8)
def nmA (mp : NMap) (j : Nat) : List UInt8 := (mp.getD j default).1
/-- The way to the j-th one that is met. -/
def tpth (mp : NMap) (pa : Nat → Nat) (j : Nat) : List (List UInt8) := if h : 0 < j ∧ pa j < j then tpth mp pa (pa j) ++ [nmA mp j] else [nmA mp j]
termination_by j
decreasing_by exact h.2
structure BC (r : Rl) (x : List UInt8) (mp : NMap) (pa : Nat → Nat) : Prop where
  pos : 0 < mp.length
  d0 : nmA mp 0 = x
  f0 : (mp.getD 0 default).2 = []
  kn : ∀ j, j < mp.length → gat r.us (nmA mp j) ≠ none
  nd : (mp.map (·.1)).Nodup
  lt : ∀ j, 0 < j → j < mp.length → pa j < j
  fr : ∀ j, 0 < j → j < mp.length → (mp.getD j default).2 = nmA mp (pa j) ∧ spk r (nmA mp (pa j)) (nmA mp j)
  mo : ∀ j k, 0 < j → j ≤ k → k < mp.length → pa j ≤ pa k
  od : ∀ j k, 0 < j → j < k → k < mp.length → pa j = pa k → sLt (nmA mp j) (nmA mp k)
theorem BC.step {r : Rl} {x : List UInt8} {mp : NMap} {pa : Nat → Nat} (B : BC r x mp pa) {j : Nat} (h0 : 0 < j) (hj : j < mp.length) : tpth mp pa j = tpth mp pa (pa j) ++ [nmA mp j] := by
  rw [tpth, dif_pos ⟨h0, B.lt j h0 hj⟩]
theorem tpth0 (mp : NMap) (pa : Nat → Nat) : tpth mp pa 0 = [nmA mp 0] := by
  rw [tpth, dif_neg (by omega)]
theorem tpth_pos (mp : NMap) (pa : Nat → Nat) (j : Nat) : 0 < (tpth mp pa j).length := by
  rw [tpth]; split <;> simp
theorem tpth_len (mp : NMap) (pa : Nat → Nat) (j : Nat) : (tpth mp pa j).length ≤ j + 1 := by
  induction j using Nat.strongRecOn with
  | _ j ih =>
    rw [tpth]
    split
    · rename_i h
      have := ih _ h.2
      simp; omega
    · simp
theorem BC.pth {r : Rl} {x : List UInt8} {mp : NMap} {pa : Nat → Nat} (B : BC r x mp pa) (j : Nat) (hj : j < mp.length) : Pth r x (tpth mp pa j) (nmA mp j) := by
  induction j using Nat.strongRecOn with
  | _ j ih =>
    rcases Nat.eq_zero_or_pos j with q | q
    · subst q
      rw [tpth0, B.d0]; exact .one
    · rw [B.step q hj]
      have := B.lt j q hj
      exact (ih _ this (by omega)).snoc (B.fr j q hj).2
theorem BC.mono {r : Rl} {x : List UInt8} {mp : NMap} {pa : Nat → Nat} (B : BC r x mp pa) (k : Nat) (hk : k < mp.length) : ∀ j, j ≤ k → (tpth mp pa j).length ≤ (tpth mp pa k).length ∧ ((tpth mp pa j).length = (tpth mp pa k).length → lxe (tpth mp pa j) (tpth mp pa k)) := by
  induction k using Nat.strongRecOn with
  | _ k ih =>
    intro j hj
    rcases Nat.eq_or_lt_of_le hj with q | q
    · subst q; exact ⟨Nat.le_refl _, fun _ => .inl rfl⟩
    · rw [B.step (by omega) hk]
      rcases Nat.eq_zero_or_pos j with z | z
      · subst z
        have := tpth_pos mp pa (pa k)
        rw [tpth0]
        simp
        intro h; rw [h] at this; exact absurd this (by simp)
      · rw [B.step z (by omega)]
        have hl := B.lt k (by omega) hk
        have hm := B.mo j k z hj hk
        obtain ⟨h1, h2⟩ := ih (pa k) hl (by omega) (pa j) hm
        refine ⟨by simp; exact h1, fun e => ?_⟩
        simp only [List.length_append, List.length_singleton] at e
        rcases Nat.eq_or_lt_of_le hm with w | w
        · rw [w]
          exact .inr (.last (B.od j k z q hk w))
        · rcases h2 (by omega) with g | g
          · exfalso
            have g1 := (B.pth (pa j) (by omega)).last
            have g2 := (B.pth (pa k) (by omega)).last
            rw [g, g2] at g1
            refine nodup_ne B.nd w (by simp; omega) ?_
            rw [map_getD (by omega), map_getD (by omega)]
            exact g1.symm
          · exact .inr g.snoc
/-- All of the first h are gone through. -/
structure BI (r : Rl) (x : List UInt8) (mp : NMap) (pa : Nat → Nat) (h : Nat) : Prop where
  c : BC r x mp pa
  le : h ≤ mp.length
  ub : ∀ j, 0 < j → j < mp.length → pa j < h
  cl : ∀ i, i < h → ∀ y, spk r (nmA mp i) y → ∃ j, j < mp.length ∧ nmA mp j = y ∧ (j = 0 ∨ pa j ≤ i)
/-- At the k-th name for the h-th one. -/
structure BJ (r : Rl) (ns : List (List UInt8)) (x : List UInt8) (mp : NMap) (pa : Nat → Nat) (h k : Nat) : Prop where
  c : BC r x mp pa
  lt : h < mp.length
  ub : ∀ j, 0 < j → j < mp.length → pa j ≤ h
  cl : ∀ i, i < h → ∀ y, spk r (nmA mp i) y → ∃ j, j < mp.length ∧ nmA mp j = y ∧ (j = 0 ∨ pa j ≤ i)
  pm : ∀ j, 0 < j → j < mp.length → pa j = h → ∃ m, m < k ∧ nmA mp j = ns.getD m default
  dn : ∀ m, m < k → spk r (nmA mp h) (ns.getD m default) → ∃ j, j < mp.length ∧ nmA mp j = ns.getD m default
theorem BI.one {r : Rl} {x : List UInt8} (hx : gat r.us x ≠ none) : BI r x [(x, [])] (fun _ => 0) 0 := by
  refine ⟨⟨by simp, rfl, rfl, fun j hj => ?_, by simp, fun j h1 h2 => ?_, fun j h1 h2 => ?_, fun j k h1 h2 h3 => Nat.le_refl _, fun j k h1 h2 h3 => ?_⟩, Nat.zero_le _, fun j h1 h2 => ?_, fun i hi => absurd hi (Nat.not_lt_zero _)⟩
  · simp at hj; subst hj; exact hx
  all_goals (simp only [List.length_singleton] at *; omega)
theorem BI.start {r : Rl} {ns : List (List UInt8)} {x : List UInt8} {mp : NMap} {pa : Nat → Nat} {h : Nat} (I : BI r x mp pa h) (hh : h < mp.length) : BJ r ns x mp pa h 0 :=
  ⟨I.c, hh, fun j h1 h2 => Nat.le_of_lt (I.ub j h1 h2), I.cl, fun j h1 h2 e => absurd (I.ub j h1 h2) (by omega), fun m hm => absurd hm (Nat.not_lt_zero _)⟩
theorem BJ.fin {r : Rl} {ns : List (List UInt8)} {x : List UInt8} {mp : NMap} {pa : Nat → Nat} {h : Nat} (J : BJ r ns x mp pa h ns.length) (hns : ∀ y, gat r.us y ≠ none → y ∈ ns) : BI r x mp pa (h + 1) := by
  refine ⟨J.c, J.lt, fun j h1 h2 => Nat.lt_succ_of_le (J.ub j h1 h2), fun i hi y a => ?_⟩
  rcases Nat.lt_or_ge i h with q | q
  · exact J.cl i q y a
  · obtain rfl : i = h := by omega
    obtain ⟨m, m1, m2⟩ := mem_iff_getD.1 (hns y a.kn.2)
    rw [← m2] at a ⊢
    obtain ⟨j, j1, j2⟩ := J.dn m m1 a
    refine ⟨j, j1, j2, ?_⟩
    rcases Nat.eq_zero_or_pos j with z | z
    · exact .inl z
    · exact .inr (J.ub j z j1)
theorem BJ.skip {r : Rl} {ns : List (List UInt8)} {x : List UInt8} {mp : NMap} {pa : Nat → Nat} {h k : Nat} (J : BJ r ns x mp pa h k) (hk : mGet mp (ns.getD k default) ≠ none ∨ ¬ spk r (nmA mp h) (ns.getD k default)) (hm : mGet mp (ns.getD k default) ≠ none → ns.getD k default ∈ mp.map (·.1)) : BJ r ns x mp pa h (k + 1) := by
  refine ⟨J.c, J.lt, J.ub, J.cl, fun j h1 h2 e => ?_, fun m hm2 a => ?_⟩
  · obtain ⟨m, m1, m2⟩ := J.pm j h1 h2 e
    exact ⟨m, by omega, m2⟩
  · rcases Nat.lt_or_ge m k with q | q
    · exact J.dn m q a
    · obtain rfl : m = k := by omega
      rcases hk with hk | hk
      · obtain ⟨j, j1, j2⟩ := mem_iff_getD.1 (hm hk)
        simp only [List.length_map] at j1
        rw [map_getD j1] at j2
        exact ⟨j, j1, j2⟩
      · exact absurd a hk
def paU (pa : Nat → Nat) (n h : Nat) : Nat → Nat := fun j => if j = n then h else pa j
theorem BJ.add {r : Rl} {ns : List (List UInt8)} (hs : SS ns) {x : List UInt8} {mp : NMap} {pa : Nat → Nat} {h k : Nat} (J : BJ r ns x mp pa h k) (hk : k < ns.length) (hn : ns.getD k default ∉ mp.map (·.1)) (ha : spk r (nmA mp h) (ns.getD k default)) : BJ r ns x (mp ++ [(ns.getD k default, nmA mp h)]) (paU pa mp.length h) h (k + 1) := by
  have hl : (mp ++ [(ns.getD k default, nmA mp h)]).length = mp.length + 1 := by simp
  have n1 : ∀ {j}, j < mp.length → nmA (mp ++ [(ns.getD k default, nmA mp h)]) j = nmA mp j := fun hj => by unfold nmA; rw [gA1 hj]
  have n2 : nmA (mp ++ [(ns.getD k default, nmA mp h)]) mp.length = ns.getD k default := by unfold nmA; rw [gA2 (Nat.le_refl _), Nat.sub_self]; rfl
  have p1 : ∀ {j}, j < mp.length → paU pa mp.length h j = pa j := fun hj => if_neg (by omega)
  have p2 : paU pa mp.length h mp.length = h := if_pos rfl
  have hp := J.c.pos
  have hh := J.lt
  refine ⟨⟨by omega, by rw [n1 hp]; exact J.c.d0, by rw [gA1 hp]; exact J.c.f0, fun j hj => ?_, ?_, fun j h1 h2 => ?_, fun j h1 h2 => ?_, fun j i h1 h2 h3 => ?_, fun j i h1 h2 h3 e => ?_⟩, by omega, fun j h1 h2 => ?_, fun i hi y a => ?_, fun j h1 h2 e => ?_, fun m hm a => ?_⟩
  · rw [hl] at hj
    rcases Nat.lt_or_ge j mp.length with q | q
    · rw [n1 q]; exact J.c.kn j q
    · obtain rfl : j = mp.length := by omega
      rw [n2]; exact ha.kn.2
  · rw [List.map_append, List.nodup_append]
    refine ⟨J.c.nd, by simp, fun a h1 b h2 e => ?_⟩
    simp only [List.map_cons, List.map_nil, List.mem_singleton] at h2
    subst e; subst h2; exact hn h1
  · rw [hl] at h2
    rcases Nat.lt_or_ge j mp.length with q | q
    · rw [p1 q]; exact J.c.lt j h1 q
    · obtain rfl : j = mp.length := by omega
      rw [p2]; exact hh
  · rw [hl] at h2
    rcases Nat.lt_or_ge j mp.length with q | q
    · have := J.c.lt j h1 q
      rw [p1 q, n1 q, n1 (by omega), gA1 q]; exact J.c.fr j h1 q
    · obtain rfl : j = mp.length := by omega
      rw [p2, n2, n1 hh, gA2 (Nat.le_refl _), Nat.sub_self]
      exact ⟨rfl, ha⟩
  · rw [hl] at h3
    rcases Nat.lt_or_ge i mp.length with q | q
    · rw [p1 q, p1 (by omega)]; exact J.c.mo j i h1 h2 q
    · obtain rfl : i = mp.length := by omega
      rw [p2]
      rcases Nat.lt_or_ge j mp.length with q2 | q2
      · rw [p1 q2]; exact J.ub j h1 q2
      · obtain rfl : j = mp.length := by omega
        rw [p2]; exact Nat.le_refl _
  · rw [hl] at h3
    rcases Nat.lt_or_ge i mp.length with q | q
    · rw [p1 q, p1 (by omega)] at e
      rw [n1 q, n1 (by omega)]; exact J.c.od j i h1 h2 q e
    · obtain rfl : i = mp.length := by omega
      rw [p2, p1 h2] at e
      rw [n2, n1 h2]
      obtain ⟨m, m1, m2⟩ := J.pm j h1 h2 e
      rw [m2]; exact hs m k m1 hk
  · rw [hl] at h2
    rcases Nat.lt_or_ge j mp.length with q | q
    · rw [p1 q]; exact J.ub j h1 q
    · obtain rfl : j = mp.length := by omega
      rw [p2]; exact Nat.le_refl _
  · rw [n1 (by omega)] at a
    obtain ⟨j, j1, j2, j3⟩ := J.cl i hi y a
    exact ⟨j, by omega, by rw [n1 j1]; exact j2, by rw [p1 j1]; exact j3⟩
  · rw [hl] at h2
    rcases Nat.lt_or_ge j mp.length with q | q
    · rw [p1 q] at e
      rw [n1 q]
      obtain ⟨m, m1, m2⟩ := J.pm j h1 q e
      exact ⟨m, by omega, m2⟩
    · obtain rfl : j = mp.length := by omega
      exact ⟨k, by omega, n2⟩
  · rw [n1 hh] at a
    rcases Nat.lt_or_ge m k with q | q
    · obtain ⟨j, j1, j2⟩ := J.dn m q a
      exact ⟨j, by omega, by rw [n1 j1]; exact j2⟩
    · obtain rfl : m = k := by omega
      exact ⟨mp.length, by omega, n2⟩
theorem BI.all {r : Rl} {x : List UInt8} {mp : NMap} {pa : Nat → Nat} {h : Nat} (I : BI r x mp pa h) {Q : List (List UInt8)} {z : List UInt8} (hq : Pth r x Q z) : (∃ i, i < mp.length ∧ nmA mp i = z ∧ (tpth mp pa i).length ≤ Q.length ∧ ((tpth mp pa i).length = Q.length → lxe (tpth mp pa i) Q)) ∨ (h < mp.length ∧ (tpth mp pa h).length < Q.length) := by
  induction hq with
  | one => exact .inl ⟨0, I.c.pos, I.c.d0, by rw [tpth0]; exact Nat.le_refl _, fun _ => .inl (by rw [tpth0, I.c.d0])⟩
  | snoc g b ih =>
    rename_i Q w z
    have hQ := g.pos
    rcases ih with ⟨i, i1, i2, i3, i4⟩ | ⟨h1, h2⟩
    · rcases Nat.lt_or_ge i h with q | q
      · rw [← i2] at b
        obtain ⟨j, j1, j2, j3⟩ := I.cl i q z b
        refine .inl ⟨j, j1, j2, ?_⟩
        rcases Nat.eq_zero_or_pos j with e | e
        · subst e
          rw [tpth0]; simp
          intro h; rw [h] at hQ; simp at hQ
        · have j3 := j3.resolve_left (by omega)
          rw [I.c.step e j1, j2]
          obtain ⟨m1, m2⟩ := I.c.mono i i1 (pa j) j3
          simp only [List.length_append, List.length_singleton]
          refine ⟨by omega, fun e => ?_⟩
          exact ((m2 (by omega)).trans (i4 (by omega))).snoc
      · have := (I.c.mono i i1 h q).1
        exact .inr ⟨by omega, by simp; omega⟩
    · exact .inr ⟨h1, by simp; omega⟩
theorem BI.found {r : Rl} {x : List UInt8} {mp : NMap} {pa : Nat → Nat} {h : Nat} (I : BI r x mp pa h) (hh : h < mp.length) : ChainOk r x (nmA mp h) (tpth mp pa h) := by
  have key : ∀ Q, Pth r x Q (nmA mp h) → (tpth mp pa h).length ≤ Q.length ∧ ((tpth mp pa h).length = Q.length → lxe (tpth mp pa h) Q) := fun Q hq => by
    rcases I.all hq with ⟨i, i1, i2, i3, i4⟩ | ⟨h1, h2⟩
    · have : i = h := by
        rcases Nat.lt_trichotomy i h with q | q | q
        · exact absurd (by rw [map_getD i1, map_getD hh]; exact i2) (nodup_ne I.c.nd q (by simp; omega))
        · exact q
        · exact absurd (by rw [map_getD i1, map_getD hh]; exact i2.symm) (nodup_ne I.c.nd q (by simp; omega))
      subst this
      exact ⟨i3, i4⟩
    · exact ⟨by omega, fun e => by omega⟩
  exact ⟨I.c.pth h hh, fun Q hq => (key Q hq).1, fun Q hq => (key Q hq).2⟩
theorem BI.lost {r : Rl} {x y : List UInt8} {mp : NMap} {pa : Nat → Nat} (I : BI r x mp pa mp.length) (hy : ∀ i, i < mp.length → nmA mp i ≠ y) (Q : List (List UInt8)) : ¬ Pth r x Q y := fun hq => by
  rcases I.all hq with ⟨i, i1, i2, i3, i4⟩ | ⟨h1, h2⟩
  · exact hy i i1 i2
  · omega
theorem mIdx_nd : ∀ {l : NMap} (hn : (l.map (·.1)).Nodup) {j : Nat} (hj : j < l.length) (i : Nat), mIdx (nmA l j) l i = some (i + j, (l.getD j default).2)
  | [], hn, j, hj, i => absurd hj (Nat.not_lt_zero _)
  | p :: l, hn, 0, hj, i => by
    unfold mIdx
    rw [if_pos (by rfl)]; rfl
  | p :: l, hn, j + 1, hj, i => by
    have h2 := List.nodup_cons.1 hn
    have hj' : j < l.length := by simp at hj; exact hj
    unfold mIdx
    rw [if_neg ?_]
    · show mIdx (nmA l j) l (i + 1) = _
      rw [mIdx_nd h2.2 hj' (i + 1)]
      show some _ = some _
      congr 2; omega
    · intro e
      refine h2.1 ?_
      show p.1 ∈ l.map (·.1)
      rw [show p.1 = nmA l j from e]
      exact List.mem_map.2 ⟨_, mem_getD hj', rfl⟩
theorem mGet_nd {l : NMap} (hn : (l.map (·.1)).Nodup) {j : Nat} (hj : j < l.length) : mGet l (nmA l j) = some (l.getD j default).2 := by
  unfold mGet
  rw [mIdx_nd hn hj 0]; rfl
theorem BC.len {r : Rl} (H : RO r) {x : List UInt8} {mp : NMap} {pa : Nat → Nat} (B : BC r x mp pa) : mp.length ≤ 64 := by
  have := nodup_leM B.nd (m := r.us.map (·.name)) fun y hy => by
    obtain ⟨j, j1, j2⟩ := mem_iff_getD.1 hy
    simp only [List.length_map] at j1
    rw [map_getD j1] at j2
    exact gat_name (j2 ▸ B.kn j j1)
  have := H.l64
  simp at *; omega
/-- What the law asks of chains. -/
theorem ChainOk.back {r : Rl} {x y : List UInt8} {P R : List (List UInt8)} (h : ChainOk r x y P) (g : ChainOk r y x R) : P.length = R.length := by
  have h1 := h.sh _ g.pth.rev
  have h2 := g.sh _ h.pth.rev
  simp at h1 h2
  omega
theorem ChainOk.self {r : Rl} {x : List UInt8} {P : List (List UInt8)} (h : ChainOk r x x P) : P.length = 1 := by
  have h1 := h.sh _ .one
  have := h.pth.pos
  simp at h1; omega
end Go.Proofs.Xx

/-
  An odd ring: plain law.
-/
namespace Go.Proofs.Xx
set_option linter.unusedSimpArgs false
set_option linter.unusedVariables false
set_option linter.unusedSectionVars false

/-- An odd ring of feuds. -/
structure RingOk (r : Rl) (R : List (List UInt8)) : Prop where
  odd : R.length % 2 = 1
  three : 3 ≤ R.length
  nd : ∀ i j, i < j → j < R.length → R.getD i default ≠ R.getD j default
  adj : ∀ i, i < R.length → adj r 2 (R.getD i default) (R.getD ((i + 1) % R.length) default)
/-- Who led to whom, and how far from the first one. -/
structure Tree (r : Rl) (fr : List UInt8 → List UInt8) (dep : List UInt8 → Nat) (met : List UInt8 → Prop) : Prop where
  up : ∀ x, met x → 0 < dep x → met (fr x) ∧ dep (fr x) + 1 = dep x ∧ Xx.adj r 2 (fr x) x
def anc (fr : List UInt8 → List UInt8) (x : List UInt8) : Nat → List UInt8
  | 0 => x
  | k + 1 => fr (anc fr x k)
theorem anc_ok {r : Rl} {fr : List UInt8 → List UInt8} {dep : List UInt8 → Nat} {met : List UInt8 → Prop} (T : Tree r fr dep met) {x : List UInt8} (hx : met x) : ∀ {k : Nat}, k ≤ dep x → met (anc fr x k) ∧ dep (anc fr x k) + k = dep x
  | 0, _ => ⟨hx, rfl⟩
  | k + 1, h => by
    obtain ⟨h1, h2⟩ := anc_ok T hx (k := k) (by omega)
    obtain ⟨g1, g2, -⟩ := T.up _ h1 (by omega)
    exact ⟨g1, by show dep (fr (anc fr x k)) + (k + 1) = dep x; omega⟩
def ringL (fr : List UInt8 → List UInt8) (x y : List UInt8) (n : Nat) : List (List UInt8) := (List.range n).map (anc fr x) ++ [anc fr x n] ++ ((List.range n).map (anc fr y)).reverse
end Go.Proofs.Xx

/-
  An odd ring, found.
-/
namespace Go.Proofs.Xx
open Go Go.Proofs
set_option linter.unusedSimpArgs false
set_option linter.unusedVariables false
set_option linter.unusedSectionVars false
set_option maxRecDepth 100000
set_option maxHeartbeats 4000000

/-- A spot: its camp and who led to it. -/
def eSp (x : Int × List UInt8) : Value := .agg #[.int .i64 x.1, str x.2]
abbrev CMap := List (List UInt8 × (Int × List UInt8))
def frM (mp : CMap) (x : List UInt8) : List UInt8 := match mGet mp x with | some p => p.2 | none => []
def cmM (mp : CMap) (x : List UInt8) : Int := match mGet mp x with | some p => p.1 | none => 0
variable [Flag]
end Go.Proofs.Xx

/-
  Circles of friends.
-/
namespace Go.Proofs.Xx
open Go Go.Proofs
set_option linter.unusedSimpArgs false
set_option linter.unusedVariables false
set_option linter.unusedSectionVars false
set_option maxRecDepth 100000
set_option maxHeartbeats 4000000

def MetP (mp : List (List UInt8 × Bool)) (M : List (List UInt8)) : Prop := ∀ x, mGet mp x = if x ∈ M then some true else none
theorem MetP.put {mp : List (List UInt8 × Bool)} {M : List (List UInt8)} (h : MetP mp M) (n : List UInt8) : MetP (mPut mp n true) (M ++ [n]) := fun x => by
  rw [mGet_put, h x]
  by_cases e : x = n
  · subst e; simp
  · simp [e]
/-- Led to by ties of a kind. -/
inductive Rch (r : Rl) (k : Int) (n : List UInt8) : List UInt8 → Prop
  | refl : Rch r k n n
  | step {x y : List UInt8} (h : Rch r k n x) (a : adj r k x y) : Rch r k n y
theorem Rch.trans {r : Rl} {k : Int} {n x y : List UInt8} (h : Rch r k n x) (g : Rch r k x y) : Rch r k n y := by
  induction g with
  | refl => exact h
  | step g a ih => exact .step ih a
theorem Rch.symm {r : Rl} {k : Int} {n x : List UInt8} (h : Rch r k n x) : Rch r k x n := by
  induction h with
  | refl => exact .refl
  | step h a ih => exact Rch.trans (.step .refl a.symm) ih
/-- What a search from n adds to what is met. -/
structure Dfs (r : Rl) (M : List (List UInt8)) (n : List UInt8) (N : List (List UInt8)) : Prop where
  nd : N.Nodup
  dj : ∀ x ∈ N, x ∉ M
  self : n ∈ M ∨ n ∈ N
  kn : ∀ x ∈ N, gat r.us x ≠ none
  rc : ∀ x ∈ N, Rch r 1 n x
  cl : ∀ x ∈ N, ∀ y, adj r 1 x y → y ∈ M ∨ y ∈ N
/-- How many names are not yet met. -/
def unm (r : Rl) (M : List (List UInt8)) : Nat := ((r.us.map (·.name)).filter fun x => decide (x ∉ M)).length
def cvJ (b4 b5 b1 b6 : Nat) : Value := .func (.func 72) #[] #[.pointer (some ⟨b4, 0, none⟩), .pointer (some ⟨b5, 0, none⟩), .pointer (some ⟨b1, 0, none⟩), .pointer (some ⟨b6, 0, none⟩)]
abbrev cirR (p b4 b5 b1 b6 m : Nat) (mp : List (List UInt8 × Bool)) (v : SlV) (C : List (List UInt8)) : List Rs :=
  [.blk b4 [.map (some m)] 112, .mp m .bool mp, .blk b5 [v.val] 22, .sl v.val 9 1 eS C, .blk b1 [.pointer (some ⟨p, 0, none⟩)] 40, .blk b6 [cvJ b4 b5 b1 b6] 113]
variable [Flag]
end Go.Proofs.Xx

/-
  Camps: the search, plain part.
-/
namespace Go.Proofs.Xx
open Go Go.Proofs
set_option linter.unusedSimpArgs false
set_option linter.unusedVariables false
set_option linter.unusedSectionVars false

theorem frM_put {mp : CMap} {f : List UInt8} {p : Int × List UInt8} (x : List UInt8) : frM (mPut mp f p) x = if x = f then p.2 else frM mp x := by
  unfold frM; rw [mGet_put]
  by_cases e : x = f
  · rw [if_pos e, if_pos e]
  · rw [if_neg e, if_neg e]
theorem cmM_put {mp : CMap} {f : List UInt8} {p : Int × List UInt8} (x : List UInt8) : cmM (mPut mp f p) x = if x = f then p.1 else cmM mp x := by
  unfold cmM; rw [mGet_put]
  by_cases e : x = f
  · rw [if_pos e, if_pos e]
  · rw [if_neg e, if_neg e]
theorem met_put {mp : CMap} {f : List UInt8} {p : Int × List UInt8} (x : List UInt8) : mGet (mPut mp f p) x ≠ none ↔ (x = f ∨ mGet mp x ≠ none) := by
  rw [mGet_put]
  by_cases e : x = f <;> simp [e]
theorem put_new {mp : CMap} {f : List UInt8} {p : Int × List UInt8} (h : mGet mp f = none) : mPut mp f p = mp ++ [(f, p)] := by
  unfold mPut; rw [mGet_none h]
theorem mIdx_mem {α : Type} {k : List UInt8} : ∀ {l : List (List UInt8 × α)} {i : Nat}, mIdx k l i ≠ none ↔ k ∈ l.map (·.1)
  | [], i => by simp [mIdx]
  | p :: r, i => by
    unfold mIdx
    by_cases e : p.1 = k
    · simp [e]
    · rw [if_neg e, mIdx_mem (l := r)]
      rw [List.map_cons, List.mem_cons]
      exact ⟨.inr, fun q => q.resolve_left fun z => e z.symm⟩
theorem met_mem {mp : CMap} {x : List UInt8} : mGet mp x ≠ none ↔ x ∈ mp.map (·.1) := by
  rw [← mIdx_mem (l := mp) (i := 0)]
  unfold mGet
  cases mIdx x mp 0 <;> simp
/-- What is met: a forest with camps by depth. -/
structure CI (r : Rl) (mp : CMap) (dep : List UInt8 → Nat) : Prop where
  tree : Tree r (frM mp) dep (fun x => mGet mp x ≠ none)
  camp : ∀ x, mGet mp x ≠ none → cmM mp x = ((dep x % 2 : Nat) : Int)
  kn : ∀ x, mGet mp x ≠ none → gat r.us x ≠ none
  nd : (mp.map (·.1)).Nodup
  dl : ∀ x, mGet mp x ≠ none → dep x < mp.length
def depU (dep : List UInt8 → Nat) (f : List UInt8) (d : Nat) : List UInt8 → Nat := fun x => if x = f then d else dep x
theorem CI.len {r : Rl} (H : RO r) {mp : CMap} {dep : List UInt8 → Nat} (I : CI r mp dep) : mp.length ≤ 64 := by
  have := nodup_leM I.nd (m := r.us.map (·.name)) fun x hx => gat_name (I.kn x (met_mem.2 hx))
  have := H.l64
  simp at *; omega
theorem CI.put {r : Rl} {mp : CMap} {dep : List UInt8 → Nat} (I : CI r mp dep) {f n : List UInt8} {c : Int} {d : Nat} (hf : mGet mp f = none) (hk : gat r.us f ≠ none) (h : (d = 0 ∧ c = 0) ∨ (mGet mp n ≠ none ∧ d = dep n + 1 ∧ adj r 2 n f ∧ c = 1 - cmM mp n)) : CI r (mPut mp f (c, n)) (depU dep f d) := by
  refine ⟨⟨fun x hx h0 => ?_⟩, fun x hx => ?_, fun x hx => ?_, ?_, fun x hx => ?_⟩
  · rw [met_put] at hx
    rw [met_put, frM_put]
    unfold depU at h0 ⊢
    by_cases e : x = f
    · subst e
      rw [if_pos rfl] at h0
      rw [if_pos rfl, if_pos rfl]
      rcases h with ⟨h1, h2⟩ | ⟨h1, h2, h3, h4⟩
      · omega
      · have hn : n ≠ x := fun q => h1 (q ▸ hf)
        exact ⟨.inr h1, by rw [if_neg hn]; exact h2.symm, h3⟩
    · rw [if_neg e] at h0
      rw [if_neg e, if_neg e]
      obtain ⟨g1, g2, g3⟩ := I.tree.up x (hx.resolve_left e) h0
      have hn : frM mp x ≠ f := fun q => g1 (q ▸ hf)
      exact ⟨.inr g1, by rw [if_neg hn]; exact g2, g3⟩
  · rw [met_put] at hx
    rw [cmM_put]
    unfold depU
    by_cases e : x = f
    · rw [if_pos e, if_pos e]
      rcases h with ⟨h1, h2⟩ | ⟨h1, h2, h3, h4⟩
      · rw [h1]; exact h2
      · show c = _
        rw [h4, I.camp n h1, h2]; omega
    · rw [if_neg e, if_neg e]; exact I.camp x (hx.resolve_left e)
  · rw [met_put] at hx
    rcases hx with e | e
    · rw [e]; exact hk
    · exact I.kn x e
  · rw [put_new hf, List.map_append, List.nodup_append]
    refine ⟨I.nd, by simp, fun a ha b hb e => ?_⟩
    simp only [List.map_cons, List.map_nil, List.mem_singleton] at hb
    exact met_mem.2 ha (e ▸ hb ▸ hf)
  · rw [met_put] at hx
    unfold depU
    rw [put_new hf, List.length_append, List.length_singleton]
    by_cases e : x = f
    · rw [if_pos e]
      rcases h with ⟨h1, h2⟩ | ⟨h1, h2, h3, h4⟩
      · omega
      · have := I.dl n h1; omega
    · rw [if_neg e]
      have := I.dl x (hx.resolve_left e); omega
theorem anc_succ (fr : List UInt8 → List UInt8) (x : List UInt8) : ∀ k, anc fr x (k + 1) = anc fr (fr x) k
  | 0 => rfl
  | k + 1 => congrArg fr (anc_succ fr x k)
theorem CI.anc {r : Rl} {mp : CMap} {dep : List UInt8 → Nat} (I : CI r mp dep) {f : List UInt8} {p : Int × List UInt8} (hf : mGet mp f = none) {x : List UInt8} (hx : mGet mp x ≠ none) : ∀ {k : Nat}, k ≤ dep x → Xx.anc (frM (mPut mp f p)) x k = Xx.anc (frM mp) x k
  | 0, _ => rfl
  | k + 1, h => by
    show frM _ (Xx.anc _ x k) = frM _ (Xx.anc _ x k)
    rw [I.anc hf hx (by omega), frM_put, if_neg]
    intro q
    have := (anc_ok I.tree hx (k := k) (by omega)).1
    exact this (q ▸ hf)
def gnm (r : Rl) (j : Nat) : List UInt8 := (r.us.getD j default).name
/-- Between two searches. -/
structure OI (r : Rl) (i : Nat) (mp : CMap) (dep : List UInt8 → Nat) : Prop where
  ci : CI r mp dep
  cl : ∀ x, mGet mp x ≠ none → ∀ y, adj r 2 x y → mGet mp y ≠ none ∧ cmM mp y ≠ cmM mp x
  gm : ∀ j, j < i → mGet mp (gnm r j) ≠ none
  z : ∀ j, j < i → cmM mp (gnm r j) = 0 ∨ ∃ k, k < j ∧ Rch r 2 (gnm r k) (gnm r j)
  rc : ∀ x, mGet mp x ≠ none → ∃ k, k < i ∧ Rch r 2 (gnm r k) x
/-- In the search from the i-th guest: O is what was met before, q the line. -/
structure SI (r : Rl) (i : Nat) (O : List UInt8 → Prop) (mp : CMap) (dep : List UInt8 → Nat) (q : List (List UInt8)) : Prop where
  ci : CI r mp dep
  om : ∀ x, O x → mGet mp x ≠ none
  oc : ∀ x, O x → ∀ y, adj r 2 x y → O y ∧ cmM mp y ≠ cmM mp x
  gm : ∀ j, j ≤ i → mGet mp (gnm r j) ≠ none
  z : ∀ j, j ≤ i → cmM mp (gnm r j) = 0 ∨ ∃ k, k < j ∧ Rch r 2 (gnm r k) (gnm r j)
  orc : ∀ x, O x → ∃ k, k < i ∧ Rch r 2 (gnm r k) x
  rt : ∀ x, mGet mp x ≠ none → ¬ O x → Xx.anc (frM mp) x (dep x) = gnm r i ∧ Rch r 2 (gnm r i) x
  qm : ∀ x ∈ q, mGet mp x ≠ none ∧ ¬ O x
  qs : ∀ a b, a < b → b < q.length → dep (q.getD a default) ≤ dep (q.getD b default)
  qd : ∀ x ∈ q, dep x ≤ dep (q.getD 0 default) + 1
  dn : ∀ x, mGet mp x ≠ none → ¬ O x → x ∉ q → (q ≠ [] → dep x ≤ dep (q.getD 0 default)) ∧ ∀ y, adj r 2 x y → mGet mp y ≠ none ∧ cmM mp y ≠ cmM mp x
  ql : q.length ≤ mp.length
theorem OI.root {r : Rl} {i : Nat} {mp : CMap} {dep : List UInt8 → Nat} (I : OI r i mp dep) (hs : mGet mp (gnm r i) = none) (hk : gat r.us (gnm r i) ≠ none) : SI r i (fun x => mGet mp x ≠ none) (mPut mp (gnm r i) (0, [])) (depU dep (gnm r i) 0) [gnm r i] := by
  have nm : ∀ {x}, mGet mp x ≠ none → x ≠ gnm r i := fun hx q => hx (q ▸ hs)
  refine ⟨I.ci.put hs hk (.inl ⟨rfl, rfl⟩), fun x hx => (met_put x).2 (.inr hx), fun x hx y a => ?_, fun j hj => ?_, fun j hj => ?_, I.rc, fun x hx hn => ?_, fun x hx => ?_, fun a b h1 h2 => ?_, fun x hx => ?_, fun x hx h1 h2 => ?_, ?_⟩
  · obtain ⟨h1, h2⟩ := I.cl x hx y a
    rw [cmM_put, cmM_put, if_neg (nm h1), if_neg (nm hx)]
    exact ⟨h1, h2⟩
  · rw [met_put]
    rcases Nat.lt_or_ge j i with q | q
    · exact .inr (I.gm j q)
    · obtain rfl : j = i := by omega
      exact .inl rfl
  · rw [cmM_put]
    rcases Nat.lt_or_ge j i with q | q
    · rw [if_neg (nm (I.gm j q))]; exact I.z j q
    · obtain rfl : j = i := by omega
      exact .inl (if_pos rfl)
  · have e := ((met_put x).1 hx).resolve_right hn
    subst e
    have : depU dep (gnm r i) 0 (gnm r i) = 0 := if_pos rfl
    rw [this]
    exact ⟨rfl, .refl⟩
  · rw [List.mem_singleton] at hx
    subst hx
    exact ⟨(met_put _).2 (.inl rfl), fun q => q hs⟩
  · rw [List.length_singleton] at h2; omega
  · rw [List.mem_singleton] at hx
    subst hx
    exact Nat.le_succ _
  · exact absurd (List.mem_singleton.2 (((met_put x).1 hx).resolve_right h1)) h2
  · rw [put_new hs]; simp
theorem getD0_app {l : List (List UInt8)} {x : List UInt8} (h : l ≠ []) : (l ++ [x]).getD 0 default = l.getD 0 default := by
  cases l with
  | nil => exact absurd rfl h
  | cons y l => rfl
theorem SI.add {r : Rl} {i : Nat} {O : List UInt8 → Prop} {mp : CMap} {dep : List UInt8 → Nat} {q : List (List UInt8)} (I : SI r i O mp dep q) (hq : q ≠ []) {n f : List UInt8} (hn : q.getD 0 default = n) (hf : mGet mp f = none) (hk : gat r.us f ≠ none) (ha : adj r 2 n f) : SI r i O (mPut mp f (1 - cmM mp n, n)) (depU dep f (dep n + 1)) (q ++ [f]) := by
  have hn2 : n ∈ q := by
    rw [← hn]; exact mem_getD (List.length_pos_iff.2 hq)
  obtain ⟨nm, no⟩ := I.qm n hn2
  have ne : ∀ {x}, mGet mp x ≠ none → x ≠ f := fun hx e => hx (e ▸ hf)
  have du : ∀ {x}, mGet mp x ≠ none → depU dep f (dep n + 1) x = dep x := fun hx => if_neg (ne hx)
  have duf : depU dep f (dep n + 1) f = dep n + 1 := if_pos rfl
  have fO : ¬ O f := fun h => I.om f h hf
  refine ⟨I.ci.put hf hk (.inr ⟨nm, rfl, ha, rfl⟩), fun x hx => (met_put x).2 (.inr (I.om x hx)), fun x hx y a => ?_, fun j hj => (met_put _).2 (.inr (I.gm j hj)), fun j hj => ?_, I.orc, fun x hx hn => ?_, fun x hx => ?_, fun a b h1 h2 => ?_, fun x hx => ?_, fun x hx h1 h2 => ?_, ?_⟩
  · obtain ⟨h1, h2⟩ := I.oc x hx y a
    rw [cmM_put, cmM_put, if_neg (ne (I.om _ h1)), if_neg (ne (I.om _ hx))]
    exact ⟨h1, h2⟩
  · rw [cmM_put, if_neg (ne (I.gm j hj))]; exact I.z j hj
  · rw [met_put] at hx
    by_cases e : x = f
    · subst e
      rw [duf, anc_succ, frM_put, if_pos rfl]
      show Xx.anc _ n (dep n) = _ ∧ _
      rw [I.ci.anc hf nm (Nat.le_refl _)]
      obtain ⟨h1, h2⟩ := I.rt n nm no
      exact ⟨h1, h2.step ha⟩
    · have hx := hx.resolve_left e
      rw [du hx, I.ci.anc hf hx (Nat.le_refl _)]
      exact I.rt x hx hn
  · rw [met_put]
    rcases List.mem_append.1 hx with h | h
    · exact ⟨.inr (I.qm x h).1, (I.qm x h).2⟩
    · rw [List.mem_singleton] at h
      exact ⟨.inl h, h ▸ fO⟩
  · rw [List.length_append, List.length_singleton] at h2
    rw [gA1 (show a < q.length by omega), du (I.qm _ (mem_getD (show a < q.length by omega))).1]
    rcases Nat.lt_or_ge b q.length with h | h
    · rw [gA1 h, du (I.qm _ (mem_getD h)).1]; exact I.qs a b h1 h
    · rw [gA2 h, show b - q.length = 0 by omega]
      show _ ≤ depU _ _ _ f
      rw [duf]
      have := I.qd _ (mem_getD (show a < q.length by omega))
      rw [hn] at this; exact this
  · rw [getD0_app hq, hn, du nm]
    rcases List.mem_append.1 hx with h | h
    · rw [du (I.qm x h).1, ← hn]; exact I.qd x h
    · rw [List.mem_singleton.1 h, duf]; exact Nat.le_refl _
  · rw [List.mem_append, List.mem_singleton, not_or] at h2
    have hx := ((met_put x).1 hx).resolve_left h2.2
    obtain ⟨g1, g2⟩ := I.dn x hx h1 h2.1
    rw [getD0_app hq, hn, du nm, du hx, ← hn]
    refine ⟨fun _ => g1 hq, fun y a => ?_⟩
    obtain ⟨k1, k2⟩ := g2 y a
    rw [cmM_put, cmM_put, if_neg (ne k1), if_neg (ne hx)]
    exact ⟨(met_put y).2 (.inr k1), k2⟩
  · have := I.ql
    rw [put_new hf]; simp; exact this
/-- The head of the line is done. -/
theorem SI.pop {r : Rl} {i : Nat} {O : List UInt8 → Prop} {mp : CMap} {dep : List UInt8 → Nat} {n : List UInt8} {q : List (List UInt8)} (I : SI r i O mp dep (n :: q)) (hd : ∀ y, adj r 2 n y → mGet mp y ≠ none ∧ cmM mp y ≠ cmM mp n) : SI r i O mp dep q := by
  have hq0 : q ≠ [] → dep n ≤ dep (q.getD 0 default) := fun hq => by
    have := I.qs 0 1 (by omega) (by have := List.length_pos_iff.2 hq; simp; omega)
    exact this
  refine ⟨I.ci, I.om, I.oc, I.gm, I.z, I.orc, I.rt, fun x hx => I.qm x (.tail _ hx), fun a b h1 h2 => I.qs (a + 1) (b + 1) (by omega) (by simp; omega), fun x hx => ?_, fun x hx h1 h2 => ?_, by have := I.ql; simp at this; omega⟩
  · have h1 : dep x ≤ dep n + 1 := I.qd x (.tail _ hx)
    have h2 := hq0 (List.ne_nil_of_mem hx)
    omega
  · by_cases e : x = n
    · subst e
      exact ⟨hq0, hd⟩
    · obtain ⟨g1, g2⟩ := I.dn x hx h1 (by simp [e, h2])
      refine ⟨fun hq => ?_, g2⟩
      have h3 : dep x ≤ dep n := g1 (by simp)
      have := hq0 hq
      omega
theorem SI.fin {r : Rl} {i : Nat} {O : List UInt8 → Prop} {mp : CMap} {dep : List UInt8 → Nat} (I : SI r i O mp dep []) : OI r (i + 1) mp dep := by
  refine ⟨I.ci, fun x hx y a => ?_, fun j hj => I.gm j (by omega), fun j hj => I.z j (by omega), fun x hx => ?_⟩
  · by_cases h : O x
    · obtain ⟨h1, h2⟩ := I.oc x h y a
      exact ⟨I.om y h1, h2⟩
    · exact (I.dn x hx h (by simp)).2 y a
  · by_cases h : O x
    · obtain ⟨k, h1, h2⟩ := I.orc x h
      exact ⟨k, by omega, h2⟩
    · exact ⟨i, by omega, (I.rt x hx h).2⟩
theorem OI.skip {r : Rl} {i : Nat} {mp : CMap} {dep : List UInt8 → Nat} (I : OI r i mp dep) (h : mGet mp (gnm r i) ≠ none) : OI r (i + 1) mp dep := by
  refine ⟨I.ci, I.cl, fun j hj => ?_, fun j hj => ?_, fun x hx => ?_⟩
  · rcases Nat.lt_or_ge j i with q | q
    · exact I.gm j q
    · obtain rfl : j = i := by omega
      exact h
  · rcases Nat.lt_or_ge j i with q | q
    · exact I.z j q
    · obtain rfl : j = i := by omega
      exact .inr (I.rc _ h)
  · obtain ⟨k, h1, h2⟩ := I.rc x hx
    exact ⟨k, by omega, h2⟩
/-- Two enemies in one camp. -/
theorem SI.clash {r : Rl} (H : RO r) {i : Nat} {O : List UInt8 → Prop} {mp : CMap} {dep : List UInt8 → Nat} {q : List (List UInt8)} (I : SI r i O mp dep q) (hq : q ≠ []) {n f : List UInt8} (hn : q.getD 0 default = n) (hf : mGet mp f ≠ none) (ha : adj r 2 n f) (hc : cmM mp f = cmM mp n) : mGet mp n ≠ none ∧ dep n = dep f ∧ n ≠ f ∧ Xx.anc (frM mp) n (dep n) = Xx.anc (frM mp) f (dep n) ∧ dep n ≤ 64 := by
  have hn2 : n ∈ q := by
    rw [← hn]; exact mem_getD (List.length_pos_iff.2 hq)
  obtain ⟨nm, no⟩ := I.qm n hn2
  have fO : ¬ O f := fun h => no (I.oc f h n ha.symm).1
  have fq : f ∈ q := by
    apply Classical.byContradiction
    intro h
    exact ((I.dn f hf fO h).2 n ha.symm).2 hc.symm
  have h1 := I.qd f fq
  have h2 : dep (q.getD 0 default) ≤ dep f := by
    obtain ⟨j, j1, j2⟩ := mem_iff_getD.1 fq
    rcases Nat.eq_zero_or_pos j with e | e
    · subst e; rw [j2]; exact Nat.le_refl _
    · have := I.qs 0 j e j1
      rw [j2] at this; exact this
  rw [hn] at h1 h2
  have h3 := I.ci.camp f hf
  have h4 := I.ci.camp n nm
  rw [hc, h4] at h3
  have hd : dep n = dep f := by omega
  have hl := I.ci.len H
  have := I.ci.dl n nm
  refine ⟨nm, hd, (adj_known H ha).2.2, ?_, by omega⟩
  rw [(I.rt n nm no).1, hd, (I.rt f hf fO).1]
/-- Two camps. -/
structure CampOk (r : Rl) (cs : List Int) : Prop where
  len : cs.length = r.us.length
  b : ∀ i, i < cs.length → cs.getD i default = 0 ∨ cs.getD i default = 1
  ne : ∀ i j, i < cs.length → j < cs.length → adj r 2 (gnm r i) (gnm r j) → cs.getD i default ≠ cs.getD j default
  z : ∀ j, j < cs.length → cs.getD j default = 0 ∨ ∃ k, k < j ∧ Rch r 2 (gnm r k) (gnm r j)
theorem OI.camps {r : Rl} {mp : CMap} {dep : List UInt8 → Nat} (I : OI r r.us.length mp dep) : CampOk r ((List.range r.us.length).map fun i => cmM mp (gnm r i)) := by
  have g : ∀ i, i < r.us.length → ((List.range r.us.length).map fun i => cmM mp (gnm r i)).getD i default = cmM mp (gnm r i) := fun i hi => by
    rw [List.getD_eq_getElem?_getD]; simp [hi]
  refine ⟨by simp, fun i hi => ?_, fun i j hi hj a => ?_, fun j hj => ?_⟩
  · simp at hi
    rw [g i hi, I.ci.camp _ (I.gm i hi)]; omega
  · simp at hi hj
    rw [g i hi, g j hj]
    exact fun q => (I.cl _ (I.gm i hi) _ a).2 q.symm
  · simp at hj
    rw [g j hj]; exact I.z j hj
end Go.Proofs.Xx

/-
  Camps.
-/
namespace Go.Proofs.Xx
open Go Go.Proofs
set_option linter.unusedSimpArgs false
set_option linter.unusedVariables false
set_option linter.unusedSectionVars false
set_option maxRecDepth 100000
set_option maxHeartbeats 4000000

theorem Hs.one_ {α : Type} {h0 h : AH} {u : Value} {e : TypeId} {z : Nat} {enc : α → List Value} {x : α} {rs : List Rs} (S : Hs h0 h (.sl u e z eRaw [enc x] :: rs)) : Hs h0 h (.sl u e z enc [x] :: rs) := by
  obtain ⟨fp, k1, k2, k3⟩ := S.sep
  refine ⟨S.ext, fp, ?_, k2, k3⟩
  rcases k1 with ⟨q1, q2⟩ | ⟨b, o, cc, slk, cap, h1, h2, h3, h4, h5⟩
  · cases q2
  · exact .inr ⟨b, o, cc, slk, cap, h1, h2, h3, (by simpa [eRaw] using h4), h5⟩
variable [Flag]
end Go.Proofs.Xx

/-
  Chain.
-/
namespace Go.Proofs.Xx
open Go Go.Proofs
set_option linter.unusedSimpArgs false
set_option linter.unusedVariables false
set_option linter.unusedSectionVars false
set_option maxRecDepth 100000
set_option maxHeartbeats 4000000

theorem drop_get0 {mp : NMap} {h : Nat} : ((mp.map (·.1)).drop h).getD 0 default = nmA mp h := by
  unfold nmA
  rw [List.getD_eq_getElem?_getD, List.getD_eq_getElem?_getD, List.getElem?_drop, List.getElem?_map, Nat.add_zero]
  cases mp[h]? <;> rfl
theorem mGet_mem {α : Type} {mp : List (List UInt8 × α)} {x : List UInt8} : mGet mp x ≠ none ↔ x ∈ mp.map (·.1) := by
  rw [← mIdx_mem (l := mp) (i := 0)]
  unfold mGet
  cases mIdx x mp 0 <;> simp
theorem mPut_new {α : Type} {mp : List (List UInt8 × α)} {f : List UInt8} {p : α} (h : mGet mp f = none) : mPut mp f p = mp ++ [(f, p)] := by
  unfold mPut; rw [mGet_none h]
theorem gat_ne {r : Rl} (H : RO r) {n : List UInt8} (h : gat r.us n ≠ none) : n ≠ [] := by
  obtain ⟨g, h1, h2⟩ := gat_mem.1 h
  have := (chkG_ok (H.chk g h1)).1.1
  rw [h2] at this
  intro e
  rw [e] at this
  exact absurd this.1 (by decide)
variable [Flag]
theorem chain_ok {h0 : AH} (w : WfH h0) {p : Nat} {r : Rl} (B : BkRd h0 p r) (H : RO r) (a b : List UInt8) : Fn Tryz.prog Xh 29 [.pointer (some ⟨p, 0, none⟩), str a, str b] h0 (fun u h' => (∃ v P, u = .tuple #[v, .bool true] ∧ Hs h0 h' [.sl v 9 1 eS P] ∧ gat r.us a ≠ none ∧ gat r.us b ≠ none ∧ ChainOk r a b P ∧ P.length ≤ 64) ∨ (u = .tuple #[.slice none 0 0, .bool false] ∧ (gat r.us a ≠ none → gat r.us b ≠ none → ∀ Q, ¬ Pth r a Q b) ∧ Hs h0 h' [])) := by
  have S := Hs.start w
  have B0 := B
  obtain ⟨s, B⟩ := B
  have hb := B.bk
  have h64 := H.l64
  have hmp := B.mp
  refine Fn_K rfl Tryz.func29 rfl rfl ?_
  all_goals (repeat' (first | refine K_seq ?_ | (refine K_region (id := 0) ?_; refine mv ?_; refine mv ?_; refine KO_nil ?_) | (refine K_region (id := 1) ?_; refine mv ?_)))
  (refine KO_fn rfl rfl rfl rfl rfl ((bnone_ok S.wf (S.ext.get w hb)).mono ?_); rintro _ h ⟨rfl, x⟩) <;> (replace S := S.join0 x; clear x; refine KO_nil ?_)
  all_goals (repeat' (first | refine K_seq ?_ | refine k_cond rfl ?_ | refine K_skip ?_ | (refine K_region (id := 3) ?_; refine mv ?_; refine vl ?_; refine vl ?_; refine lH S ?_; refine mv ?_)))
  have hmp1 := hmp.ext w S.ext
  refine lkR hmp1 (fun i hi => ?_) (fun hi => ?_)
  all_goals rw [B.at_ a] at hi
  all_goals simp only [okV]
  all_goals (refine mv ?_; refine vl ?_; refine vl ?_; refine mv ?_; refine mv ?_; refine KO_nil ?_)
  all_goals (all_goals (repeat' (first | refine K_seq ?_ | (refine K_region (id := 4) ?_; refine mv ?_; refine vl ?_; refine vl ?_; refine lH S ?_; refine mv ?_))))
  all_goals (refine lkR hmp1 (fun j hj => ?_) (fun hj => ?_))
  all_goals rw [B.at_ b] at hj
  all_goals simp only [okV]
  all_goals (refine mv ?_; refine vl ?_; refine vl ?_; refine mv ?_; refine mv ?_; refine KO_nil ?_)
  all_goals (skip)
  all_goals (all_goals (repeat' (first | refine K_seq ?_ | refine k_cond rfl ?_ | refine K_skip ?_ | (refine K_region (id := 5) ?_; refine mv ?_; refine vl ?_; refine mv ?_; (first | refine off ?_ | refine mv ?_); (first | refine off ?_ | refine vl ?_); refine vl ?_; refine KO_nil ?_) | (refine K_region (id := 6) ?_; refine mv ?_; refine mv ?_; refine KO_nil ?_))))
  rotate_left
  · refine K_ret ⟨_, rfl, ?_⟩
    exact .inr ⟨rfl, fun _ q => absurd (by cases hq : gat r.us b with | none => rfl | some i => rw [hq] at hj; cases hj) q, S.drop⟩
  · refine K_ret ⟨_, rfl, ?_⟩
    exact .inr ⟨rfl, fun q _ => absurd (by cases hq : gat r.us a with | none => rfl | some i => rw [hq] at hi; cases hi) q, S.drop⟩
  · refine K_ret ⟨_, rfl, ?_⟩
    exact .inr ⟨rfl, fun q _ => absurd (by cases hq : gat r.us a with | none => rfl | some i => rw [hq] at hi; cases hi) q, S.drop⟩
  have hak : gat r.us a ≠ none := fun q => by rw [q] at hi; cases hi
  have hbk : gat r.us b ≠ none := fun q => by rw [q] at hj; cases hj
  clear hi hj
  skip
  all_goals (repeat' (first | (refine K_region (id := 7) ?_; refine mv ?_)))
  (refine KO_fn rfl rfl rfl rfl rfl ((bnames_ok S.wf (B0.ext w S.ext) H).mono ?_); rintro un h ⟨ns, x, n1, n2, n3⟩) <;> (replace S := S.join1 x; clear x; refine mv ?_; refine KO_nil ?_)
  all_goals (repeat' (first | refine K_seq ?_ | (refine K_region (id := 8) ?_; skip)))
  refine mkm (α := List UInt8) str S ?_; clear S; intro m h S; (refine mv ?_)
  refine up (x := ([] : List UInt8)) (key := a) S .here .here (fun h S => ?_) (.inr rfl)
  (refine mv ?_; refine mv ?_; refine KO_nil ?_)
  all_goals (repeat' (first | refine K_seq ?_ | refine k_block ?_ | (refine K_region (id := 9) ?_; refine mv ?_; (refine one 1 S ?_; clear S; intro u h S); refine mv ?_; refine KO_nil ?_)))
  have S := S.one_ (enc := eS) (x := a)
  have S := (show Hs h0 h [.sl u 9 1 eS [a], .mp m str [(a, [])], .sl un 9 1 eS ns] from S)
  refine k_loop (σ := Nat × NMap × (Nat → Nat) × Value) (fun (k, mp, pa, v14) h' => Hs h0 h' [.sl v14 9 1 eS ((mp.map (·.1)).drop k), .mp m str mp, .sl un 9 1 eS ns] ∧ BI r a mp pa k ∧ (∀ i, i < k → nmA mp i ≠ b)) (fun (k, mp, pa, v14) => 65 - k) (fun (k, mp, pa, v14) => [(0, .pointer (some ⟨p, 0, none⟩)), (2, str b), (12, un), (13, .map (some m)), (14, v14)]) (0, [(a, [])], (fun _ => 0), u) (by repeat (first | exact Ks.le_nil _ | refine Ks.le_cons rfl ?_)) ?_ ?_
  · exact ⟨S, BI.one hak, fun i hi => absurd hi (Nat.not_lt_zero _)⟩
  clear S
  rintro ⟨k, mp, pa, v14⟩ h ⟨S, I, hno⟩
  have hml := I.c.len H
  have hle := I.le
  have hdl : ((mp.map (·.1)).drop k).length = mp.length - k := by simp
  all_goals (repeat' (first | refine K_seq ?_ | refine k_cond rfl ?_ | refine K_skip ?_ | refine K_exit ?_ | (refine K_region (id := 10) ?_; refine mv ?_; refine lnS S rfl rfl ?_; (first | (refine cS ?_ ?_ <;> intro hc)) <;> (refine KO_nil ?_))))
  · have hk : k < mp.length := by omega
    (repeat (refine K_seq ?_)); first | refine K_join1 (σ := NMap × (Nat → Nat) × Value) (fun (mp, pa, v14) h' => Hs h0 h' [.sl v14 9 1 eS ((mp.map (·.1)).drop k), .mp m str mp, .sl un 9 1 eS ns] ∧ BI r a mp pa (k + 1) ∧ (∀ i, i < k + 1 → nmA mp i ≠ b)) (fun (mp, pa, v14) => [(0, .pointer (some ⟨p, 0, none⟩)), (2, str b), (12, un), (13, .map (some m)), (14, v14)]) ?_ ?_
    · all_goals (repeat' (first | refine K_seq ?_ | refine k_block ?_))
      all_goals (repeat' (first | refine K_seq ?_ | refine k_cond rfl ?_ | refine K_skip ?_ | (refine K_region (id := 12) ?_; refine mv ?_; refine ixS2 S rfl rfl ?_; refine lES2 S rfl rfl ?_; refine mv ?_; (refine tS ?_ ?_ <;> intro hc) <;> (refine KO_nil ?_))))
      all_goals (simp only [Int.toNat_zero, drop_get0] at *)
      · all_goals (repeat' (first | refine K_seq ?_ | (refine K_region (id := 13) ?_; refine mv ?_; refine KO_nil ?_)))
        have S := S.nilS (e := 9) (z := 1) (enc := eS)
        have S := (show Hs h0 h [.sl (.slice none 0 0) 9 1 eS [], .mp m str mp] from S.pick)
        all_goals (repeat' (first | refine k_block ?_ | (refine K_region (id := 14) ?_; refine mv ?_; refine mv ?_; refine KO_nil ?_)))
        refine k_loop (σ := Value × List (List UInt8) × List (List UInt8) × List UInt8) (fun (v15, L, T, n) h' => Hs h0 h' [.sl v15 9 1 eS L, .mp m str mp] ∧ tpth mp pa k = T ++ L.reverse ∧ ((T = [] ∧ n = []) ∨ ∃ j, j < mp.length ∧ T = tpth mp pa j ∧ n = nmA mp j)) (fun (v15, L, T, n) => T.length) (fun (v15, L, T, n) => [(13, .map (some m)), (15, v15), (16, str n)]) (.slice none 0 0, [], tpth mp pa k, b) (by repeat (first | exact Ks.le_nil _ | refine Ks.le_cons rfl ?_)) ?_ ?_
        · exact ⟨S, by simp, .inr ⟨k, hk, rfl, hc.symm⟩⟩
        clear S
        rintro ⟨v15, L, T, n⟩ h ⟨S, e1, e2⟩
        have htl := tpth_len mp pa k
        have hLl : L.length ≤ 65 := by
          have := congrArg List.length e1
          simp at this; omega
        all_goals (repeat' (first | refine K_seq ?_ | refine k_cond rfl ?_ | refine K_skip ?_ | refine K_exit ?_ | refine k_block ?_ | (refine K_region (id := 15) ?_; refine mv ?_; (refine tS ?_ ?_ <;> intro hc) <;> (refine KO_nil ?_))))
        · have hT : T = [] := by
            rcases e2 with ⟨h1, h2⟩ | ⟨j, j1, j2, j3⟩
            · exact h1
            · exact absurd (j3.symm.trans (by assumption)) (gat_ne H (I.c.kn j j1))
          rw [hT, List.nil_append] at e1
          skip
          all_goals (repeat' (first | (refine K_region (id := 18) ?_; refine mv ?_)))
          (refine KO_fn rfl rfl rfl rfl rfl ((reverse_ok S (by omega)).mono ?_); rintro _ h S) <;> (refine KO_nil ?_)
          all_goals (repeat' (first | refine K_seq ?_ | (refine K_region (id := 19) ?_; refine mv ?_; refine mv ?_; refine mv ?_; refine KO_nil ?_)))
          refine K_ret ⟨_, rfl, ?_⟩
          have hf := I.found hk
          rw [‹nmA mp k = b›, e1] at hf
          exact .inl ⟨v15, _, rfl, S.only .here, hak, hbk, hf, by rw [← e1]; omega⟩
        · obtain ⟨j, j1, j2, j3⟩ := e2.resolve_left (fun q => absurd q.2 (by assumption))
          skip
          all_goals (repeat' (first | (refine K_region (id := 17) ?_; refine mv ?_; refine mv ?_; (refine one 1 S ?_; clear S; intro u h S))))
          refine app (y0 := n) S rfl rfl ?_; clear S; intro v15 h S; (refine mv ?_; refine KO_nil ?_)
          all_goals (repeat' (first | (refine K_region (id := 16) ?_; refine mv ?_; refine mv ?_)))
          have hg := mGet_nd I.c.nd j1
          rw [← j3] at hg
          refine lk S (.there .here) (fun y hy => ?_) (fun hy => by rw [hg] at hy; cases hy)
          rw [hg] at hy; cases hy
          simp only [okV]
          (refine mv ?_; refine KO_nil ?_)
          rcases Nat.eq_zero_or_pos j with z | z
          · subst z
            rw [tpth0] at j2
            rw [I.c.f0]
            refine ⟨(v15, L ++ [n], [], []), ?_, ?_, (by repeat (first | exact Ks.le_nil _ | refine Ks.le_cons rfl ?_))⟩
            · show ([] : List (List UInt8)).length < T.length
              rw [j2]; simp
            · refine ⟨S, ?_, .inl ⟨rfl, rfl⟩⟩
              rw [e1, j2, j3]; simp
          · have hp := (I.c.fr j z j1).1
            rw [I.c.step z j1] at j2
            rw [hp]
            refine ⟨(v15, L ++ [n], tpth mp pa (pa j), nmA mp (pa j)), ?_, ?_, (by repeat (first | exact Ks.le_nil _ | refine Ks.le_cons rfl ?_))⟩
            · show (tpth mp pa (pa j)).length < T.length
              rw [j2]; simp
            · have := I.c.lt j z j1
              refine ⟨S, ?_, .inr ⟨pa j, by omega, rfl, rfl⟩⟩
              rw [e1, j2, j3]; simp
      · have J0' := I.start (ns := ns) hk
        all_goals (repeat' (first | refine k_block ?_ | (refine K_region (id := 20) ?_; refine mv ?_; refine lnS S rfl rfl ?_; refine mv ?_; refine KO_nil ?_)))
        refine k_loop (σ := Nat × NMap × (Nat → Nat) × Value) (fun (i, mp, pa, v14) h' => Hs h0 h' [.sl v14 9 1 eS ((mp.map (·.1)).drop k), .mp m str mp, .sl un 9 1 eS ns] ∧ i ≤ ns.length ∧ BJ r ns a mp pa k i ∧ (∀ i, i < k + 1 → nmA mp i ≠ b)) (fun (i, mp, pa, v14) => ns.length - i) (fun (i, mp, pa, v14) => [(0, .pointer (some ⟨p, 0, none⟩)), (2, str b), (12, un), (13, .map (some m)), (14, v14), (77, un), (78, .int .i64 ns.length), (79, .int .i64 i)]) (0, mp, pa, v14) (by repeat (first | exact Ks.le_nil _ | refine Ks.le_cons rfl ?_)) ?_ ?_
        · exact ⟨S, Nat.zero_le _, J0', nxtD hno hc⟩
        clear S I hno hml hle hdl hc J0' hk
        rintro ⟨i, mp, pa, v14⟩ h ⟨S, i1, J, hno⟩
        have hml := J.c.len H
        have hk := J.lt
        have hdl : ((mp.map (·.1)).drop k).length = mp.length - k := by simp
        all_goals (repeat' (first | refine K_seq ?_ | refine k_cond rfl ?_ | refine K_skip ?_ | refine K_exit ?_ | refine k_block ?_ | (refine K_region (id := 21) ?_; (first | (refine cS ?_ ?_ <;> intro hc)) <;> (refine KO_nil ?_))))
        · have hil : i < ns.length := by omega
          obtain ⟨n, hn⟩ : ∃ n, ns.getD i default = n := ⟨_, rfl⟩
          all_goals (repeat' (first | refine K_seq ?_ | (refine K_region (id := 22) ?_; refine ixS2 S rfl rfl ?_; refine lES2 S rfl rfl ?_; refine mv ?_; refine KO_nil ?_) | (refine K_region (id := 23) ?_; refine mv ?_; refine mv ?_)))
          simp only [Int.toNat_natCast, hn]
          refine lk S (.there .here) (fun y hy => ?_) (fun hy => ?_)
          · simp only [okV]
            (refine mv ?_; refine vl ?_; refine vl ?_; refine mv ?_; refine mv ?_; refine KO_nil ?_)
            all_goals (repeat' (first | refine K_seq ?_ | refine k_cond rfl ?_ | refine K_skip ?_ | (refine K_region (id := 24) ?_; refine mv ?_; refine vl ?_; refine mv ?_; refine off ?_; refine off ?_; refine off ?_; refine off ?_; refine off ?_; (first | (refine off ?_; refine off ?_; (refine off ?_) <;> (refine vl ?_; refine KO_nil ?_))))))
            all_goals (repeat' (first | (refine K_region (id := 27) ?_; refine ad ?_; refine mv ?_; refine KO_nil ?_)))
            refine ⟨(i + 1, mp, pa, v14), ?_, ?_, (by repeat (first | exact Ks.le_nil _ | refine Ks.le_cons rfl ?_))⟩
            · show ns.length - (i + 1) < ns.length - i; omega
            · have hnm : mGet mp n ≠ none := by rw [hy]; simp
              exact ⟨S, hil, J.skip (.inl (by rw [hn]; exact hnm)) (fun _ => by rw [hn]; exact mGet_mem.1 hnm), hno⟩
          · simp only [okV]
            (refine mv ?_; refine vl ?_; refine vl ?_; refine mv ?_; refine mv ?_; refine KO_nil ?_)
            skip
            all_goals (repeat' (first | refine K_seq ?_ | (refine K_region (id := 24) ?_; refine mv ?_; refine vl ?_; refine mv ?_; refine mv ?_; refine mv ?_; (first | (refine ixS2 S rfl rfl ?_)); (first | (refine lES2 S rfl rfl ?_)); refine mv ?_; (skip))))
            simp only [Int.toNat_zero, drop_get0] at *
            (refine KO_fn rfl rfl rfl rfl rfl ((common_ok S.wf (B0.ext w S.ext) H (nmA mp k) n).mono ?_); rintro uc h ⟨lc, x, c1, c2⟩) <;> (replace S := S.join1 x; clear x; (first | (refine lnS S rfl rfl ?_)); (first | (first | (refine cS ?_ ?_ <;> intro hc))) <;> (refine vl ?_; refine KO_nil ?_))
            all_goals (repeat' (first | refine K_seq ?_ | refine k_cond rfl ?_ | refine K_skip ?_))
            · have hsp : spk r (nmA mp k) n := comF_spk.1 (by rw [← c1]; omega)
              all_goals (repeat' (first | (refine K_region (id := 25) ?_; refine mv ?_; refine mv ?_; refine mv ?_; refine ixS2 S rfl rfl ?_; refine lES2 S rfl rfl ?_)))
              simp only [Int.toNat_zero, drop_get0]
              refine up (x := nmA mp k) (key := n) S (.there (.there .here)) (.there (.there .here)) (fun h S => ?_) (.inl rfl)
              (refine KO_nil ?_)
              all_goals (repeat' (first | (refine K_region (id := 26) ?_; refine mv ?_; refine mv ?_; (refine one 1 S ?_; clear S; intro u h S))))
              refine app (y0 := n) S rfl rfl ?_; clear S; intro v14 h S; (refine mv ?_; refine KO_nil ?_)
              skip
              all_goals (repeat' (first | (refine K_region (id := 27) ?_; refine ad ?_; refine mv ?_; refine KO_nil ?_)))
              rw [mPut_new hy] at S
              have J2 := J.add n1 hil (by rw [hn]; exact fun q => mGet_mem.2 q hy) (by rw [hn]; exact hsp)
              rw [hn] at J2
              refine ⟨(i + 1, mp ++ [(n, nmA mp k)], paU pa mp.length k, v14), ?_, ?_, (by repeat (first | exact Ks.le_nil _ | refine Ks.le_cons rfl ?_))⟩
              · show ns.length - (i + 1) < ns.length - i; omega
              · refine ⟨?_, hil, J2, fun z hz => ?_⟩
                · have ed : ((mp ++ [(n, nmA mp k)]).map (·.1)).drop k = (mp.map (·.1)).drop k ++ [n] := by
                    rw [List.map_append, List.drop_append_of_le_length (by simp; omega)]; rfl
                  show Hs h0 h [.sl v14 9 1 eS (((mp ++ [(n, nmA mp k)]).map (·.1)).drop k), .mp m str (mp ++ [(n, nmA mp k)]), .sl un 9 1 eS ns]
                  rw [ed]
                  exact S.pick
                · have : nmA (mp ++ [(n, nmA mp k)]) z = nmA mp z := by unfold nmA; rw [gA1 (by omega)]
                  dsimp only
                  rw [this]; exact hno z hz
            · have hsp : ¬ spk r (nmA mp k) n := fun q => by
                have := comF_spk.2 q
                rw [← c1] at this; omega
              skip
              all_goals (repeat' (first | (refine K_region (id := 27) ?_; refine ad ?_; refine mv ?_; refine KO_nil ?_)))
              refine ⟨(i + 1, mp, pa, v14), ?_, ?_, (by repeat (first | exact Ks.le_nil _ | refine Ks.le_cons rfl ?_))⟩
              · show ns.length - (i + 1) < ns.length - i; omega
              · exact ⟨S.pick, hil, J.skip (.inr (by rw [hn]; exact hsp)) (fun q => by rw [hn] at q; exact absurd hy q), hno⟩
        · obtain rfl : i = ns.length := by omega
          exact ⟨(mp, pa, v14), ⟨S.pick, J.fin fun y hy => (n2 y).2 hy, hno⟩, ((by repeat (first | exact Ks.le_nil _ | refine Ks.le_cons rfl ?_)))⟩
    · clear S I hno hml hle hdl hk
      rintro ⟨mp, pa, v14⟩ h ⟨S, I, hno⟩
      have hml := I.c.len H
      have hle := I.le
      skip
      all_goals (repeat' (first | (refine K_region (id := 11) ?_; refine mv ?_; (refine dr S rfl rfl ?_; clear S; intro vq S); refine mv ?_; refine KO_nil ?_)))
      refine ⟨(k + 1, mp, pa, vq), ?_, ?_, (by repeat (first | exact Ks.le_nil _ | refine Ks.le_cons rfl ?_))⟩
      · show 65 - (k + 1) < 65 - k; omega
      · refine ⟨?_, I, hno⟩
        (try dsimp only)
        rw [show ((mp.map (·.1)).drop (k + 1)) = ((mp.map (·.1)).drop k).drop (Int.toNat 1) from by rw [List.drop_drop]; rfl]
        exact S.pick
  · have hk : k = mp.length := by omega
    subst hk
    skip
    all_goals (repeat' (first | (refine K_region (id := 28) ?_; refine mv ?_; refine mv ?_; refine KO_nil ?_)))
    refine K_ret ⟨_, rfl, ?_⟩
    exact .inr ⟨rfl, fun _ _ => I.lost hno, S.drop⟩
end Go.Proofs.Xx

/-
  Rolls of numbers.
-/
namespace Go.Proofs.Xx
open Go Go.Proofs
set_option linter.unusedSimpArgs false
set_option linter.unusedVariables false
set_option linter.unusedSectionVars false
set_option maxRecDepth 100000
set_option maxHeartbeats 4000000

/-- Numbers of 16 bits. -/
def e16 (x : Nat) : List Value := [.int .u16 x]
/-- A guest of numbers, but for its tongues. -/
def MdG (g : Gu) (i : Nat) : Prop := g.name = num (25 * i) ∧ someP g.rank ∧ someP g.court ∧ someP g.diet ∧ (0 ≤ g.since ∧ g.since ≤ 9999) ∧ (0 ≤ g.side ∧ g.side ≤ 2)
/-- Its tongues, behind k of them. -/
def MdT (l : List (List UInt8)) (k : Nat) : Prop := l.length ≤ k ∧ (∀ j, j < l.length → ∃ m, m < k ∧ l.getD j default = num m) ∧ ∀ j, j + 1 < l.length → sLt (l.getD j default) (l.getD (j + 1) default)
theorem MdT.next {l : List (List UInt8)} {k : Nat} (h : MdT l k) : MdT l (k + 1) := ⟨by have := h.1; omega, fun j hj => by obtain ⟨m, h1, h2⟩ := h.2.1 j hj; exact ⟨m, by omega, h2⟩, h.2.2⟩
theorem MdT.app {l : List (List UInt8)} {k : Nat} (h : MdT l k) (hk : k < 4) : MdT (l ++ [num k]) (k + 1) := by
  refine ⟨by simp; exact h.1, fun j hj => ?_, fun j hj => ?_⟩
  · simp at hj
    rcases Nat.lt_or_ge j l.length with q | q
    · rw [gA1 q]; exact h.next.2.1 j q
    · obtain rfl : j = l.length := by omega
      rw [gA2 (Nat.le_refl _), Nat.sub_self]; exact ⟨k, by omega, rfl⟩
  · simp at hj
    rw [gA1 (show j < l.length by omega)]
    rcases Nat.lt_or_ge (j + 1) l.length with q | q
    · rw [gA1 q]; exact h.2.2 j q
    · rw [gA2 q, show j + 1 - l.length = 0 by omega]
      obtain ⟨m, h1, h2⟩ := h.2.1 j (by omega)
      rw [h2]; exact (num_lt (by omega) (by omega)).2 h1
abbrev MdR (q q4 : Nat) (gs : List Gst) (vg : SlV) : List Rs := [tgR gs, .sl vg.val 24 9 eG gs, .blk q [vg.val, .slice none 0 0] 32, .blk q4 [.slice none 0 0, .slice none 0 0] 32]
abbrev MdI (h0 : AH) (q q4 : Nat) (la : List Nat) (gs : List Gst) (vg : SlV) (h : AH) : Prop := Hs h0 h (MdR q q4 gs vg) ∧ gs.length ≤ 12 ∧ gs.length ≤ la.length ∧ ∀ i, i < gs.length → MdG (gs.getD i default).toGu i ∧ MdT (gs.getD i default).tg 4
abbrev MdJ (h0 : AH) (q q4 : Nat) (gs : List Gst) (vg : SlV) (k : Nat) (b : Nat) (g : Gst) (h : AH) : Prop := Hs h0 h (.blk b (eG g) 24 :: .sl g.tv.val 9 1 eS g.tg :: MdR q q4 gs vg) ∧ MdG g.toGu gs.length ∧ MdT g.tg k
/-- The ties so far. -/
def TI (us : List Gu) (ts : List Ti) (i k : Nat) : Prop := TS ts ∧ (∀ t ∈ ts, sLt t.a t.b ∧ (t.k = 1 ∨ t.k = 2) ∧ gat us t.a ≠ none ∧ gat us t.b ≠ none) ∧ (∀ t ∈ ts, sLt t.a (num i) ∨ (t.a = num i ∧ sLt t.b (num k))) ∧ ts.length ≤ 13 * ((i + 24) / 25) + (if i % 25 = 0 then (k + 24) / 25 else 0)
def TIo (us : List Gu) (ts : List Ti) (i : Nat) : Prop := TS ts ∧ (∀ t ∈ ts, sLt t.a t.b ∧ (t.k = 1 ∨ t.k = 2) ∧ gat us t.a ≠ none ∧ gat us t.b ≠ none) ∧ (∀ t ∈ ts, sLt t.a (num i)) ∧ ts.length ≤ 13 * ((i + 24) / 25)
theorem TI.out {us : List Gu} {ts : List Ti} {i k : Nat} (h : TI us ts i k) (hi : i < 312) (hk : k ≤ 312) : TIo us ts (i + 1) := by
  refine ⟨h.1, h.2.1, fun t ht => ?_, ?_⟩
  · have := (num_lt (i := i) (j := i + 1) (by omega) (by omega)).2 (by omega)
    rcases h.2.2.1 t ht with q | q
    · exact sLt_trans q this
    · rw [q.1]; exact this
  · have := h.2.2.2
    split at this <;> omega
theorem TI.next {us : List Gu} {ts : List Ti} {i k : Nat} (h : TI us ts i k) (hk : k < 312) : TI us ts i (k + 1) := by
  refine ⟨h.1, h.2.1, fun t ht => ?_, ?_⟩
  · rcases h.2.2.1 t ht with q | q
    · exact .inl q
    · exact .inr ⟨q.1, sLt_trans q.2 ((num_lt (by omega) (by omega)).2 (by omega))⟩
  · have := h.2.2.2
    split at this <;> split <;> omega
theorem TI.app {us : List Gu} {ts : List Ti} {i k : Nat} {z : Int} (h : TI us ts i k) (hik : i < k) (hk : k < 312) (hz : z = 1 ∨ z = 2) (hi2 : i % 25 = 0) (hk2 : k % 25 = 0) (g1 : gat us (num i) ≠ none) (g2 : gat us (num k) ≠ none) : TI us (ts ++ [⟨num i, num k, z⟩]) i (k + 1) := by
  refine ⟨h.1.app fun j hj => ?_, fun t ht => ?_, fun t ht => ?_, ?_⟩
  · exact h.2.2.1 _ (mem_getD hj)
  · rcases List.mem_append.1 ht with q | q
    · exact h.2.1 t q
    · obtain rfl := List.mem_singleton.1 q
      exact ⟨(num_lt (by omega) (by omega)).2 hik, hz, g1, g2⟩
  · rcases List.mem_append.1 ht with q | q
    · exact (h.next hk).2.2.1 t q
    · obtain rfl := List.mem_singleton.1 q
      exact .inr ⟨rfl, (num_lt (by omega) (by omega)).2 (by omega)⟩
  · have := h.2.2.2
    rw [if_pos hi2] at this ⊢
    simp; omega
abbrev MdQ (q q4 : Nat) (gs : List Gst) (vg : SlV) (ts : List Ti) (vt : SlV) : List Rs := [.sl vg.val 24 9 eG gs, .blk q4 [.slice none 0 0, .slice none 0 0] 32, tgR gs, .blk q [vg.val, vt.val] 32, .sl vt.val 111 3 eTi ts]
variable [Flag]
end Go.Proofs.Xx

/-
  Circles, all of them.
-/
namespace Go.Proofs.Xx
open Go Go.Proofs
set_option linter.unusedSimpArgs false
set_option linter.unusedVariables false
set_option linter.unusedSectionVars false
set_option maxRecDepth 100000
set_option maxHeartbeats 4000000

/-- Words of a row of rows. -/
structure Wd where
  sv : SlV
  ws : List (List UInt8)
instance : Inhabited Wd := ⟨⟨⟨none, 0, 0⟩, []⟩⟩
def eWd (w : Wd) : List Value := [w.sv.val]
def WdsOk (cs : List Wd) (h : AH) (fp : Fp) : Prop := ∀ w ∈ cs, (Rs.rd w.sv.val 1 eS w.ws).ok h fp
abbrev wdR (cs : List Wd) : Rs := .any (WdsOk cs)
theorem WdsOk.rd {h : AH} {fp : Fp} {cs : List Wd} (k : WdsOk cs h fp) {i : Nat} (hi : i < cs.length) : RdL h (cs.getD i default).sv.val 1 eS (cs.getD i default).ws := by
  have q := k _ (mem_getD hi)
  rcases q with ⟨q1, q2⟩ | ⟨b, o, cap, cc, e, s, r, q1, q2, q3, q4⟩
  · exact .inl ⟨q1, by rw [q2]; rfl, by rw [q2]; rfl⟩
  · exact .inr ⟨b, o, cap, cc, e, s, r, q1, q2, q4⟩
/-- The circles, in order. -/
structure CirOk (r : Rl) (L : List Wd) : Prop where
  ss : ∀ w ∈ L, SS w.ws ∧ w.ws ≠ [] ∧ ∀ x, x ∈ w.ws ↔ (gat r.us (w.ws.getD 0 default) ≠ none ∧ Rch r 1 (w.ws.getD 0 default) x)
  hd : ∀ i j, i < j → j < L.length → sLt ((L.getD i default).ws.getD 0 default) ((L.getD j default).ws.getD 0 default)
theorem Rch.known {r : Rl} (H : RO r) {k : Int} {n x : List UInt8} (h : Rch r k n x) (hn : gat r.us n ≠ none) : gat r.us x ≠ none := by
  induction h with
  | refl => exact hn
  | step h a ih => exact (adj_known H a).2.1
theorem Rch.closed {r : Rl} {k : Int} {n x : List UInt8} {M : List UInt8 → Prop} (h : Rch r k n x) (hn : M n) (hc : ∀ x, M x → ∀ y, adj r k x y → M y) : M x := by
  induction h with
  | refl => exact hn
  | step h a ih => exact hc _ ih _ a
theorem SS.le {l : List (List UInt8)} (h : SS l) {i j : Nat} (hij : i ≤ j) (hj : j < l.length) : ¬ sLt (l.getD j default) (l.getD i default) := by
  rcases Nat.lt_or_ge i j with q | q
  · exact sLt_asymm (h i j q hj)
  · obtain rfl : i = j := by omega
    exact sLt_irr _
abbrev cirS (p b4 b5 b1 b6 m : Nat) (mp : List (List UInt8 × Bool)) (vc : SlV) (u : Value) (ns : List (List UInt8)) (v3 : Value) (cs : List Wd) : List Rs :=
  [.sl u 9 1 eS ns, .blk b4 [.map (some m)] 112, .mp m .bool mp, .blk b5 [vc.val] 22, .blk b1 [.pointer (some ⟨p, 0, none⟩)] 40, .blk b6 [cvJ b4 b5 b1 b6] 113, .sl v3 22 1 eWd cs, wdR cs]
/-- What holds while the names are gone through. -/
structure CirI (r : Rl) (ns : List (List UInt8)) (i : Nat) (M : List (List UInt8)) (cs : List Wd) : Prop where
  mem : ∀ x, x ∈ M ↔ ∃ w ∈ cs, x ∈ w.ws
  cl : ∀ x ∈ M, ∀ y, adj r 1 x y → y ∈ M
  nm : ∀ j, j < i → ns.getD j default ∈ M
  ok : CirOk r cs
  hd : ∀ j, j < cs.length → ∃ k, k < i ∧ (cs.getD j default).ws.getD 0 default = ns.getD k default
  ln : cs.length ≤ i
theorem CirI.next {r : Rl} (H : RO r) {ns : List (List UInt8)} (hs : SS ns) (hns : ∀ x, x ∈ ns ↔ gat r.us x ≠ none) {i : Nat} (hi : i < ns.length) {M N N' : List (List UInt8)} {cs : List Wd} {v : SlV} (I : CirI r ns i M cs) (D : Dfs r M (ns.getD i default) N) (hn : ns.getD i default ∉ M) (hS : SS N') (hN : ∀ x, x ∈ N' ↔ x ∈ N) : CirI r ns (i + 1) (M ++ N) (cs ++ [⟨v, N'⟩]) := by
  have hk : gat r.us (ns.getD i default) ≠ none := (hns _).1 (mem_getD hi)
  have hself : ns.getD i default ∈ N := D.self.elim (fun q => absurd q hn) id
  have hcomp : ∀ x, Rch r 1 (ns.getD i default) x → x ∈ N := fun x hx => by
    have : x ∈ M ∨ x ∈ N := hx.closed (M := fun x => x ∈ M ∨ x ∈ N) (.inr hself) fun x h y a => by
      rcases h with h | h
      · exact .inl (I.cl x h y a)
      · exact D.cl x h y a
    rcases this with q | q
    · exact absurd (hx.symm.closed (M := fun x => x ∈ M) q I.cl) hn
    · exact q
  have hlen : 0 < N'.length := List.length_pos_of_mem ((hN _).2 hself)
  have h0 : N'.getD 0 default = ns.getD i default := by
    obtain ⟨j, j1, j2⟩ := mem_iff_getD.1 ((hN _).2 hself)
    have le1 := hS.le (Nat.zero_le j) j1
    rw [j2] at le1
    have hm0 := (hN _).1 (mem_getD hlen)
    obtain ⟨k, k1, k2⟩ := mem_iff_getD.1 ((hns _).2 (D.kn _ hm0))
    have hki : i ≤ k := by
      apply Classical.byContradiction
      intro q
      exact D.dj _ hm0 (k2 ▸ I.nm k (by omega))
    have le2 := hs.le hki k1
    rw [k2] at le2
    rcases sLe_of le1 with q | q
    · exact q
    · exact absurd q le2
  refine ⟨fun x => ?_, fun x hx y a => ?_, nxtD (fun j hj => List.mem_append.2 (.inl (I.nm j hj))) (List.mem_append.2 (.inr hself)), ⟨fun w hw => ?_, fun j k hjk hk2 => ?_⟩, fun j hj => ?_, by simp; exact I.ln⟩
  · rw [List.mem_append, I.mem]
    constructor
    · rintro (⟨w, h1, h2⟩ | h)
      · exact ⟨w, by simp [h1], h2⟩
      · exact ⟨⟨v, N'⟩, by simp, (hN x).2 h⟩
    · rintro ⟨w, h1, h2⟩
      rcases List.mem_append.1 h1 with q | q
      · exact .inl ⟨w, q, h2⟩
      · rw [List.mem_singleton.1 q] at h2; exact .inr ((hN x).1 h2)
  · rw [List.mem_append] at hx ⊢
    rcases hx with q | q
    · exact .inl (I.cl x q y a)
    · exact D.cl x q y a
  · rcases List.mem_append.1 hw with q | q
    · exact I.ok.ss w q
    · rw [List.mem_singleton.1 q]
      refine ⟨hS, fun e => ?_, fun x => ?_⟩
      · simp only at e; rw [e] at hlen; exact absurd hlen (by simp)
      · simp only [h0, hN]
        exact ⟨fun h => ⟨hk, D.rc x h⟩, fun h => hcomp x h.2⟩
  · simp only [List.length_append, List.length_singleton] at hk2
    rw [gA1 (show j < cs.length by omega)]
    rcases Nat.lt_or_ge k cs.length with q | q
    · rw [gA1 q]; exact I.ok.hd j k hjk q
    · rw [gA2 q, show k - cs.length = 0 by omega]
      show sLt _ (N'.getD 0 default)
      rw [h0]
      obtain ⟨z, z1, z2⟩ := I.hd j (by omega)
      rw [z2]; exact hs z i z1 hi
  · simp only [List.length_append, List.length_singleton] at hj
    rcases Nat.lt_or_ge j cs.length with q | q
    · obtain ⟨z, z1, z2⟩ := I.hd j q
      exact ⟨z, by omega, by rw [gA1 q]; exact z2⟩
    · rw [gA2 q, show j - cs.length = 0 by omega]
      exact ⟨i, by omega, h0⟩
variable [Flag]
end Go.Proofs.Xx

/-
  BookCircles.
-/
namespace Go.Proofs.Xx
open Go Go.Proofs
set_option linter.unusedSimpArgs false
set_option linter.unusedVariables false
set_option linter.unusedSectionVars false
set_option maxRecDepth 100000
set_option maxHeartbeats 4000000

theorem CirOk.same {r : Rl} (H : RO r) {cs : List Wd} (C : CirOk r cs) {i j : Nat} (hi : i < cs.length) (hj : j < cs.length) {x : List UInt8} (h1 : x ∈ (cs.getD i default).ws) (h2 : x ∈ (cs.getD j default).ws) : i = j := by
  have key : ∀ i j, i < cs.length → j < cs.length → x ∈ (cs.getD i default).ws → x ∈ (cs.getD j default).ws → ¬ sLt ((cs.getD j default).ws.getD 0 default) ((cs.getD i default).ws.getD 0 default) := fun i j hi hj h1 h2 => by
    obtain ⟨a1, a2, a3⟩ := C.ss _ (mem_getD hi)
    obtain ⟨b1, b2, b3⟩ := C.ss _ (mem_getD hj)
    obtain ⟨k1, r1⟩ := (a3 x).1 h1
    obtain ⟨k2, r2⟩ := (b3 x).1 h2
    have hm : (cs.getD j default).ws.getD 0 default ∈ (cs.getD i default).ws := (a3 _).2 ⟨k1, r1.trans r2.symm⟩
    obtain ⟨z, z1, z2⟩ := mem_iff_getD.1 hm
    have := a1.le (Nat.zero_le z) z1
    rwa [z2] at this
  rcases Nat.lt_trichotomy i j with q | q | q
  · exact absurd (C.hd i j q hj) (key j i hj hi h2 h1)
  · exact q
  · exact absurd (C.hd j i q hi) (key i j hi hj h1 h2)
theorem Rch.alone {r : Rl} {k : Int} {n x : List UInt8} (h : Rch r k n x) (hno : ∀ y, ¬ adj r k n y) : x = n := by
  induction h with
  | refl => rfl
  | step h a ih => rw [ih] at a; exact absurd a (hno _)
/-- How many stand in the first circles. -/
def tot (cs : List Wd) (i : Nat) : Nat := ((cs.take i).flatMap (·.ws)).length
theorem CirOk.nodup {r : Rl} (H : RO r) {cs : List Wd} (C : CirOk r cs) (i : Nat) : ((cs.take i).flatMap (·.ws)).Nodup := by
  rw [List.Nodup, List.pairwise_flatMap]
  refine ⟨fun w hw => (C.ss w (List.mem_of_mem_take hw)).1.nodup, ?_⟩
  rw [List.pairwise_iff_getElem]
  intro a b ha hb hab x hx y hy e
  subst e
  simp only [List.length_take] at ha hb
  have ea : (cs.take i)[a] = cs.getD a default := by rw [List.getElem_take, List.getD_eq_getElem?_getD, List.getElem?_eq_getElem (show a < cs.length by omega)]; rfl
  have eb : (cs.take i)[b] = cs.getD b default := by rw [List.getElem_take, List.getD_eq_getElem?_getD, List.getElem?_eq_getElem (show b < cs.length by omega)]; rfl
  rw [ea] at hx
  rw [eb] at hy
  have := C.same H (show a < cs.length by omega) (show b < cs.length by omega) hx hy
  omega
theorem CirOk.tot_le {r : Rl} (H : RO r) {cs : List Wd} (C : CirOk r cs) (i : Nat) : tot cs i ≤ r.us.length := by
  have := nodup_leM (C.nodup H i) (m := r.us.map (·.name)) fun x hx => by
    obtain ⟨w, w1, w2⟩ := List.mem_flatMap.1 hx
    obtain ⟨-, -, w3⟩ := C.ss w (List.mem_of_mem_take w1)
    obtain ⟨k, rc⟩ := (w3 x).1 w2
    exact gat_name (rc.known H k)
  rwa [List.length_map] at this
theorem CirOk.tot {r : Rl} (H : RO r) {cs : List Wd} (C : CirOk r cs) (hall : ∀ x, gat r.us x ≠ none → ∃ w ∈ cs, x ∈ w.ws) : Xx.tot cs cs.length = r.us.length := by
  have h1 := C.tot_le H cs.length
  have hn : (r.us.map (·.name)).Nodup := by
    rw [List.Nodup, List.pairwise_iff_getElem]
    intro i j hi hj hij
    simp only [List.length_map] at hi hj
    have := H.nd i j hij hj
    rw [List.getD_eq_getElem?_getD, List.getD_eq_getElem?_getD, List.getElem?_eq_getElem hj, List.getElem?_eq_getElem hi] at this
    simpa using this
  have h2 := nodup_leM hn (m := (cs.take cs.length).flatMap (·.ws)) fun x hx => by
    obtain ⟨g, g1, g2⟩ := List.mem_map.1 hx
    obtain ⟨w, w1, w2⟩ := hall x (gat_mem.2 ⟨g, g1, g2⟩)
    rw [List.take_length]
    exact List.mem_flatMap.2 ⟨w, w1, w2⟩
  rw [List.length_map] at h2
  unfold Xx.tot at *
  omega
variable [Flag]
end Go.Proofs.Xx

/-
  Ties tied and untied: plain laws.
-/
namespace Go.Proofs.Xx
open Go Go.Proofs
set_option linter.unusedSimpArgs false
set_option linter.unusedVariables false
set_option linter.unusedSectionVars false
set_option maxRecDepth 100000

theorem sMin_comm (a b : List UInt8) : sMin a b = sMin b a := by
  unfold sMin
  rcases sLt_tri a b with h | h | h
  · rw [if_neg (sLt_asymm h), if_pos h]
  · subst h; rfl
  · rw [if_pos h, if_neg (sLt_asymm h)]
theorem sMax_comm (a b : List UInt8) : sMax a b = sMax b a := by
  unfold sMax
  rcases sLt_tri a b with h | h | h
  · rw [if_pos h, if_neg (sLt_asymm h)]
  · subst h; rfl
  · rw [if_neg (sLt_asymm h), if_pos h]
theorem sMinMax {a b : List UInt8} (h : a ≠ b) : sLt (sMin a b) (sMax a b) ∧ ((sMin a b = a ∧ sMax a b = b) ∨ (sMin a b = b ∧ sMax a b = a)) := by
  rcases sLt_tri a b with q | q | q
  · rw [sMin_lt q, sMax_lt q]; exact ⟨q, .inl ⟨rfl, rfl⟩⟩
  · exact absurd q h
  · rw [sMin_comm, sMax_comm, sMin_lt q, sMax_lt q]; exact ⟨q, .inr ⟨rfl, rfl⟩⟩
/-- Every pair has its place. -/
theorem plc_ex {ts : List Ti} (hs : TS ts) (y : Ti) : ∃ i, Plc ts y i := by
  induction ts with
  | nil => exact ⟨0, Nat.le_refl _, fun j hj => absurd hj (Nat.not_lt_zero _), fun j _ hj => absurd hj (Nat.not_lt_zero _)⟩
  | cons x r ih =>
    by_cases h : bef x y
    · obtain ⟨i, i1, i2, i3⟩ := ih (List.pairwise_cons.1 hs).2
      refine ⟨i + 1, by simp; exact i1, fun j hj => ?_, fun j h1 h2 => ?_⟩
      · cases j with
        | zero => exact h
        | succ j => exact i2 j (by omega)
      · cases j with
        | zero => omega
        | succ j => exact i3 j (by omega) (by simp at h2; omega)
    · refine ⟨0, Nat.zero_le _, fun j hj => absurd hj (Nat.not_lt_zero _), fun j _ hj q => h ?_⟩
      rcases Nat.eq_zero_or_pos j with z | z
      · subst z; exact q
      · exact bef_trans (hs.lt z hj) q
theorem Plc.kind {ts : List Ti} {a b : List UInt8} {k k' : Int} {i : Nat} (h : Plc ts ⟨a, b, k⟩ i) : Plc ts ⟨a, b, k'⟩ i := ⟨h.1, h.2.1, h.2.2⟩
theorem ts_put {ts : List Ti} {a b : List UInt8} {k : Int} (hs : TS ts) (hn : ¬ tied ts a b) : ∃ i, i ≤ ts.length ∧ putT ts (tiOf a b k) = ts.take i ++ tiOf a b k :: ts.drop i ∧ TS (putT ts (tiOf a b k)) := by
  obtain ⟨i, hi⟩ := plc_ex hs ⟨sMin a b, sMax a b, 0⟩
  have e := putT_plc (t := tiOf a b k) (hi.kind (k' := k))
  refine ⟨i, hi.1, e, ?_⟩
  rw [e, TS, List.pairwise_append]
  refine ⟨List.Pairwise.sublist (List.take_sublist i ts) hs, List.pairwise_cons.2 ⟨fun y hy => ?_, List.Pairwise.sublist (List.drop_sublist i ts) hs⟩, fun x hx y hy => ?_⟩
  · obtain ⟨j, hj, rfl⟩ := mem_iff_getD.1 hy
    simp only [List.length_drop] at hj
    have ej : (ts.drop i).getD j default = ts.getD (i + j) default := by
      rw [List.getD_eq_getElem?_getD, List.getD_eq_getElem?_getD, List.getElem?_drop]
    rw [ej]
    rcases bef_tri (ts.getD (i + j) default) (tiOf a b k) with q | q | q
    · exact absurd q (hi.2.2 (i + j) (by omega) (by omega))
    · exact absurd ⟨_, mem_getD (show i + j < ts.length by omega), q⟩ hn
    · exact q
  · obtain ⟨j, hj, rfl⟩ := mem_iff_getD.1 hx
    simp only [List.length_take] at hj
    rw [getD_take (by omega)]
    have h1 := hi.2.1 j (by omega)
    rcases List.mem_cons.1 hy with rfl | hy
    · exact h1
    · obtain ⟨m, hm, rfl⟩ := mem_iff_getD.1 hy
      simp only [List.length_drop] at hm
      have ej : (ts.drop i).getD m default = ts.getD (i + m) default := by
        rw [List.getD_eq_getElem?_getD, List.getD_eq_getElem?_getD, List.getElem?_drop]
      rw [ej]
      exact hs.lt (by omega) (by omega)
theorem RO.tie {r : Rl} (H : RO r) {a b : List UInt8} {k : Int} (h : (tieF r a b k).2 = 0) : RO (tieF r a b k).1 := by
  obtain ⟨h1, h2, h3, h4, h5, h6, h7⟩ := tieF_zero h
  rw [h7]
  obtain ⟨i, hi, e, hs⟩ := ts_put (k := k) H.ts h5
  obtain ⟨m1, m2⟩ := sMinMax h2
  refine ⟨H.chk, H.nd, H.l64, hs, fun t ht => ?_, ?_⟩
  · simp only at ht
    rw [e] at ht
    have : t ∈ r.ts ∨ t = tiOf a b k := by
      rcases List.mem_append.1 ht with q | q
      · exact .inl (List.mem_of_mem_take q)
      · rcases List.mem_cons.1 q with q | q
        · exact .inr q
        · exact .inl (List.mem_of_mem_drop q)
    rcases this with q | rfl
    · exact H.tt t q
    · refine ⟨m1, h1, ?_⟩
      rcases m2 with ⟨e1, e2⟩ | ⟨e1, e2⟩
      · show Xx.gat r.us (sMin a b) ≠ none ∧ Xx.gat r.us (sMax a b) ≠ none
        rw [e1, e2]; exact ⟨h3, h4⟩
      · show Xx.gat r.us (sMin a b) ≠ none ∧ Xx.gat r.us (sMax a b) ≠ none
        rw [e1, e2]; exact ⟨h4, h3⟩
  · simp only
    rw [e]; simp; omega
end Go.Proofs.Xx

/-
  BookTies.
-/
namespace Go.Proofs.Xx
open Go Go.Proofs
set_option linter.unusedSimpArgs false
set_option linter.unusedVariables false
set_option linter.unusedSectionVars false
set_option maxRecDepth 100000
set_option maxHeartbeats 4000000

/-- The tie of a pair. -/
def tieOf (ts : List Ti) (a b : List UInt8) : Option Ti := ts.find? fun t => decide (t.a = sMin a b ∧ t.b = sMax a b)
theorem tieOf_comm (ts : List Ti) (a b : List UInt8) : tieOf ts a b = tieOf ts b a := by unfold tieOf; rw [sMin_comm a b, sMax_comm a b]
theorem tieOf_some {ts : List Ti} {a b : List UInt8} {t : Ti} (h : tieOf ts a b = some t) : t ∈ ts ∧ t.a = sMin a b ∧ t.b = sMax a b := by
  have h1 := List.find?_some h
  exact ⟨List.mem_of_find?_eq_some h, by simpa using h1⟩
theorem tieOf_none {ts : List Ti} {a b : List UInt8} (h : tieOf ts a b = none) : ¬ tied ts a b := by
  rintro ⟨t, ht, h1, h2⟩
  have := List.find?_eq_none.1 h t ht
  simp [h1, h2] at this
theorem tieOf_eq {ts : List Ti} {a b : List UInt8} {t : Ti} (hs : TS ts) (ht : t ∈ ts) (h1 : t.a = sMin a b) (h2 : t.b = sMax a b) : tieOf ts a b = some t := by
  cases h : tieOf ts a b with
  | none => exact absurd ⟨t, ht, h1, h2⟩ (tieOf_none h)
  | some u =>
    obtain ⟨hu, u1, u2⟩ := tieOf_some h
    obtain ⟨i, hi, rfl⟩ := mem_iff_getD.1 ht
    obtain ⟨j, hj, rfl⟩ := mem_iff_getD.1 hu
    rcases Nat.lt_trichotomy i j with q | q | q
    · rcases hs.lt q hj with y | y
      · rw [h1, u1] at y; exact absurd y (sLt_irr _)
      · rw [h2, u2] at y; exact absurd y.2 (sLt_irr _)
    · rw [q]
    · rcases hs.lt q hi with y | y
      · rw [h1, u1] at y; exact absurd y (sLt_irr _)
      · rw [h2, u2] at y; exact absurd y.2 (sLt_irr _)
def tkd (o : Option Ti) : Value := match o with | some t => .tuple #[.int .u8 t.k, .bool true] | none => .tuple #[.int .u8 0, .bool false]
variable [Flag]
theorem tiedF_ok {h0 : AH} (w : WfH h0) {p : Nat} {r : Rl} (B : BkRd h0 p r) (H : RO r) (a b : List UInt8) : Fn Tryz.prog Xh 36 [.pointer (some ⟨p, 0, none⟩), str a, str b] h0 (fun u h' => u = tkd (tieOf r.ts a b) ∧ Hs h0 h' []) :=
  (tied_ok w B H a b).mono fun u h' q => by
    refine ⟨?_, q.2⟩
    rcases q.1 with ⟨t, h1, h2, h3, h4⟩ | ⟨h1, h2⟩
    · rw [tieOf_eq H.ts h1 h2 h3, h4]; rfl
    · cases h : tieOf r.ts a b with
      | none => rw [h2]; rfl
      | some t => exact absurd ⟨t, tieOf_some h⟩ h1
end Go.Proofs.Xx

/-
  Ties and neighbours.
-/
namespace Go.Proofs.Xx
open Go Go.Proofs
set_option linter.unusedSimpArgs false
set_option linter.unusedVariables false
set_option linter.unusedSectionVars false

theorem tieOf_adj {r : Rl} (H : RO r) {k : Int} {a b : List UInt8} (h : adj r k a b) : ∃ t, tieOf r.ts a b = some t ∧ t.k = k := by
  obtain ⟨t, h1, h2, h3⟩ := h
  have hlt := (H.tt t h1).1
  refine ⟨t, ?_, h2⟩
  rcases h3 with ⟨rfl, rfl⟩ | ⟨rfl, rfl⟩
  · exact tieOf_eq H.ts h1 (sMin_lt hlt).symm (sMax_lt hlt).symm
  · rw [tieOf_comm]; exact tieOf_eq H.ts h1 (sMin_lt hlt).symm (sMax_lt hlt).symm
theorem adj_tieOf {r : Rl} {a b : List UInt8} {t : Ti} (h : tieOf r.ts a b = some t) : adj r t.k a b := by
  obtain ⟨h1, h2, h3⟩ := tieOf_some h
  refine ⟨t, h1, rfl, ?_⟩
  by_cases q : sLt b a
  · have e1 : sMin a b = b := if_pos q
    have e2 : sMax a b = a := if_neg (sLt_asymm q)
    exact .inr ⟨by rw [h3, e2], by rw [h2, e1]⟩
  · have e1 : sMin a b = a := if_neg q
    refine .inl ⟨by rw [h2, e1], ?_⟩
    rw [h3]; unfold sMax
    split
    · rfl
    · rename_i q2
      rcases sLe_of q with e | e
      · exact e
      · exact absurd e q2
variable [Flag]
end Go.Proofs.Xx

/-
  The reference: At, between, Tied, words copied and sorted, Names, With, Shared, Common.
-/
namespace Go.Proofs.Xx
open Go Go.Proofs
set_option linter.unusedSimpArgs false
set_option linter.unusedVariables false
set_option linter.unusedSectionVars false
set_option maxRecDepth 100000
set_option maxHeartbeats 4000000

theorem SS.eq : ∀ {l m : List (List UInt8)}, SS l → SS m → (∀ x, x ∈ l ↔ x ∈ m) → l = m := by
  intro l m hl hm h
  have le : l.length = m.length := Nat.le_antisymm (nodup_leM hl.nodup fun x hx => (h x).1 hx) (nodup_leM hm.nodup fun x hx => (h x).2 hx)
  apply eq_getD le
  intro i
  induction i using Nat.strongRecOn with
  | _ i ih =>
    intro hi
    have key : ∀ {a b : List (List UInt8)}, SS a → SS b → (∀ x, x ∈ a → x ∈ b) → i < a.length → (∀ j, j < i → j < a.length → a.getD j default = b.getD j default) → ¬ sLt (a.getD i default) (b.getD i default) := fun {a b} ha hb hab hi hj q => by
      obtain ⟨j, j1, j2⟩ := mem_iff_getD.1 (hab _ (mem_getD hi))
      rcases Nat.lt_or_ge j i with z | z
      · have := hj j z (by omega)
        have n := ha j i z hi
        rw [this, j2] at n
        exact sLt_irr _ n
      · have := hb.le z j1
        rw [j2] at this
        exact this q
    have k1 := key hl hm (fun x => (h x).1) hi fun j hj hj2 => ih j hj hj2
    have k2 := key hm hl (fun x => (h x).2) (by omega) fun j hj hj2 => (ih j hj (by omega)).symm
    rcases sLe_of k1 with q | q
    · exact q.symm
    · exact absurd q k2
def btw (t : Ti) (a b : List UInt8) : Prop := (t.a = a ∧ t.b = b) ∨ (t.a = b ∧ t.b = a)
theorem btw_tieOf {r : Rl} (H : RO r) {a b : List UInt8} {t : Ti} (ht : t ∈ r.ts) (h : btw t a b) : tieOf r.ts a b = some t := by
  have hlt := (H.tt t ht).1
  rcases h with ⟨rfl, rfl⟩ | ⟨rfl, rfl⟩
  · exact tieOf_eq H.ts ht (sMin_lt hlt).symm (sMax_lt hlt).symm
  · rw [tieOf_comm]; exact tieOf_eq H.ts ht (sMin_lt hlt).symm (sMax_lt hlt).symm
theorem tieOf_btw {r : Rl} {a b : List UInt8} {t : Ti} (h : tieOf r.ts a b = some t) : btw t a b := by
  obtain ⟨x, h1, h2, h3⟩ := adj_tieOf h
  obtain ⟨g1, g2, g3⟩ := tieOf_some h
  unfold btw
  by_cases q : sLt b a
  · have e1 : sMin a b = b := if_pos q
    have e2 : sMax a b = a := if_neg (sLt_asymm q)
    exact .inr ⟨by rw [g2, e1], by rw [g3, e2]⟩
  · have e1 : sMin a b = a := if_neg q
    refine .inl ⟨by rw [g2, e1], ?_⟩
    rw [g3]; unfold sMax
    split
    · rfl
    · rename_i q2
      rcases sLe_of q with e | e
      · exact e
      · exact absurd e q2
variable [Flag]
theorem refAt_ok {h0 : AH} (w : WfH h0) (v : Value) (gs : List Gst) (hr : RdL h0 v 9 eG gs) (hl : gs.length ≤ 9223372036854775807) (n : List UInt8) : Fn Tryz.prog Xh 80 [v, str n] h0 (fun u h' => ((∃ i : Nat, gat (gs.map (·.toGu)) n = some i ∧ i < gs.length ∧ u = .int .i64 i) ∨ (gat (gs.map (·.toGu)) n = none ∧ u = .int .i64 (-1))) ∧ Hs h0 h' []) := by
  have S := Hs.start w
  refine Fn_K rfl Tryz.func80 rfl rfl ?_
  all_goals (repeat' (first | refine K_seq ?_ | refine k_cond rfl ?_ | refine K_skip ?_ | refine K_exit ?_ | refine k_block ?_ | refine K_scope ?_ | refine K_label ?_ | (refine K_region (id := 0) ?_; refine mv ?_; refine KO_nil ?_) | (refine K_region (id := 1) ?_; refine mv ?_; refine KO_nil ?_)))
  refine k_loop (σ := Nat) (fun i h' => Hs h0 h' [] ∧ i ≤ gs.length ∧ ∀ j, j < i → (gs.getD j default).name ≠ n) (fun i => gs.length - i) (fun i => [(0, v), (1, str n), (5, .int .i64 i)]) 0 (by repeat (first | exact Ks.le_nil _ | refine Ks.le_cons rfl ?_ | refine Ks.le_int ?_)) ?_ ?_
  · exact ⟨S, Nat.zero_le _, fun j hj => absurd hj (Nat.not_lt_zero _)⟩
  clear S
  rintro i h ⟨S, g1, g2⟩
  have e : ∀ j, j < gs.length → ((gs.map (fun g : Gst => g.toGu)).getD j default).name = (gs.getD j default).name := fun j hj => by rw [map_getD (f := fun g : Gst => g.toGu) hj]
  all_goals (repeat' (first | refine K_seq ?_ | refine k_cond rfl ?_ | refine K_skip ?_ | refine K_exit ?_ | refine k_block ?_ | refine K_scope ?_ | refine K_label ?_ | (refine K_region (id := 2) ?_; refine mv ?_; refine mv ?_; (first | refine lnB S ?_ | refine lnS S rfl rfl ?_); (first | refine cT ?_ | refine cF ?_ | (refine cS ?_ ?_ <;> intro hc)) <;> (refine KO_nil ?_))))
  · have hil : i < gs.length := by omega
    all_goals (repeat' (first | refine K_seq ?_ | refine k_cond rfl ?_ | refine K_skip ?_ | refine K_exit ?_ | refine k_block ?_ | refine K_scope ?_ | refine K_label ?_ | (refine K_region (id := 4) ?_; refine mv ?_; refine mv ?_; (first | refine ixB S ?_ | refine ixS2 S rfl rfl ?_); (first | refine vl ?_ | refine fB S ?_ | refine fS S rfl rfl ?_ | refine fA ?_); (first | refine lB S rfl rfl ?_ | refine lES2 S rfl rfl ?_ | refine lEB S ?_ | refine lH S ?_); refine mv ?_; (refine tS ?_ ?_ <;> intro hc) <;> (refine KO_nil ?_)) | (refine K_region (id := 5) ?_; refine mv ?_; refine mv ?_; refine KO_nil ?_)))
    all_goals (try simp only [Int.toNat_natCast] at *)
    · refine K_ret ⟨_, rfl, ?_⟩
      refine ⟨.inl ⟨i, ?_, hil, rfl⟩, S⟩
      cases hq : gat (gs.map (·.toGu)) n with
      | none => exact absurd (by rw [e i hil]; exact hc) (gat_none.1 hq _ (mem_getD (show i < (gs.map (·.toGu)).length by simp; exact hil)))
      | some k =>
        obtain ⟨h1, h2, h3⟩ := gat_some hq
        simp only [List.length_map] at h1
        rw [e k h1] at h2
        rcases Nat.lt_trichotomy i k with q | q | q
        · exact absurd (by rw [e i hil]; exact hc) (h3 i q)
        · rw [q]
        · exact absurd h2 (g2 k q)
    · all_goals (repeat' (first | refine K_seq ?_ | refine k_cond rfl ?_ | refine K_skip ?_ | refine K_exit ?_ | refine k_block ?_ | refine K_scope ?_ | refine K_label ?_ | (refine K_region (id := 3) ?_; refine mv ?_; (first | refine ad ?_ | refine vl ?_); refine mv ?_; refine KO_nil ?_)))
      refine ⟨i + 1, ?_, ?_, (by repeat (first | exact Ks.le_nil _ | refine Ks.le_cons rfl ?_ | refine Ks.le_int ?_))⟩
      · show gs.length - (i + 1) < gs.length - i; omega
      · exact ⟨S, by omega, nxtD g2 hc⟩
  · skip
    all_goals (repeat' (first | refine K_seq ?_ | refine k_cond rfl ?_ | refine K_skip ?_ | refine K_exit ?_ | refine k_block ?_ | refine K_scope ?_ | refine K_label ?_ | (refine K_region (id := 6) ?_; refine mv ?_; refine KO_nil ?_)))
    refine K_ret ⟨_, rfl, ?_⟩
    refine ⟨.inr ⟨gat_none.2 fun g hg => ?_, rfl⟩, S⟩
    obtain ⟨j, hj, rfl⟩ := mem_iff_getD.1 hg
    simp only [List.length_map] at hj
    rw [e j hj]; exact g2 j (by omega)
theorem betw_ok {h0 : AH} (w : WfH h0) (v : Value) (ts : List Ti) (hr : RdL h0 v 3 eTi ts) (hl : ts.length ≤ 9223372036854775807) (a b : List UInt8) : Fn Tryz.prog Xh 131 [v, str a, str b] h0 (fun u h' => ((∃ i : Nat, i < ts.length ∧ btw (ts.getD i default) a b ∧ (∀ j, j < i → ¬ btw (ts.getD j default) a b) ∧ u = .int .i64 i) ∨ ((∀ j, j < ts.length → ¬ btw (ts.getD j default) a b) ∧ u = .int .i64 (-1))) ∧ Hs h0 h' []) := by
  have S := Hs.start w
  refine Fn_K rfl Tryz.func131 rfl rfl ?_
  all_goals (repeat' (first | refine K_seq ?_ | refine k_cond rfl ?_ | refine K_skip ?_ | refine K_exit ?_ | refine k_block ?_ | refine K_scope ?_ | refine K_label ?_ | (refine K_region (id := 0) ?_; refine mv ?_; refine KO_nil ?_) | (refine K_region (id := 1) ?_; refine mv ?_; refine KO_nil ?_)))
  refine k_loop (σ := Nat) (fun i h' => Hs h0 h' [] ∧ i ≤ ts.length ∧ ∀ j, j < i → ¬ btw (ts.getD j default) a b) (fun i => ts.length - i) (fun i => [(0, v), (1, str a), (2, str b), (7, .int .i64 i)]) 0 (by repeat (first | exact Ks.le_nil _ | refine Ks.le_cons rfl ?_ | refine Ks.le_int ?_)) ?_ ?_
  · exact ⟨S, Nat.zero_le _, fun j hj => absurd hj (Nat.not_lt_zero _)⟩
  clear S
  rintro i h ⟨S, g1, g2⟩
  all_goals (repeat' (first | refine K_seq ?_ | refine k_cond rfl ?_ | refine K_skip ?_ | refine K_exit ?_ | refine K_scope ?_ | refine K_label ?_ | (refine K_region (id := 2) ?_; refine mv ?_; refine mv ?_; (first | refine lnB S ?_ | refine lnS S rfl rfl ?_); (first | refine cT ?_ | refine cF ?_ | (refine cS ?_ ?_ <;> intro hc)) <;> (refine KO_nil ?_))))
  · have hil : i < ts.length := by omega
    (repeat (refine K_seq ?_)); first | refine K_join1 (σ := Unit) (fun _ h' => Hs h0 h' [] ∧ ¬ btw (ts.getD i default) a b) (fun _ => [(0, v), (1, str a), (2, str b), (7, .int .i64 i)]) ?_ ?_ | refine K_cut (σ := Unit) (fun _ h' => Hs h0 h' [] ∧ ¬ btw (ts.getD i default) a b) (fun _ => [(0, v), (1, str a), (2, str b), (7, .int .i64 i)]) ?_ ?_
    · all_goals (repeat' (first | refine K_seq ?_ | refine k_cond rfl ?_ | refine K_skip ?_ | refine K_exit ?_ | refine k_block ?_ | refine K_scope ?_ | refine K_label ?_ | (refine K_region (id := 4) ?_; refine mv ?_; refine mv ?_; (first | refine ixB S ?_ | refine ixS2 S rfl rfl ?_); (first | refine vl ?_ | refine fB S ?_ | refine fS S rfl rfl ?_ | refine fA ?_); (first | refine lB S rfl rfl ?_ | refine lES2 S rfl rfl ?_ | refine lEB S ?_ | refine lH S ?_); refine mv ?_; (refine tS ?_ ?_ <;> intro hc) <;> (refine mv ?_; (first | refine off ?_ | refine mv ?_); (first | refine off ?_ | refine mv ?_); (first | refine off ?_ | (first | refine ixB S ?_ | refine ixS2 S rfl rfl ?_)); (first | refine off ?_ | (first | refine vl ?_ | refine fB S ?_ | refine fS S rfl rfl ?_ | refine fA ?_)); (first | refine off ?_ | (first | refine lB S rfl rfl ?_ | refine lES2 S rfl rfl ?_ | refine lEB S ?_ | refine lH S ?_)); (first | refine off ?_ | refine mv ?_); (first | refine off ?_ | (refine tS ?_ ?_ <;> intro hc)) <;> (refine vl ?_; refine mv ?_; (first | refine off ?_ | refine mv ?_); (first | refine off ?_ | refine mv ?_); (first | refine off ?_ | (first | refine ixB S ?_ | refine ixS2 S rfl rfl ?_)); (first | refine off ?_ | (first | refine vl ?_ | refine fB S ?_ | refine fS S rfl rfl ?_ | refine fA ?_)); (first | refine off ?_ | (first | refine lB S rfl rfl ?_ | refine lES2 S rfl rfl ?_ | refine lEB S ?_ | refine lH S ?_)); (first | refine off ?_ | refine mv ?_); (first | refine off ?_ | (refine tS ?_ ?_ <;> intro hc)) <;> ((first | refine off ?_ | refine mv ?_); (first | refine off ?_ | refine mv ?_); (first | refine off ?_ | refine mv ?_); (first | refine off ?_ | (first | refine ixB S ?_ | refine ixS2 S rfl rfl ?_)); (first | refine off ?_ | (first | refine vl ?_ | refine fB S ?_ | refine fS S rfl rfl ?_ | refine fA ?_)); (first | refine off ?_ | (first | refine lB S rfl rfl ?_ | refine lES2 S rfl rfl ?_ | refine lEB S ?_ | refine lH S ?_)); (first | refine off ?_ | refine mv ?_); (first | refine off ?_ | (refine tS ?_ ?_ <;> intro hc)) <;> ((first | refine off ?_ | refine vl ?_); refine vl ?_; refine KO_nil ?_))))) | (refine K_region (id := 5) ?_; refine mv ?_; refine mv ?_; refine KO_nil ?_)))
      all_goals (try simp only [Int.toNat_natCast] at *)
      all_goals first
        | exact ⟨(), ⟨S, by unfold btw; grind⟩, ((by repeat (first | exact Ks.le_nil _ | refine Ks.le_cons rfl ?_ | refine Ks.le_int ?_)))⟩
        | (refine K_ret ⟨_, rfl, ?_⟩; exact ⟨.inl ⟨i, hil, by unfold btw; grind, g2, rfl⟩, S⟩)
    · clear S
      rintro - h ⟨S, hb⟩
      skip
      all_goals (repeat' (first | refine K_seq ?_ | refine k_cond rfl ?_ | refine K_skip ?_ | refine K_exit ?_ | refine k_block ?_ | refine K_scope ?_ | refine K_label ?_ | (refine K_region (id := 3) ?_; refine mv ?_; (first | refine ad ?_ | refine vl ?_); refine mv ?_; refine KO_nil ?_)))
      refine ⟨i + 1, ?_, ?_, (by repeat (first | exact Ks.le_nil _ | refine Ks.le_cons rfl ?_ | refine Ks.le_int ?_))⟩
      · show ts.length - (i + 1) < ts.length - i; omega
      · exact ⟨S, by omega, nxtD g2 hb⟩
  · skip
    all_goals (repeat' (first | refine K_seq ?_ | refine k_cond rfl ?_ | refine K_skip ?_ | refine K_exit ?_ | refine k_block ?_ | refine K_scope ?_ | refine K_label ?_ | (refine K_region (id := 6) ?_; refine mv ?_; refine KO_nil ?_)))
    refine K_ret ⟨_, rfl, ?_⟩
    exact ⟨.inr ⟨fun j hj => g2 j (by omega), rfl⟩, S⟩
theorem rtied_ok {h0 : AH} (w : WfH h0) (v : RlV) (r : Rl) (HR : RlOk h0 v r) (H : RO r) (na nb : List UInt8) : Fn Tryz.prog Xh 83 [v.val, str na, str nb] h0 (fun u h' => ((∃ t, tieOf r.ts na nb = some t ∧ u = .tuple #[.int .u8 t.k, .bool true]) ∨ (tieOf r.ts na nb = none ∧ u = .tuple #[.int .u8 0, .bool false])) ∧ Hs h0 h' []) := by
  have S := Hs.start w
  have hrt := HR.rt
  have hlt := HR.lt
  unfold RlV.val
  refine Fn_K rfl Tryz.func83 rfl rfl ?_
  all_goals (repeat' (first | refine K_seq ?_ | refine k_cond rfl ?_ | refine K_skip ?_ | refine K_exit ?_ | refine k_block ?_ | refine K_scope ?_ | refine K_label ?_ | (refine K_region (id := 0) ?_; (refine bx S ?_; clear S; intro b h S); refine mv ?_; refine mv ?_; refine KO_nil ?_) | (refine K_region (id := 1) ?_; (first | refine vl ?_ | refine fB S ?_ | refine fS S rfl rfl ?_ | refine fA ?_); (first | refine lB S rfl rfl ?_ | refine lES2 S rfl rfl ?_ | refine lEB S ?_ | refine lH S ?_); refine mv ?_; refine mv ?_)))
  (refine KO_fn rfl rfl rfl rfl rfl ((betw_ok S.wf v.vt.val r.ts (hrt.ext w S.ext) hlt na nb).mono ?_); rintro _ h ⟨⟨i, i1, i2, i3, rfl⟩ | ⟨i1, rfl⟩, x⟩) <;> (replace S := S.join0 x; clear x; refine mv ?_; refine KO_nil ?_)
  · all_goals (repeat' (first | refine K_seq ?_ | refine k_cond rfl ?_ | refine K_skip ?_ | refine K_exit ?_ | refine k_block ?_ | refine K_scope ?_ | refine K_label ?_ | (refine K_region (id := 2) ?_; refine mv ?_; (first | refine cT ?_ | refine cF ?_ | (refine cS ?_ ?_ <;> intro hc)) <;> (refine KO_nil ?_)) | (refine K_region (id := 3) ?_; refine mv ?_; refine mv ?_; refine KO_nil ?_) | (refine K_region (id := 4) ?_; (first | refine vl ?_ | refine fB S ?_ | refine fS S rfl rfl ?_ | refine fA ?_); (first | refine lB S rfl rfl ?_ | refine lES2 S rfl rfl ?_ | refine lEB S ?_ | refine lH S ?_); refine mv ?_; (first | refine ixB S ?_ | refine ixS2 S rfl rfl ?_); (first | refine vl ?_ | refine fB S ?_ | refine fS S rfl rfl ?_ | refine fA ?_); (first | refine lB S rfl rfl ?_ | refine lES2 S rfl rfl ?_ | refine lEB S ?_ | refine lH S ?_); refine mv ?_; refine mv ?_; refine KO_nil ?_)))
    refine K_ret ⟨_, rfl, ?_⟩
    exact ⟨.inl ⟨_, btw_tieOf H (mem_getD i1) i2, rfl⟩, S.drop⟩
  · skip
    all_goals (repeat' (first | refine K_seq ?_ | refine k_cond rfl ?_ | refine K_skip ?_ | refine K_exit ?_ | refine k_block ?_ | refine K_scope ?_ | refine K_label ?_ | (refine K_region (id := 2) ?_; refine mv ?_; (first | refine cT ?_ | refine cF ?_ | (refine cS ?_ ?_ <;> intro hc)) <;> (refine KO_nil ?_)) | (refine K_region (id := 3) ?_; refine mv ?_; refine mv ?_; refine KO_nil ?_) | (refine K_region (id := 4) ?_; (first | refine vl ?_ | refine fB S ?_ | refine fS S rfl rfl ?_ | refine fA ?_); (first | refine lB S rfl rfl ?_ | refine lES2 S rfl rfl ?_ | refine lEB S ?_ | refine lH S ?_); refine mv ?_; (first | refine ixB S ?_ | refine ixS2 S rfl rfl ?_); (first | refine vl ?_ | refine fB S ?_ | refine fS S rfl rfl ?_ | refine fA ?_); (first | refine lB S rfl rfl ?_ | refine lES2 S rfl rfl ?_ | refine lEB S ?_ | refine lH S ?_); refine mv ?_; refine mv ?_; refine KO_nil ?_)))
    refine K_ret ⟨_, rfl, ?_⟩
    refine ⟨.inr ⟨?_, rfl⟩, S.drop⟩
    cases hq : tieOf r.ts na nb with
    | none => rfl
    | some t =>
      obtain ⟨j, j1, j2⟩ := mem_iff_getD.1 (tieOf_some hq).1
      exact absurd (j2 ▸ tieOf_btw hq) (i1 j j1)
theorem cpW_ok {h0 : AH} (w : WfH h0) (v : Value) (l : List (List UInt8)) (hr : RdL h0 v 1 eS l) (hl : l.length ≤ 1000000) : Fn Tryz.prog Xh 124 [v] h0 (fun u h' => Hs h0 h' [.sl u 9 1 eS l]) := by
  have S := Hs.start w
  refine Fn_K rfl Tryz.func124 rfl rfl ?_
  all_goals (repeat' (first | refine K_seq ?_ | refine k_cond rfl ?_ | refine K_skip ?_ | refine K_exit ?_ | refine k_block ?_ | refine K_scope ?_ | refine K_label ?_ | (refine K_region (id := 0) ?_; refine mv ?_; refine KO_nil ?_) | (refine K_region (id := 1) ?_; refine mv ?_; refine KO_nil ?_) | (refine K_region (id := 2) ?_; refine mv ?_; refine KO_nil ?_)))
  have S := S.nilS (e := 9) (z := 1) (enc := eS)
  refine k_loop (σ := Nat × Value) (fun (i, v3) h' => Hs h0 h' [.sl v3 9 1 eS (l.take i)] ∧ i ≤ l.length) (fun (i, v3) => l.length - i) (fun (i, v3) => [(0, v), (3, v3), (4, .int .i64 i)]) (0, .slice none 0 0) (by repeat (first | exact Ks.le_nil _ | refine Ks.le_cons rfl ?_ | refine Ks.le_int ?_)) ?_ ?_
  · exact ⟨S, Nat.zero_le _⟩
  clear S
  rintro ⟨i, v3⟩ h ⟨S, g1⟩
  have htl : (l.take i).length ≤ 1000000 := by simp; omega
  all_goals (repeat' (first | refine K_seq ?_ | refine k_cond rfl ?_ | refine K_skip ?_ | refine K_exit ?_ | refine k_block ?_ | refine K_scope ?_ | refine K_label ?_ | (refine K_region (id := 3) ?_; refine mv ?_; refine mv ?_; (first | refine lnB S ?_ | refine lnS S rfl rfl ?_); (first | refine cT ?_ | refine cF ?_ | (refine cS ?_ ?_ <;> intro hc)) <;> (refine KO_nil ?_))))
  · have hil : i < l.length := by omega
    all_goals (repeat' (first | refine K_seq ?_ | refine k_cond rfl ?_ | refine K_skip ?_ | refine K_exit ?_ | refine k_block ?_ | refine K_scope ?_ | refine K_label ?_ | (refine K_region (id := 5) ?_; refine mv ?_; refine mv ?_; refine mv ?_; (first | refine ixB S ?_ | refine ixS2 S rfl rfl ?_); (first | refine lB S rfl rfl ?_ | refine lES2 S rfl rfl ?_ | refine lEB S ?_ | refine lH S ?_); (refine one 1 S ?_; clear S; intro u h S))))
    simp only [Int.toNat_natCast] at *
    refine app (y0 := l.getD i default) S rfl rfl ?_; clear S; intro v3 h S; (refine mv ?_; refine KO_nil ?_)
    all_goals (repeat' (first | refine K_seq ?_ | refine k_cond rfl ?_ | refine K_skip ?_ | refine K_exit ?_ | refine k_block ?_ | refine K_scope ?_ | refine K_label ?_ | (refine K_region (id := 4) ?_; refine mv ?_; (first | refine ad ?_ | refine vl ?_); refine mv ?_; refine KO_nil ?_)))
    refine ⟨(i + 1, v3), ?_, ?_, (by repeat (first | exact Ks.le_nil _ | refine Ks.le_cons rfl ?_ | refine Ks.le_int ?_))⟩
    · show l.length - (i + 1) < l.length - i; omega
    · refine ⟨?_, by (try dsimp only); omega⟩
      dsimp only
      rw [take_succ_getD hil]; exact S
  · obtain rfl : i = l.length := by omega
    rw [List.take_length] at S
    skip
    all_goals (repeat' (first | refine K_seq ?_ | refine k_cond rfl ?_ | refine K_skip ?_ | refine K_exit ?_ | refine k_block ?_ | refine K_scope ?_ | refine K_label ?_ | (refine K_region (id := 6) ?_; refine mv ?_; refine mv ?_; refine KO_nil ?_)))
    refine K_ret ⟨_, rfl, ?_⟩
    exact S
end Go.Proofs.Xx
