/-
  Chains: the search, plain part.
-/
import Derived.Test.YtidmdnenlgjpeaaGreatDoorM13
import Derived.Test.YtidmdnenlgjpeaaGreatDoorM10
import Derived.Test.YtidmdnenlgjpeaaGreatDoorM9
import Derived.Test.YtidmdnenlgjpeaaGreatDoorM12

namespace Go.Proofs.Xx
open Go Go.Proofs
set_option linter.unusedSimpArgs false
set_option linter.unusedVariables false
set_option linter.unusedSectionVars false

/-- A chain from x. -/
inductive Pth (r : Rl) (x : List UInt8) : List (List UInt8) → List UInt8 → Prop
  | one : Pth r x [x] x
  | snoc {Q : List (List UInt8)} {w z : List UInt8} (h : Pth r x Q w) (a : spk r w z) : Pth r x (Q ++ [z]) z
theorem Pth.pos {r : Rl} {x y : List UInt8} {Q : List (List UInt8)} (h : Pth r x Q y) : 0 < Q.length := by
  cases h <;> simp
theorem Pth.cons {r : Rl} {z x y : List UInt8} {Q : List (List UInt8)} (a : spk r z x) (h : Pth r x Q y) : Pth r z (z :: Q) y := by
  induction h with
  | one => exact Pth.snoc (.one) a
  | snoc h b ih => exact Pth.snoc ih b
theorem Pth.rev {r : Rl} {x y : List UInt8} {Q : List (List UInt8)} (h : Pth r x Q y) : Pth r y Q.reverse x := by
  induction h with
  | one => exact .one
  | snoc h b ih =>
    rw [List.reverse_append]
    exact ih.cons b.symm
theorem Pth.head {r : Rl} {x y : List UInt8} {Q : List (List UInt8)} (h : Pth r x Q y) : Q.getD 0 default = x := by
  induction h with
  | one => rfl
  | snoc h b ih => rw [gA1 h.pos]; exact ih
theorem Pth.last {r : Rl} {x y : List UInt8} {Q : List (List UInt8)} (h : Pth r x Q y) : Q.getD (Q.length - 1) default = y := by
  cases h with
  | one => rfl
  | snoc h b => rw [List.length_append, List.length_singleton, Nat.add_sub_cancel, gA2 (Nat.le_refl _), Nat.sub_self]; rfl
theorem Pth.adj {r : Rl} {x y : List UInt8} {Q : List (List UInt8)} (h : Pth r x Q y) : ∀ i, i + 1 < Q.length → spk r (Q.getD i default) (Q.getD (i + 1) default) := by
  induction h with
  | one => intro i hi; simp at hi
  | snoc h b ih =>
    rename_i Q w z
    intro i hi
    rw [List.length_append, List.length_singleton] at hi
    rcases Nat.lt_or_ge (i + 1) Q.length with q | q
    · rw [gA1 (by omega), gA1 q]; exact ih i q
    · have e : i = Q.length - 1 := by omega
      have hp := h.pos
      rw [gA1 (by omega), gA2 q, e, h.last, show Q.length - 1 + 1 - Q.length = 0 by omega]
      exact b
/-- Before in the order of words, place by place. -/
def lxl (P Q : List (List UInt8)) : Prop := ∃ k, k < P.length ∧ k < Q.length ∧ (∀ j, j < k → P.getD j default = Q.getD j default) ∧ sLt (P.getD k default) (Q.getD k default)
theorem lxl.snoc {P Q : List (List UInt8)} {a b : List UInt8} (h : lxl P Q) : lxl (P ++ [a]) (Q ++ [b]) := by
  obtain ⟨k, h1, h2, h3, h4⟩ := h
  refine ⟨k, by simp; omega, by simp; omega, fun j hj => ?_, ?_⟩
  · rw [gA1 (by omega), gA1 (by omega)]; exact h3 j hj
  · rw [gA1 h1, gA1 h2]; exact h4
theorem lxl.last {P : List (List UInt8)} {a b : List UInt8} (h : sLt a b) : lxl (P ++ [a]) (P ++ [b]) := by
  refine ⟨P.length, by simp, by simp, fun j hj => ?_, ?_⟩
  · rw [gA1 hj, gA1 hj]
  · rw [gA2 (Nat.le_refl _), gA2 (Nat.le_refl _), Nat.sub_self]; exact h
theorem lxl.trans {P Q R : List (List UInt8)} (h : lxl P Q) (g : lxl Q R) : lxl P R := by
  obtain ⟨k, h1, h2, h3, h4⟩ := h
  obtain ⟨m, g1, g2, g3, g4⟩ := g
  rcases Nat.lt_trichotomy k m with q | q | q
  · exact ⟨k, h1, by omega, fun j hj => (h3 j hj).trans (g3 j (by omega)), by rw [← g3 k q]; exact h4⟩
  · subst q
    exact ⟨k, h1, g2, fun j hj => (h3 j hj).trans (g3 j hj), sLt_trans h4 g4⟩
  · exact ⟨m, by omega, g2, fun j hj => (h3 j (by omega)).trans (g3 j hj), by rw [h3 m q]; exact g4⟩
def lxe (P Q : List (List UInt8)) : Prop := P = Q ∨ lxl P Q
theorem lxe.trans {P Q R : List (List UInt8)} (h : lxe P Q) (g : lxe Q R) : lxe P R := by
  rcases h with rfl | h
  · exact g
  · rcases g with rfl | g
    · exact .inr h
    · exact .inr (h.trans g)
theorem lxe.snoc {P Q : List (List UInt8)} {a : List UInt8} (h : lxe P Q) : lxe (P ++ [a]) (Q ++ [a]) := by
  rcases h with rfl | h
  · exact .inl rfl
  · exact .inr h.snoc
/-- The least of the shortest chains. -/
structure ChainOk (r : Rl) (x y : List UInt8) (P : List (List UInt8)) : Prop where
  pth : Pth r x P y
  sh : ∀ Q, Pth r x Q y → P.length ≤ Q.length
  lx : ∀ Q, Pth r x Q y → P.length = Q.length → lxe P Q
abbrev NMap := List (List UInt8 × List UInt8)
def nmA (mp : NMap) (j : Nat) : List UInt8 := (mp.getD j default).1
/-- The way to the j-th one that is met. -/
def tpth (mp : NMap) (pa : Nat → Nat) (j : Nat) : List (List UInt8) := if h : 0 < j ∧ pa j < j then tpth mp pa (pa j) ++ [nmA mp j] else [nmA mp j]
termination_by j
decreasing_by exact h.2
structure BC (r : Rl) (x : List UInt8) (mp : NMap) (pa : Nat → Nat) : Prop where
  pos : 0 < mp.length
  d0 : nmA mp 0 = x
  f0 : (mp.getD 0 default).2 = []
  kn : ∀ j, j < mp.length → gat r.us (nmA mp j) ≠ none
  nd : (mp.map (·.1)).Nodup
  lt : ∀ j, 0 < j → j < mp.length → pa j < j
  fr : ∀ j, 0 < j → j < mp.length → (mp.getD j default).2 = nmA mp (pa j) ∧ spk r (nmA mp (pa j)) (nmA mp j)
  mo : ∀ j k, 0 < j → j ≤ k → k < mp.length → pa j ≤ pa k
  od : ∀ j k, 0 < j → j < k → k < mp.length → pa j = pa k → sLt (nmA mp j) (nmA mp k)
theorem BC.step {r : Rl} {x : List UInt8} {mp : NMap} {pa : Nat → Nat} (B : BC r x mp pa) {j : Nat} (h0 : 0 < j) (hj : j < mp.length) : tpth mp pa j = tpth mp pa (pa j) ++ [nmA mp j] := by
  rw [tpth, dif_pos ⟨h0, B.lt j h0 hj⟩]
theorem tpth0 (mp : NMap) (pa : Nat → Nat) : tpth mp pa 0 = [nmA mp 0] := by
  rw [tpth, dif_neg (by omega)]
theorem tpth_pos (mp : NMap) (pa : Nat → Nat) (j : Nat) : 0 < (tpth mp pa j).length := by
  rw [tpth]; split <;> simp
theorem tpth_len (mp : NMap) (pa : Nat → Nat) (j : Nat) : (tpth mp pa j).length ≤ j + 1 := by
  induction j using Nat.strongRecOn with
  | _ j ih =>
    rw [tpth]
    split
    · rename_i h
      have := ih _ h.2
      simp; omega
    · simp
theorem BC.pth {r : Rl} {x : List UInt8} {mp : NMap} {pa : Nat → Nat} (B : BC r x mp pa) (j : Nat) (hj : j < mp.length) : Pth r x (tpth mp pa j) (nmA mp j) := by
  induction j using Nat.strongRecOn with
  | _ j ih =>
    rcases Nat.eq_zero_or_pos j with q | q
    · subst q
      rw [tpth0, B.d0]; exact .one
    · rw [B.step q hj]
      have := B.lt j q hj
      exact (ih _ this (by omega)).snoc (B.fr j q hj).2
theorem BC.mono {r : Rl} {x : List UInt8} {mp : NMap} {pa : Nat → Nat} (B : BC r x mp pa) (k : Nat) (hk : k < mp.length) : ∀ j, j ≤ k → (tpth mp pa j).length ≤ (tpth mp pa k).length ∧ ((tpth mp pa j).length = (tpth mp pa k).length → lxe (tpth mp pa j) (tpth mp pa k)) := by
  induction k using Nat.strongRecOn with
  | _ k ih =>
    intro j hj
    rcases Nat.eq_or_lt_of_le hj with q | q
    · subst q; exact ⟨Nat.le_refl _, fun _ => .inl rfl⟩
    · rw [B.step (by omega) hk]
      rcases Nat.eq_zero_or_pos j with z | z
      · subst z
        have := tpth_pos mp pa (pa k)
        rw [tpth0]
        simp
        intro h; rw [h] at this; exact absurd this (by simp)
      · rw [B.step z (by omega)]
        have hl := B.lt k (by omega) hk
        have hm := B.mo j k z hj hk
        obtain ⟨h1, h2⟩ := ih (pa k) hl (by omega) (pa j) hm
        refine ⟨by simp; exact h1, fun e => ?_⟩
        simp only [List.length_append, List.length_singleton] at e
        rcases Nat.eq_or_lt_of_le hm with w | w
        · rw [w]
          exact .inr (.last (B.od j k z q hk w))
        · rcases h2 (by omega) with g | g
          · exfalso
            have g1 := (B.pth (pa j) (by omega)).last
            have g2 := (B.pth (pa k) (by omega)).last
            rw [g, g2] at g1
            refine nodup_ne B.nd w (by simp; omega) ?_
            rw [map_getD (by omega), map_getD (by omega)]
            exact g1.symm
          · exact .inr g.snoc
/-- All of the first h are gone through. -/
structure BI (r : Rl) (x : List UInt8) (mp : NMap) (pa : Nat → Nat) (h : Nat) : Prop where
  c : BC r x mp pa
  le : h ≤ mp.length
  ub : ∀ j, 0 < j → j < mp.length → pa j < h
  cl : ∀ i, i < h → ∀ y, spk r (nmA mp i) y → ∃ j, j < mp.length ∧ nmA mp j = y ∧ (j = 0 ∨ pa j ≤ i)
/-- At the k-th name for the h-th one. -/
structure BJ (r : Rl) (ns : List (List UInt8)) (x : List UInt8) (mp : NMap) (pa : Nat → Nat) (h k : Nat) : Prop where
  c : BC r x mp pa
  lt : h < mp.length
  ub : ∀ j, 0 < j → j < mp.length → pa j ≤ h
  cl : ∀ i, i < h → ∀ y, spk r (nmA mp i) y → ∃ j, j < mp.length ∧ nmA mp j = y ∧ (j = 0 ∨ pa j ≤ i)
  pm : ∀ j, 0 < j → j < mp.length → pa j = h → ∃ m, m < k ∧ nmA mp j = ns.getD m default
  dn : ∀ m, m < k → spk r (nmA mp h) (ns.getD m default) → ∃ j, j < mp.length ∧ nmA mp j = ns.getD m default
theorem BI.one {r : Rl} {x : List UInt8} (hx : gat r.us x ≠ none) : BI r x [(x, [])] (fun _ => 0) 0 := by
  refine ⟨⟨by simp, rfl, rfl, fun j hj => ?_, by simp, fun j h1 h2 => ?_, fun j h1 h2 => ?_, fun j k h1 h2 h3 => Nat.le_refl _, fun j k h1 h2 h3 => ?_⟩, Nat.zero_le _, fun j h1 h2 => ?_, fun i hi => absurd hi (Nat.not_lt_zero _)⟩
  · simp at hj; subst hj; exact hx
  all_goals (simp only [List.length_singleton] at *; omega)
theorem BI.start {r : Rl} {ns : List (List UInt8)} {x : List UInt8} {mp : NMap} {pa : Nat → Nat} {h : Nat} (I : BI r x mp pa h) (hh : h < mp.length) : BJ r ns x mp pa h 0 :=
  ⟨I.c, hh, fun j h1 h2 => Nat.le_of_lt (I.ub j h1 h2), I.cl, fun j h1 h2 e => absurd (I.ub j h1 h2) (by omega), fun m hm => absurd hm (Nat.not_lt_zero _)⟩
theorem BJ.fin {r : Rl} {ns : List (List UInt8)} {x : List UInt8} {mp : NMap} {pa : Nat → Nat} {h : Nat} (J : BJ r ns x mp pa h ns.length) (hns : ∀ y, gat r.us y ≠ none → y ∈ ns) : BI r x mp pa (h + 1) := by
  refine ⟨J.c, J.lt, fun j h1 h2 => Nat.lt_succ_of_le (J.ub j h1 h2), fun i hi y a => ?_⟩
  rcases Nat.lt_or_ge i h with q | q
  · exact J.cl i q y a
  · obtain rfl : i = h := by omega
    obtain ⟨m, m1, m2⟩ := mem_iff_getD.1 (hns y a.kn.2)
    rw [← m2] at a ⊢
    obtain ⟨j, j1, j2⟩ := J.dn m m1 a
    refine ⟨j, j1, j2, ?_⟩
    rcases Nat.eq_zero_or_pos j with z | z
    · exact .inl z
    · exact .inr (J.ub j z j1)
theorem BJ.skip {r : Rl} {ns : List (List UInt8)} {x : List UInt8} {mp : NMap} {pa : Nat → Nat} {h k : Nat} (J : BJ r ns x mp pa h k) (hk : mGet mp (ns.getD k default) ≠ none ∨ ¬ spk r (nmA mp h) (ns.getD k default)) (hm : mGet mp (ns.getD k default) ≠ none → ns.getD k default ∈ mp.map (·.1)) : BJ r ns x mp pa h (k + 1) := by
  refine ⟨J.c, J.lt, J.ub, J.cl, fun j h1 h2 e => ?_, fun m hm2 a => ?_⟩
  · obtain ⟨m, m1, m2⟩ := J.pm j h1 h2 e
    exact ⟨m, by omega, m2⟩
  · rcases Nat.lt_or_ge m k with q | q
    · exact J.dn m q a
    · obtain rfl : m = k := by omega
      rcases hk with hk | hk
      · obtain ⟨j, j1, j2⟩ := mem_iff_getD.1 (hm hk)
        simp only [List.length_map] at j1
        rw [map_getD j1] at j2
        exact ⟨j, j1, j2⟩
      · exact absurd a hk
def paU (pa : Nat → Nat) (n h : Nat) : Nat → Nat := fun j => if j = n then h else pa j
theorem BJ.add {r : Rl} {ns : List (List UInt8)} (hs : SS ns) {x : List UInt8} {mp : NMap} {pa : Nat → Nat} {h k : Nat} (J : BJ r ns x mp pa h k) (hk : k < ns.length) (hn : ns.getD k default ∉ mp.map (·.1)) (ha : spk r (nmA mp h) (ns.getD k default)) : BJ r ns x (mp ++ [(ns.getD k default, nmA mp h)]) (paU pa mp.length h) h (k + 1) := by
  have hl : (mp ++ [(ns.getD k default, nmA mp h)]).length = mp.length + 1 := by simp
  have n1 : ∀ {j}, j < mp.length → nmA (mp ++ [(ns.getD k default, nmA mp h)]) j = nmA mp j := fun hj => by unfold nmA; rw [gA1 hj]
  have n2 : nmA (mp ++ [(ns.getD k default, nmA mp h)]) mp.length = ns.getD k default := by unfold nmA; rw [gA2 (Nat.le_refl _), Nat.sub_self]; rfl
  have p1 : ∀ {j}, j < mp.length → paU pa mp.length h j = pa j := fun hj => if_neg (by omega)
  have p2 : paU pa mp.length h mp.length = h := if_pos rfl
  have hp := J.c.pos
  have hh := J.lt
  refine ⟨⟨by omega, by rw [n1 hp]; exact J.c.d0, by rw [gA1 hp]; exact J.c.f0, fun j hj => ?_, ?_, fun j h1 h2 => ?_, fun j h1 h2 => ?_, fun j i h1 h2 h3 => ?_, fun j i h1 h2 h3 e => ?_⟩, by omega, fun j h1 h2 => ?_, fun i hi y a => ?_, fun j h1 h2 e => ?_, fun m hm a => ?_⟩
  · rw [hl] at hj
    rcases Nat.lt_or_ge j mp.length with q | q
    · rw [n1 q]; exact J.c.kn j q
    · obtain rfl : j = mp.length := by omega
      rw [n2]; exact ha.kn.2
  · rw [List.map_append, List.nodup_append]
    refine ⟨J.c.nd, by simp, fun a h1 b h2 e => ?_⟩
    simp only [List.map_cons, List.map_nil, List.mem_singleton] at h2
    subst e; subst h2; exact hn h1
  · rw [hl] at h2
    rcases Nat.lt_or_ge j mp.length with q | q
    · rw [p1 q]; exact J.c.lt j h1 q
    · obtain rfl : j = mp.length := by omega
      rw [p2]; exact hh
  · rw [hl] at h2
    rcases Nat.lt_or_ge j mp.length with q | q
    · have := J.c.lt j h1 q
      rw [p1 q, n1 q, n1 (by omega), gA1 q]; exact J.c.fr j h1 q
    · obtain rfl : j = mp.length := by omega
      rw [p2, n2, n1 hh, gA2 (Nat.le_refl _), Nat.sub_self]
      exact ⟨rfl, ha⟩
  · rw [hl] at h3
    rcases Nat.lt_or_ge i mp.length with q | q
    · rw [p1 q, p1 (by omega)]; exact J.c.mo j i h1 h2 q
    · obtain rfl : i = mp.length := by omega
      rw [p2]
      rcases Nat.lt_or_ge j mp.length with q2 | q2
      · rw [p1 q2]; exact J.ub j h1 q2
      · obtain rfl : j = mp.length := by omega
        rw [p2]; exact Nat.le_refl _
  · rw [hl] at h3
    rcases Nat.lt_or_ge i mp.length with q | q
    · rw [p1 q, p1 (by omega)] at e
      rw [n1 q, n1 (by omega)]; exact J.c.od j i h1 h2 q e
    · obtain rfl : i = mp.length := by omega
      rw [p2, p1 h2] at e
      rw [n2, n1 h2]
      obtain ⟨m, m1, m2⟩ := J.pm j h1 h2 e
      rw [m2]; exact hs m k m1 hk
  · rw [hl] at h2
    rcases Nat.lt_or_ge j mp.length with q | q
    · rw [p1 q]; exact J.ub j h1 q
    · obtain rfl : j = mp.length := by omega
      rw [p2]; exact Nat.le_refl _
  · rw [n1 (by omega)] at a
    obtain ⟨j, j1, j2, j3⟩ := J.cl i hi y a
    exact ⟨j, by omega, by rw [n1 j1]; exact j2, by rw [p1 j1]; exact j3⟩
  · rw [hl] at h2
    rcases Nat.lt_or_ge j mp.length with q | q
    · rw [p1 q] at e
      rw [n1 q]
      obtain ⟨m, m1, m2⟩ := J.pm j h1 q e
      exact ⟨m, by omega, m2⟩
    · obtain rfl : j = mp.length := by omega
      exact ⟨k, by omega, n2⟩
  · rw [n1 hh] at a
    rcases Nat.lt_or_ge m k with q | q
    · obtain ⟨j, j1, j2⟩ := J.dn m q a
      exact ⟨j, by omega, by rw [n1 j1]; exact j2⟩
    · obtain rfl : m = k := by omega
      exact ⟨mp.length, by omega, n2⟩
theorem BI.all {r : Rl} {x : List UInt8} {mp : NMap} {pa : Nat → Nat} {h : Nat} (I : BI r x mp pa h) {Q : List (List UInt8)} {z : List UInt8} (hq : Pth r x Q z) : (∃ i, i < mp.length ∧ nmA mp i = z ∧ (tpth mp pa i).length ≤ Q.length ∧ ((tpth mp pa i).length = Q.length → lxe (tpth mp pa i) Q)) ∨ (h < mp.length ∧ (tpth mp pa h).length < Q.length) := by
  induction hq with
  | one => exact .inl ⟨0, I.c.pos, I.c.d0, by rw [tpth0]; exact Nat.le_refl _, fun _ => .inl (by rw [tpth0, I.c.d0])⟩
  | snoc g b ih =>
    rename_i Q w z
    have hQ := g.pos
    rcases ih with ⟨i, i1, i2, i3, i4⟩ | ⟨h1, h2⟩
    · rcases Nat.lt_or_ge i h with q | q
      · rw [← i2] at b
        obtain ⟨j, j1, j2, j3⟩ := I.cl i q z b
        refine .inl ⟨j, j1, j2, ?_⟩
        rcases Nat.eq_zero_or_pos j with e | e
        · subst e
          rw [tpth0]; simp
          intro h; rw [h] at hQ; simp at hQ
        · have j3 := j3.resolve_left (by omega)
          rw [I.c.step e j1, j2]
          obtain ⟨m1, m2⟩ := I.c.mono i i1 (pa j) j3
          simp only [List.length_append, List.length_singleton]
          refine ⟨by omega, fun e => ?_⟩
          exact ((m2 (by omega)).trans (i4 (by omega))).snoc
      · have := (I.c.mono i i1 h q).1
        exact .inr ⟨by omega, by simp; omega⟩
    · exact .inr ⟨h1, by simp; omega⟩
theorem BI.found {r : Rl} {x : List UInt8} {mp : NMap} {pa : Nat → Nat} {h : Nat} (I : BI r x mp pa h) (hh : h < mp.length) : ChainOk r x (nmA mp h) (tpth mp pa h) := by
  have key : ∀ Q, Pth r x Q (nmA mp h) → (tpth mp pa h).length ≤ Q.length ∧ ((tpth mp pa h).length = Q.length → lxe (tpth mp pa h) Q) := fun Q hq => by
    rcases I.all hq with ⟨i, i1, i2, i3, i4⟩ | ⟨h1, h2⟩
    · have : i = h := by
        rcases Nat.lt_trichotomy i h with q | q | q
        · exact absurd (by rw [map_getD i1, map_getD hh]; exact i2) (nodup_ne I.c.nd q (by simp; omega))
        · exact q
        · exact absurd (by rw [map_getD i1, map_getD hh]; exact i2.symm) (nodup_ne I.c.nd q (by simp; omega))
      subst this
      exact ⟨i3, i4⟩
    · exact ⟨by omega, fun e => by omega⟩
  exact ⟨I.c.pth h hh, fun Q hq => (key Q hq).1, fun Q hq => (key Q hq).2⟩
theorem BI.lost {r : Rl} {x y : List UInt8} {mp : NMap} {pa : Nat → Nat} (I : BI r x mp pa mp.length) (hy : ∀ i, i < mp.length → nmA mp i ≠ y) (Q : List (List UInt8)) : ¬ Pth r x Q y := fun hq => by
  rcases I.all hq with ⟨i, i1, i2, i3, i4⟩ | ⟨h1, h2⟩
  · exact hy i i1 i2
  · omega
theorem mIdx_nd : ∀ {l : NMap} (hn : (l.map (·.1)).Nodup) {j : Nat} (hj : j < l.length) (i : Nat), mIdx (nmA l j) l i = some (i + j, (l.getD j default).2)
  | [], hn, j, hj, i => absurd hj (Nat.not_lt_zero _)
  | p :: l, hn, 0, hj, i => by
    unfold mIdx
    rw [if_pos (by rfl)]; rfl
  | p :: l, hn, j + 1, hj, i => by
    have h2 := List.nodup_cons.1 hn
    have hj' : j < l.length := by simp at hj; exact hj
    unfold mIdx
    rw [if_neg ?_]
    · show mIdx (nmA l j) l (i + 1) = _
      rw [mIdx_nd h2.2 hj' (i + 1)]
      show some _ = some _
      congr 2; omega
    · intro e
      refine h2.1 ?_
      show p.1 ∈ l.map (·.1)
      rw [show p.1 = nmA l j from e]
      exact List.mem_map.2 ⟨_, mem_getD hj', rfl⟩
theorem mGet_nd {l : NMap} (hn : (l.map (·.1)).Nodup) {j : Nat} (hj : j < l.length) : mGet l (nmA l j) = some (l.getD j default).2 := by
  unfold mGet
  rw [mIdx_nd hn hj 0]; rfl
theorem BC.len {r : Rl} (H : RO r) {x : List UInt8} {mp : NMap} {pa : Nat → Nat} (B : BC r x mp pa) : mp.length ≤ 64 := by
  have := nodup_leM B.nd (m := r.us.map (·.name)) fun y hy => by
    obtain ⟨j, j1, j2⟩ := mem_iff_getD.1 hy
    simp only [List.length_map] at j1
    rw [map_getD j1] at j2
    exact gat_name (j2 ▸ B.kn j j1)
  have := H.l64
  simp at *; omega
/-- What the law asks of chains. -/
theorem ChainOk.back {r : Rl} {x y : List UInt8} {P R : List (List UInt8)} (h : ChainOk r x y P) (g : ChainOk r y x R) : P.length = R.length := by
  have h1 := h.sh _ g.pth.rev
  have h2 := g.sh _ h.pth.rev
  simp at h1 h2
  omega
theorem ChainOk.self {r : Rl} {x : List UInt8} {P : List (List UInt8)} (h : ChainOk r x x P) : P.length = 1 := by
  have h1 := h.sh _ .one
  have := h.pth.pos
  simp at h1; omega
end Go.Proofs.Xx

/-
  An odd ring: plain law.
-/
namespace Go.Proofs.Xx
set_option linter.unusedSimpArgs false
set_option linter.unusedVariables false
set_option linter.unusedSectionVars false

/-- An odd ring of feuds. -/
structure RingOk (r : Rl) (R : List (List UInt8)) : Prop where
  odd : R.length % 2 = 1
  three : 3 ≤ R.length
  nd : ∀ i j, i < j → j < R.length → R.getD i default ≠ R.getD j default
  adj : ∀ i, i < R.length → adj r 2 (R.getD i default) (R.getD ((i + 1) % R.length) default)
/-- Who led to whom, and how far from the first one. -/
structure Tree (r : Rl) (fr : List UInt8 → List UInt8) (dep : List UInt8 → Nat) (met : List UInt8 → Prop) : Prop where
  up : ∀ x, met x → 0 < dep x → met (fr x) ∧ dep (fr x) + 1 = dep x ∧ Xx.adj r 2 (fr x) x
def anc (fr : List UInt8 → List UInt8) (x : List UInt8) : Nat → List UInt8
  | 0 => x
  | k + 1 => fr (anc fr x k)
theorem anc_ok {r : Rl} {fr : List UInt8 → List UInt8} {dep : List UInt8 → Nat} {met : List UInt8 → Prop} (T : Tree r fr dep met) {x : List UInt8} (hx : met x) : ∀ {k : Nat}, k ≤ dep x → met (anc fr x k) ∧ dep (anc fr x k) + k = dep x
  | 0, _ => ⟨hx, rfl⟩
  | k + 1, h => by
    obtain ⟨h1, h2⟩ := anc_ok T hx (k := k) (by omega)
    obtain ⟨g1, g2, -⟩ := T.up _ h1 (by omega)
    exact ⟨g1, by show dep (fr (anc fr x k)) + (k + 1) = dep x; omega⟩
def ringL (fr : List UInt8 → List UInt8) (x y : List UInt8) (n : Nat) : List (List UInt8) := (List.range n).map (anc fr x) ++ [anc fr x n] ++ ((List.range n).map (anc fr y)).reverse
end Go.Proofs.Xx

/-
  An odd ring, found.
-/
namespace Go.Proofs.Xx
open Go Go.Proofs
set_option linter.unusedSimpArgs false
set_option linter.unusedVariables false
set_option linter.unusedSectionVars false
set_option maxRecDepth 100000
set_option maxHeartbeats 4000000

/-- A spot: its camp and who led to it. -/
def eSp (x : Int × List UInt8) : Value := .agg #[.int .i64 x.1, str x.2]
abbrev CMap := List (List UInt8 × (Int × List UInt8))
def frM (mp : CMap) (x : List UInt8) : List UInt8 := match mGet mp x with | some p => p.2 | none => []
def cmM (mp : CMap) (x : List UInt8) : Int := match mGet mp x with | some p => p.1 | none => 0
variable [Flag]
end Go.Proofs.Xx

/-
  Camps: the search, plain part.
-/
namespace Go.Proofs.Xx
open Go Go.Proofs
set_option linter.unusedSimpArgs false
set_option linter.unusedVariables false
set_option linter.unusedSectionVars false

theorem frM_put {mp : CMap} {f : List UInt8} {p : Int × List UInt8} (x : List UInt8) : frM (mPut mp f p) x = if x = f then p.2 else frM mp x := by
  unfold frM; rw [mGet_put]
  by_cases e : x = f
  · rw [if_pos e, if_pos e]
  · rw [if_neg e, if_neg e]
theorem cmM_put {mp : CMap} {f : List UInt8} {p : Int × List UInt8} (x : List UInt8) : cmM (mPut mp f p) x = if x = f then p.1 else cmM mp x := by
  unfold cmM; rw [mGet_put]
  by_cases e : x = f
  · rw [if_pos e, if_pos e]
  · rw [if_neg e, if_neg e]
theorem met_put {mp : CMap} {f : List UInt8} {p : Int × List UInt8} (x : List UInt8) : mGet (mPut mp f p) x ≠ none ↔ (x = f ∨ mGet mp x ≠ none) := by
  rw [mGet_put]
  by_cases e : x = f <;> simp [e]
theorem put_new {mp : CMap} {f : List UInt8} {p : Int × List UInt8} (h : mGet mp f = none) : mPut mp f p = mp ++ [(f, p)] := by
  unfold mPut; rw [mGet_none h]
theorem mIdx_mem {α : Type} {k : List UInt8} : ∀ {l : List (List UInt8 × α)} {i : Nat}, mIdx k l i ≠ none ↔ k ∈ l.map (·.1)
  | [], i => by simp [mIdx]
  | p :: r, i => by
    unfold mIdx
    by_cases e : p.1 = k
    · simp [e]
    · rw [if_neg e, mIdx_mem (l := r)]
      rw [List.map_cons, List.mem_cons]
      exact ⟨.inr, fun q => q.resolve_left fun z => e z.symm⟩
theorem met_mem {mp : CMap} {x : List UInt8} : mGet mp x ≠ none ↔ x ∈ mp.map (·.1) := by
  rw [← mIdx_mem (l := mp) (i := 0)]
  unfold mGet
  cases mIdx x mp 0 <;> simp
/-- What is met: a forest with camps by depth. -/
structure CI (r : Rl) (mp : CMap) (dep : List UInt8 → Nat) : Prop where
  tree : Tree r (frM mp) dep (fun x => mGet mp x ≠ none)
  camp : ∀ x, mGet mp x ≠ none → cmM mp x = ((dep x % 2 : Nat) : Int)
  kn : ∀ x, mGet mp x ≠ none → gat r.us x ≠ none
  nd : (mp.map (·.1)).Nodup
  dl : ∀ x, mGet mp x ≠ none → dep x < mp.length
def depU (dep : List UInt8 → Nat) (f : List UInt8) (d : Nat) : List UInt8 → Nat := fun x => if x = f then d else dep x
theorem CI.len {r : Rl} (H : RO r) {mp : CMap} {dep : List UInt8 → Nat} (I : CI r mp dep) : mp.length ≤ 64 := by
  have := nodup_leM I.nd (m := r.us.map (·.name)) fun x hx => gat_name (I.kn x (met_mem.2 hx))
  have := H.l64
  simp at *; omega
theorem CI.put {r : Rl} {mp : CMap} {dep : List UInt8 → Nat} (I : CI r mp dep) {f n : List UInt8} {c : Int} {d : Nat} (hf : mGet mp f = none) (hk : gat r.us f ≠ none) (h : (d = 0 ∧ c = 0) ∨ (mGet mp n ≠ none ∧ d = dep n + 1 ∧ adj r 2 n f ∧ c = 1 - cmM mp n)) : CI r (mPut mp f (c, n)) (depU dep f d) := by
  refine ⟨⟨fun x hx h0 => ?_⟩, fun x hx => ?_, fun x hx => ?_, ?_, fun x hx => ?_⟩
  · rw [met_put] at hx
    rw [met_put, frM_put]
    unfold depU at h0 ⊢
    by_cases e : x = f
    · subst e
      rw [if_pos rfl] at h0
      rw [if_pos rfl, if_pos rfl]
      rcases h with ⟨h1, h2⟩ | ⟨h1, h2, h3, h4⟩
      · omega
      · have hn : n ≠ x := fun q => h1 (q ▸ hf)
        exact ⟨.inr h1, by rw [if_neg hn]; exact h2.symm, h3⟩
    · rw [if_neg e] at h0
      rw [if_neg e, if_neg e]
      obtain ⟨g1, g2, g3⟩ := I.tree.up x (hx.resolve_left e) h0
      have hn : frM mp x ≠ f := fun q => g1 (q ▸ hf)
      exact ⟨.inr g1, by rw [if_neg hn]; exact g2, g3⟩
  · rw [met_put] at hx
    rw [cmM_put]
    unfold depU
    by_cases e : x = f
    · rw [if_pos e, if_pos e]
      rcases h with ⟨h1, h2⟩ | ⟨h1, h2, h3, h4⟩
      · rw [h1]; exact h2
      · show c = _
        rw [h4, I.camp n h1, h2]; omega
    · rw [if_neg e, if_neg e]; exact I.camp x (hx.resolve_left e)
  · rw [met_put] at hx
    rcases hx with e | e
    · rw [e]; exact hk
    · exact I.kn x e
  · rw [put_new hf, List.map_append, List.nodup_append]
    refine ⟨I.nd, by simp, fun a ha b hb e => ?_⟩
    simp only [List.map_cons, List.map_nil, List.mem_singleton] at hb
    exact met_mem.2 ha (e ▸ hb ▸ hf)
  · rw [met_put] at hx
    unfold depU
    rw [put_new hf, List.length_append, List.length_singleton]
    by_cases e : x = f
    · rw [if_pos e]
      rcases h with ⟨h1, h2⟩ | ⟨h1, h2, h3, h4⟩
      · omega
      · have := I.dl n h1; omega
    · rw [if_neg e]
      have := I.dl x (hx.resolve_left e); omega
theorem anc_succ (fr : List UInt8 → List UInt8) (x : List UInt8) : ∀ k, anc fr x (k + 1) = anc fr (fr x) k
  | 0 => rfl
  | k + 1 => congrArg fr (anc_succ fr x k)
theorem CI.anc {r : Rl} {mp : CMap} {dep : List UInt8 → Nat} (I : CI r mp dep) {f : List UInt8} {p : Int × List UInt8} (hf : mGet mp f = none) {x : List UInt8} (hx : mGet mp x ≠ none) : ∀ {k : Nat}, k ≤ dep x → Xx.anc (frM (mPut mp f p)) x k = Xx.anc (frM mp) x k
  | 0, _ => rfl
  | k + 1, h => by
    show frM _ (Xx.anc _ x k) = frM _ (Xx.anc _ x k)
    rw [I.anc hf hx (by omega), frM_put, if_neg]
    intro q
    have := (anc_ok I.tree hx (k := k) (by omega)).1
    exact this (q ▸ hf)
def gnm (r : Rl) (j : Nat) : List UInt8 := (r.us.getD j default).name
/-- Between two searches. -/
structure OI (r : Rl) (i : Nat) (mp : CMap) (dep : List UInt8 → Nat) : Prop where
  ci : CI r mp dep
  cl : ∀ x, mGet mp x ≠ none → ∀ y, adj r 2 x y → mGet mp y ≠ none ∧ cmM mp y ≠ cmM mp x
  gm : ∀ j, j < i → mGet mp (gnm r j) ≠ none
  z : ∀ j, j < i → cmM mp (gnm r j) = 0 ∨ ∃ k, k < j ∧ Rch r 2 (gnm r k) (gnm r j)
  rc : ∀ x, mGet mp x ≠ none → ∃ k, k < i ∧ Rch r 2 (gnm r k) x
/-- In the search from the i-th guest: O is what was met before, q the line. -/
structure SI (r : Rl) (i : Nat) (O : List UInt8 → Prop) (mp : CMap) (dep : List UInt8 → Nat) (q : List (List UInt8)) : Prop where
  ci : CI r mp dep
  om : ∀ x, O x → mGet mp x ≠ none
  oc : ∀ x, O x → ∀ y, adj r 2 x y → O y ∧ cmM mp y ≠ cmM mp x
  gm : ∀ j, j ≤ i → mGet mp (gnm r j) ≠ none
  z : ∀ j, j ≤ i → cmM mp (gnm r j) = 0 ∨ ∃ k, k < j ∧ Rch r 2 (gnm r k) (gnm r j)
  orc : ∀ x, O x → ∃ k, k < i ∧ Rch r 2 (gnm r k) x
  rt : ∀ x, mGet mp x ≠ none → ¬ O x → Xx.anc (frM mp) x (dep x) = gnm r i ∧ Rch r 2 (gnm r i) x
  qm : ∀ x ∈ q, mGet mp x ≠ none ∧ ¬ O x
  qs : ∀ a b, a < b → b < q.length → dep (q.getD a default) ≤ dep (q.getD b default)
  qd : ∀ x ∈ q, dep x ≤ dep (q.getD 0 default) + 1
  dn : ∀ x, mGet mp x ≠ none → ¬ O x → x ∉ q → (q ≠ [] → dep x ≤ dep (q.getD 0 default)) ∧ ∀ y, adj r 2 x y → mGet mp y ≠ none ∧ cmM mp y ≠ cmM mp x
  ql : q.length ≤ mp.length
theorem OI.root {r : Rl} {i : Nat} {mp : CMap} {dep : List UInt8 → Nat} (I : OI r i mp dep) (hs : mGet mp (gnm r i) = none) (hk : gat r.us (gnm r i) ≠ none) : SI r i (fun x => mGet mp x ≠ none) (mPut mp (gnm r i) (0, [])) (depU dep (gnm r i) 0) [gnm r i] := by
  have nm : ∀ {x}, mGet mp x ≠ none → x ≠ gnm r i := fun hx q => hx (q ▸ hs)
  refine ⟨I.ci.put hs hk (.inl ⟨rfl, rfl⟩), fun x hx => (met_put x).2 (.inr hx), fun x hx y a => ?_, fun j hj => ?_, fun j hj => ?_, I.rc, fun x hx hn => ?_, fun x hx => ?_, fun a b h1 h2 => ?_, fun x hx => ?_, fun x hx h1 h2 => ?_, ?_⟩
  · obtain ⟨h1, h2⟩ := I.cl x hx y a
    rw [cmM_put, cmM_put, if_neg (nm h1), if_neg (nm hx)]
    exact ⟨h1, h2⟩
  · rw [met_put]
    rcases Nat.lt_or_ge j i with q | q
    · exact .inr (I.gm j q)
    · obtain rfl : j = i := by omega
      exact .inl rfl
  · rw [cmM_put]
    rcases Nat.lt_or_ge j i with q | q
    · rw [if_neg (nm (I.gm j q))]; exact I.z j q
    · obtain rfl : j = i := by omega
      exact .inl (if_pos rfl)
  · have e := ((met_put x).1 hx).resolve_right hn
    subst e
    have : depU dep (gnm r i) 0 (gnm r i) = 0 := if_pos rfl
    rw [this]
    exact ⟨rfl, .refl⟩
  · rw [List.mem_singleton] at hx
    subst hx
    exact ⟨(met_put _).2 (.inl rfl), fun q => q hs⟩
  · rw [List.length_singleton] at h2; omega
  · rw [List.mem_singleton] at hx
    subst hx
    exact Nat.le_succ _
  · exact absurd (List.mem_singleton.2 (((met_put x).1 hx).resolve_right h1)) h2
  · rw [put_new hs]; simp
theorem getD0_app {l : List (List UInt8)} {x : List UInt8} (h : l ≠ []) : (l ++ [x]).getD 0 default = l.getD 0 default := by
  cases l with
  | nil => exact absurd rfl h
  | cons y l => rfl
theorem SI.add {r : Rl} {i : Nat} {O : List UInt8 → Prop} {mp : CMap} {dep : List UInt8 → Nat} {q : List (List UInt8)} (I : SI r i O mp dep q) (hq : q ≠ []) {n f : List UInt8} (hn : q.getD 0 default = n) (hf : mGet mp f = none) (hk : gat r.us f ≠ none) (ha : adj r 2 n f) : SI r i O (mPut mp f (1 - cmM mp n, n)) (depU dep f (dep n + 1)) (q ++ [f]) := by
  have hn2 : n ∈ q := by
    rw [← hn]; exact mem_getD (List.length_pos_iff.2 hq)
  obtain ⟨nm, no⟩ := I.qm n hn2
  have ne : ∀ {x}, mGet mp x ≠ none → x ≠ f := fun hx e => hx (e ▸ hf)
  have du : ∀ {x}, mGet mp x ≠ none → depU dep f (dep n + 1) x = dep x := fun hx => if_neg (ne hx)
  have duf : depU dep f (dep n + 1) f = dep n + 1 := if_pos rfl
  have fO : ¬ O f := fun h => I.om f h hf
  refine ⟨I.ci.put hf hk (.inr ⟨nm, rfl, ha, rfl⟩), fun x hx => (met_put x).2 (.inr (I.om x hx)), fun x hx y a => ?_, fun j hj => (met_put _).2 (.inr (I.gm j hj)), fun j hj => ?_, I.orc, fun x hx hn => ?_, fun x hx => ?_, fun a b h1 h2 => ?_, fun x hx => ?_, fun x hx h1 h2 => ?_, ?_⟩
  · obtain ⟨h1, h2⟩ := I.oc x hx y a
    rw [cmM_put, cmM_put, if_neg (ne (I.om _ h1)), if_neg (ne (I.om _ hx))]
    exact ⟨h1, h2⟩
  · rw [cmM_put, if_neg (ne (I.gm j hj))]; exact I.z j hj
  · rw [met_put] at hx
    by_cases e : x = f
    · subst e
      rw [duf, anc_succ, frM_put, if_pos rfl]
      show Xx.anc _ n (dep n) = _ ∧ _
      rw [I.ci.anc hf nm (Nat.le_refl _)]
      obtain ⟨h1, h2⟩ := I.rt n nm no
      exact ⟨h1, h2.step ha⟩
    · have hx := hx.resolve_left e
      rw [du hx, I.ci.anc hf hx (Nat.le_refl _)]
      exact I.rt x hx hn
  · rw [met_put]
    rcases List.mem_append.1 hx with h | h
    · exact ⟨.inr (I.qm x h).1, (I.qm x h).2⟩
    · rw [List.mem_singleton] at h
      exact ⟨.inl h, h ▸ fO⟩
  · rw [List.length_append, List.length_singleton] at h2
    rw [gA1 (show a < q.length by omega), du (I.qm _ (mem_getD (show a < q.length by omega))).1]
    rcases Nat.lt_or_ge b q.length with h | h
    · rw [gA1 h, du (I.qm _ (mem_getD h)).1]; exact I.qs a b h1 h
    · rw [gA2 h, show b - q.length = 0 by omega]
      show _ ≤ depU _ _ _ f
      rw [duf]
      have := I.qd _ (mem_getD (show a < q.length by omega))
      rw [hn] at this; exact this
  · rw [getD0_app hq, hn, du nm]
    rcases List.mem_append.1 hx with h | h
    · rw [du (I.qm x h).1, ← hn]; exact I.qd x h
    · rw [List.mem_singleton.1 h, duf]; exact Nat.le_refl _
  · rw [List.mem_append, List.mem_singleton, not_or] at h2
    have hx := ((met_put x).1 hx).resolve_left h2.2
    obtain ⟨g1, g2⟩ := I.dn x hx h1 h2.1
    rw [getD0_app hq, hn, du nm, du hx, ← hn]
    refine ⟨fun _ => g1 hq, fun y a => ?_⟩
    obtain ⟨k1, k2⟩ := g2 y a
    rw [cmM_put, cmM_put, if_neg (ne k1), if_neg (ne hx)]
    exact ⟨(met_put y).2 (.inr k1), k2⟩
  · have := I.ql
    rw [put_new hf]; simp; exact this
/-- The head of the line is done. -/
theorem SI.pop {r : Rl} {i : Nat} {O : List UInt8 → Prop} {mp : CMap} {dep : List UInt8 → Nat} {n : List UInt8} {q : List (List UInt8)} (I : SI r i O mp dep (n :: q)) (hd : ∀ y, adj r 2 n y → mGet mp y ≠ none ∧ cmM mp y ≠ cmM mp n) : SI r i O mp dep q := by
  have hq0 : q ≠ [] → dep n ≤ dep (q.getD 0 default) := fun hq => by
    have := I.qs 0 1 (by omega) (by have := List.length_pos_iff.2 hq; simp; omega)
    exact this
  refine ⟨I.ci, I.om, I.oc, I.gm, I.z, I.orc, I.rt, fun x hx => I.qm x (.tail _ hx), fun a b h1 h2 => I.qs (a + 1) (b + 1) (by omega) (by simp; omega), fun x hx => ?_, fun x hx h1 h2 => ?_, by have := I.ql; simp at this; omega⟩
  · have h1 : dep x ≤ dep n + 1 := I.qd x (.tail _ hx)
    have h2 := hq0 (List.ne_nil_of_mem hx)
    omega
  · by_cases e : x = n
    · subst e
      exact ⟨hq0, hd⟩
    · obtain ⟨g1, g2⟩ := I.dn x hx h1 (by simp [e, h2])
      refine ⟨fun hq => ?_, g2⟩
      have h3 : dep x ≤ dep n := g1 (by simp)
      have := hq0 hq
      omega
theorem SI.fin {r : Rl} {i : Nat} {O : List UInt8 → Prop} {mp : CMap} {dep : List UInt8 → Nat} (I : SI r i O mp dep []) : OI r (i + 1) mp dep := by
  refine ⟨I.ci, fun x hx y a => ?_, fun j hj => I.gm j (by omega), fun j hj => I.z j (by omega), fun x hx => ?_⟩
  · by_cases h : O x
    · obtain ⟨h1, h2⟩ := I.oc x h y a
      exact ⟨I.om y h1, h2⟩
    · exact (I.dn x hx h (by simp)).2 y a
  · by_cases h : O x
    · obtain ⟨k, h1, h2⟩ := I.orc x h
      exact ⟨k, by omega, h2⟩
    · exact ⟨i, by omega, (I.rt x hx h).2⟩
theorem OI.skip {r : Rl} {i : Nat} {mp : CMap} {dep : List UInt8 → Nat} (I : OI r i mp dep) (h : mGet mp (gnm r i) ≠ none) : OI r (i + 1) mp dep := by
  refine ⟨I.ci, I.cl, fun j hj => ?_, fun j hj => ?_, fun x hx => ?_⟩
  · rcases Nat.lt_or_ge j i with q | q
    · exact I.gm j q
    · obtain rfl : j = i := by omega
      exact h
  · rcases Nat.lt_or_ge j i with q | q
    · exact I.z j q
    · obtain rfl : j = i := by omega
      exact .inr (I.rc _ h)
  · obtain ⟨k, h1, h2⟩ := I.rc x hx
    exact ⟨k, by omega, h2⟩
/-- Two enemies in one camp. -/
theorem SI.clash {r : Rl} (H : RO r) {i : Nat} {O : List UInt8 → Prop} {mp : CMap} {dep : List UInt8 → Nat} {q : List (List UInt8)} (I : SI r i O mp dep q) (hq : q ≠ []) {n f : List UInt8} (hn : q.getD 0 default = n) (hf : mGet mp f ≠ none) (ha : adj r 2 n f) (hc : cmM mp f = cmM mp n) : mGet mp n ≠ none ∧ dep n = dep f ∧ n ≠ f ∧ Xx.anc (frM mp) n (dep n) = Xx.anc (frM mp) f (dep n) ∧ dep n ≤ 64 := by
  have hn2 : n ∈ q := by
    rw [← hn]; exact mem_getD (List.length_pos_iff.2 hq)
  obtain ⟨nm, no⟩ := I.qm n hn2
  have fO : ¬ O f := fun h => no (I.oc f h n ha.symm).1
  have fq : f ∈ q := by
    apply Classical.byContradiction
    intro h
    exact ((I.dn f hf fO h).2 n ha.symm).2 hc.symm
  have h1 := I.qd f fq
  have h2 : dep (q.getD 0 default) ≤ dep f := by
    obtain ⟨j, j1, j2⟩ := mem_iff_getD.1 fq
    rcases Nat.eq_zero_or_pos j with e | e
    · subst e; rw [j2]; exact Nat.le_refl _
    · have := I.qs 0 j e j1
      rw [j2] at this; exact this
  rw [hn] at h1 h2
  have h3 := I.ci.camp f hf
  have h4 := I.ci.camp n nm
  rw [hc, h4] at h3
  have hd : dep n = dep f := by omega
  have hl := I.ci.len H
  have := I.ci.dl n nm
  refine ⟨nm, hd, (adj_known H ha).2.2, ?_, by omega⟩
  rw [(I.rt n nm no).1, hd, (I.rt f hf fO).1]
/-- Two camps. -/
structure CampOk (r : Rl) (cs : List Int) : Prop where
  len : cs.length = r.us.length
  b : ∀ i, i < cs.length → cs.getD i default = 0 ∨ cs.getD i default = 1
  ne : ∀ i j, i < cs.length → j < cs.length → adj r 2 (gnm r i) (gnm r j) → cs.getD i default ≠ cs.getD j default
  z : ∀ j, j < cs.length → cs.getD j default = 0 ∨ ∃ k, k < j ∧ Rch r 2 (gnm r k) (gnm r j)
theorem OI.camps {r : Rl} {mp : CMap} {dep : List UInt8 → Nat} (I : OI r r.us.length mp dep) : CampOk r ((List.range r.us.length).map fun i => cmM mp (gnm r i)) := by
  have g : ∀ i, i < r.us.length → ((List.range r.us.length).map fun i => cmM mp (gnm r i)).getD i default = cmM mp (gnm r i) := fun i hi => by
    rw [List.getD_eq_getElem?_getD]; simp [hi]
  refine ⟨by simp, fun i hi => ?_, fun i j hi hj a => ?_, fun j hj => ?_⟩
  · simp at hi
    rw [g i hi, I.ci.camp _ (I.gm i hi)]; omega
  · simp at hi hj
    rw [g i hi, g j hj]
    exact fun q => (I.cl _ (I.gm i hi) _ a).2 q.symm
  · simp at hj
    rw [g j hj]; exact I.z j hj
end Go.Proofs.Xx

/-
  Camps.
-/
namespace Go.Proofs.Xx
open Go Go.Proofs
set_option linter.unusedSimpArgs false
set_option linter.unusedVariables false
set_option linter.unusedSectionVars false
set_option maxRecDepth 100000
set_option maxHeartbeats 4000000

theorem Hs.one_ {α : Type} {h0 h : AH} {u : Value} {e : TypeId} {z : Nat} {enc : α → List Value} {x : α} {rs : List Rs} (S : Hs h0 h (.sl u e z eRaw [enc x] :: rs)) : Hs h0 h (.sl u e z enc [x] :: rs) := by
  obtain ⟨fp, k1, k2, k3⟩ := S.sep
  refine ⟨S.ext, fp, ?_, k2, k3⟩
  rcases k1 with ⟨q1, q2⟩ | ⟨b, o, cc, slk, cap, h1, h2, h3, h4, h5⟩
  · cases q2
  · exact .inr ⟨b, o, cc, slk, cap, h1, h2, h3, (by simpa [eRaw] using h4), h5⟩
variable [Flag]
end Go.Proofs.Xx

/-
  Chain.
-/
namespace Go.Proofs.Xx
open Go Go.Proofs
set_option linter.unusedSimpArgs false
set_option linter.unusedVariables false
set_option linter.unusedSectionVars false
set_option maxRecDepth 100000
set_option maxHeartbeats 4000000

theorem drop_get0 {mp : NMap} {h : Nat} : ((mp.map (·.1)).drop h).getD 0 default = nmA mp h := by
  unfold nmA
  rw [List.getD_eq_getElem?_getD, List.getD_eq_getElem?_getD, List.getElem?_drop, List.getElem?_map, Nat.add_zero]
  cases mp[h]? <;> rfl
theorem mGet_mem {α : Type} {mp : List (List UInt8 × α)} {x : List UInt8} : mGet mp x ≠ none ↔ x ∈ mp.map (·.1) := by
  rw [← mIdx_mem (l := mp) (i := 0)]
  unfold mGet
  cases mIdx x mp 0 <;> simp
theorem mPut_new {α : Type} {mp : List (List UInt8 × α)} {f : List UInt8} {p : α} (h : mGet mp f = none) : mPut mp f p = mp ++ [(f, p)] := by
  unfold mPut; rw [mGet_none h]
theorem gat_ne {r : Rl} (H : RO r) {n : List UInt8} (h : gat r.us n ≠ none) : n ≠ [] := by
  obtain ⟨g, h1, h2⟩ := gat_mem.1 h
  have := (chkG_ok (H.chk g h1)).1.1
  rw [h2] at this
  intro e
  rw [e] at this
  exact absurd this.1 (by decide)
variable [Flag]
theorem chain_ok {h0 : AH} (w : WfH h0) {p : Nat} {r : Rl} (B : BkRd h0 p r) (H : RO r) (a b : List UInt8) : Fn Tryz.prog Xh 29 [.pointer (some ⟨p, 0, none⟩), str a, str b] h0 (fun u h' => (∃ v P, u = .tuple #[v, .bool true] ∧ Hs h0 h' [.sl v 9 1 eS P] ∧ gat r.us a ≠ none ∧ gat r.us b ≠ none ∧ ChainOk r a b P ∧ P.length ≤ 64) ∨ (u = .tuple #[.slice none 0 0, .bool false] ∧ (gat r.us a ≠ none → gat r.us b ≠ none → ∀ Q, ¬ Pth r a Q b) ∧ Hs h0 h' [])) := by
  have S := Hs.start w
  have B0 := B
  obtain ⟨s, B⟩ := B
  have hb := B.bk
  have h64 := H.l64
  have hmp := B.mp
  refine Fn_K rfl Tryz.func29 rfl rfl ?_
  all_goals (repeat' (first | refine K_seq ?_ | refine k_cond rfl ?_ | refine K_skip ?_ | refine K_exit ?_ | refine k_block ?_ | refine K_scope ?_ | refine K_label ?_ | (refine K_region (id := 0) ?_; refine mv ?_; refine mv ?_; refine KO_nil ?_) | (refine K_region (id := 1) ?_; refine mv ?_)))
  (refine KO_fn rfl rfl rfl rfl rfl ((bnone_ok S.wf (S.ext.get w hb)).mono ?_); rintro _ h ⟨rfl, x⟩) <;> (replace S := S.join0 x; clear x; refine KO_nil ?_)
  all_goals (repeat' (first | refine K_seq ?_ | refine k_cond rfl ?_ | refine K_skip ?_ | refine K_exit ?_ | refine k_block ?_ | refine K_scope ?_ | refine K_label ?_ | (refine K_region (id := 2) ?_; refine mv ?_; refine mv ?_; refine KO_nil ?_) | (refine K_region (id := 3) ?_; refine mv ?_; refine vl ?_; (first | refine vl ?_ | refine fB S ?_ | refine fS S rfl rfl ?_ | refine fA ?_); (first | refine lB S rfl rfl ?_ | refine lES2 S rfl rfl ?_ | refine lEB S ?_ | refine lH S ?_); refine mv ?_)))
  have hmp1 := hmp.ext w S.ext
  refine lkR hmp1 (fun i hi => ?_) (fun hi => ?_)
  all_goals rw [B.at_ a] at hi
  all_goals simp only [okV]
  all_goals (refine mv ?_; refine vl ?_; refine vl ?_; refine mv ?_; refine mv ?_; refine KO_nil ?_)
  all_goals (all_goals (repeat' (first | refine K_seq ?_ | refine k_cond rfl ?_ | refine K_skip ?_ | refine K_exit ?_ | refine k_block ?_ | refine K_scope ?_ | refine K_label ?_ | (refine K_region (id := 4) ?_; refine mv ?_; refine vl ?_; (first | refine vl ?_ | refine fB S ?_ | refine fS S rfl rfl ?_ | refine fA ?_); (first | refine lB S rfl rfl ?_ | refine lES2 S rfl rfl ?_ | refine lEB S ?_ | refine lH S ?_); refine mv ?_))))
  all_goals (refine lkR hmp1 (fun j hj => ?_) (fun hj => ?_))
  all_goals rw [B.at_ b] at hj
  all_goals simp only [okV]
  all_goals (refine mv ?_; refine vl ?_; refine vl ?_; refine mv ?_; refine mv ?_; refine KO_nil ?_)
  all_goals (skip)
  all_goals (all_goals (repeat' (first | refine K_seq ?_ | refine k_cond rfl ?_ | refine K_skip ?_ | refine K_exit ?_ | refine k_block ?_ | refine K_scope ?_ | refine K_label ?_ | (refine K_region (id := 5) ?_; refine mv ?_; refine vl ?_; refine mv ?_; (first | refine off ?_ | refine mv ?_); (first | refine off ?_ | refine vl ?_); refine vl ?_; refine KO_nil ?_) | (refine K_region (id := 6) ?_; refine mv ?_; refine mv ?_; refine KO_nil ?_))))
  rotate_left
  · refine K_ret ⟨_, rfl, ?_⟩
    exact .inr ⟨rfl, fun _ q => absurd (by cases hq : gat r.us b with | none => rfl | some i => rw [hq] at hj; cases hj) q, S.drop⟩
  · refine K_ret ⟨_, rfl, ?_⟩
    exact .inr ⟨rfl, fun q _ => absurd (by cases hq : gat r.us a with | none => rfl | some i => rw [hq] at hi; cases hi) q, S.drop⟩
  · refine K_ret ⟨_, rfl, ?_⟩
    exact .inr ⟨rfl, fun q _ => absurd (by cases hq : gat r.us a with | none => rfl | some i => rw [hq] at hi; cases hi) q, S.drop⟩
  have hak : gat r.us a ≠ none := fun q => by rw [q] at hi; cases hi
  have hbk : gat r.us b ≠ none := fun q => by rw [q] at hj; cases hj
  clear hi hj
  skip
  all_goals (repeat' (first | refine K_seq ?_ | refine k_cond rfl ?_ | refine K_skip ?_ | refine K_exit ?_ | refine k_block ?_ | refine K_scope ?_ | refine K_label ?_ | (refine K_region (id := 7) ?_; refine mv ?_)))
  (refine KO_fn rfl rfl rfl rfl rfl ((bnames_ok S.wf (B0.ext w S.ext) H).mono ?_); rintro un h ⟨ns, x, n1, n2, n3⟩) <;> (replace S := S.join1 x; clear x; refine mv ?_; refine KO_nil ?_)
  all_goals (repeat' (first | refine K_seq ?_ | refine k_cond rfl ?_ | refine K_skip ?_ | refine K_exit ?_ | refine k_block ?_ | refine K_scope ?_ | refine K_label ?_ | (refine K_region (id := 8) ?_; skip)))
  refine mkm (α := List UInt8) str S ?_; clear S; intro m h S; (refine mv ?_)
  refine up (x := ([] : List UInt8)) (key := a) S .here .here (fun h S => ?_) (.inr rfl)
  (refine mv ?_; refine mv ?_; refine KO_nil ?_)
  all_goals (repeat' (first | refine K_seq ?_ | refine k_cond rfl ?_ | refine K_skip ?_ | refine K_exit ?_ | refine k_block ?_ | refine K_scope ?_ | refine K_label ?_ | (refine K_region (id := 9) ?_; refine mv ?_; (refine one 1 S ?_; clear S; intro u h S); refine mv ?_; refine KO_nil ?_)))
  have S := S.one_ (enc := eS) (x := a)
  have S := (show Hs h0 h [.sl u 9 1 eS [a], .mp m str [(a, [])], .sl un 9 1 eS ns] from S)
  refine k_loop (σ := Nat × NMap × (Nat → Nat) × Value) (fun (k, mp, pa, v14) h' => Hs h0 h' [.sl v14 9 1 eS ((mp.map (·.1)).drop k), .mp m str mp, .sl un 9 1 eS ns] ∧ BI r a mp pa k ∧ (∀ i, i < k → nmA mp i ≠ b)) (fun (k, mp, pa, v14) => 65 - k) (fun (k, mp, pa, v14) => [(0, .pointer (some ⟨p, 0, none⟩)), (2, str b), (12, un), (13, .map (some m)), (14, v14)]) (0, [(a, [])], (fun _ => 0), u) (by repeat (first | exact Ks.le_nil _ | refine Ks.le_cons rfl ?_ | refine Ks.le_int ?_)) ?_ ?_
  · exact ⟨S, BI.one hak, fun i hi => absurd hi (Nat.not_lt_zero _)⟩
  clear S
  rintro ⟨k, mp, pa, v14⟩ h ⟨S, I, hno⟩
  have hml := I.c.len H
  have hle := I.le
  have hdl : ((mp.map (·.1)).drop k).length = mp.length - k := by simp
  all_goals (repeat' (first | refine K_seq ?_ | refine k_cond rfl ?_ | refine K_skip ?_ | refine K_exit ?_ | refine K_scope ?_ | refine K_label ?_ | (refine K_region (id := 10) ?_; refine mv ?_; (first | refine lnB S ?_ | refine lnS S rfl rfl ?_); (first | refine cT ?_ | refine cF ?_ | (refine cS ?_ ?_ <;> intro hc)) <;> (refine KO_nil ?_))))
  · have hk : k < mp.length := by omega
    (repeat (refine K_seq ?_)); first | refine K_join1 (σ := NMap × (Nat → Nat) × Value) (fun (mp, pa, v14) h' => Hs h0 h' [.sl v14 9 1 eS ((mp.map (·.1)).drop k), .mp m str mp, .sl un 9 1 eS ns] ∧ BI r a mp pa (k + 1) ∧ (∀ i, i < k + 1 → nmA mp i ≠ b)) (fun (mp, pa, v14) => [(0, .pointer (some ⟨p, 0, none⟩)), (2, str b), (12, un), (13, .map (some m)), (14, v14)]) ?_ ?_ | refine K_cut (σ := NMap × (Nat → Nat) × Value) (fun (mp, pa, v14) h' => Hs h0 h' [.sl v14 9 1 eS ((mp.map (·.1)).drop k), .mp m str mp, .sl un 9 1 eS ns] ∧ BI r a mp pa (k + 1) ∧ (∀ i, i < k + 1 → nmA mp i ≠ b)) (fun (mp, pa, v14) => [(0, .pointer (some ⟨p, 0, none⟩)), (2, str b), (12, un), (13, .map (some m)), (14, v14)]) ?_ ?_
    · all_goals (repeat' (first | refine K_seq ?_ | refine k_cond rfl ?_ | refine K_skip ?_ | refine K_exit ?_ | refine k_block ?_ | refine K_scope ?_ | refine K_label ?_))
      all_goals (repeat' (first | refine K_seq ?_ | refine k_cond rfl ?_ | refine K_skip ?_ | refine K_exit ?_ | refine k_block ?_ | refine K_scope ?_ | refine K_label ?_ | (refine K_region (id := 12) ?_; refine mv ?_; (first | refine ixB S ?_ | refine ixS2 S rfl rfl ?_); (first | refine lB S rfl rfl ?_ | refine lES2 S rfl rfl ?_ | refine lEB S ?_ | refine lH S ?_); refine mv ?_; (refine tS ?_ ?_ <;> intro hc) <;> (refine KO_nil ?_))))
      all_goals (simp only [Int.toNat_zero, drop_get0] at *)
      · all_goals (repeat' (first | refine K_seq ?_ | refine k_cond rfl ?_ | refine K_skip ?_ | refine K_exit ?_ | refine k_block ?_ | refine K_scope ?_ | refine K_label ?_ | (refine K_region (id := 13) ?_; refine mv ?_; refine KO_nil ?_)))
        have S := S.nilS (e := 9) (z := 1) (enc := eS)
        have S := (show Hs h0 h [.sl (.slice none 0 0) 9 1 eS [], .mp m str mp] from S.pick)
        all_goals (repeat' (first | refine K_seq ?_ | refine k_cond rfl ?_ | refine K_skip ?_ | refine K_exit ?_ | refine k_block ?_ | refine K_scope ?_ | refine K_label ?_ | (refine K_region (id := 14) ?_; refine mv ?_; refine mv ?_; refine KO_nil ?_)))
        refine k_loop (σ := Value × List (List UInt8) × List (List UInt8) × List UInt8) (fun (v15, L, T, n) h' => Hs h0 h' [.sl v15 9 1 eS L, .mp m str mp] ∧ tpth mp pa k = T ++ L.reverse ∧ ((T = [] ∧ n = []) ∨ ∃ j, j < mp.length ∧ T = tpth mp pa j ∧ n = nmA mp j)) (fun (v15, L, T, n) => T.length) (fun (v15, L, T, n) => [(13, .map (some m)), (15, v15), (16, str n)]) (.slice none 0 0, [], tpth mp pa k, b) (by repeat (first | exact Ks.le_nil _ | refine Ks.le_cons rfl ?_ | refine Ks.le_int ?_)) ?_ ?_
        · exact ⟨S, by simp, .inr ⟨k, hk, rfl, hc.symm⟩⟩
        clear S
        rintro ⟨v15, L, T, n⟩ h ⟨S, e1, e2⟩
        have htl := tpth_len mp pa k
        have hLl : L.length ≤ 65 := by
          have := congrArg List.length e1
          simp at this; omega
        all_goals (repeat' (first | refine K_seq ?_ | refine k_cond rfl ?_ | refine K_skip ?_ | refine K_exit ?_ | refine k_block ?_ | refine K_scope ?_ | refine K_label ?_ | (refine K_region (id := 15) ?_; refine mv ?_; (refine tS ?_ ?_ <;> intro hc) <;> (refine KO_nil ?_))))
        · have hT : T = [] := by
            rcases e2 with ⟨h1, h2⟩ | ⟨j, j1, j2, j3⟩
            · exact h1
            · exact absurd (j3.symm.trans (by assumption)) (gat_ne H (I.c.kn j j1))
          rw [hT, List.nil_append] at e1
          skip
          all_goals (repeat' (first | refine K_seq ?_ | refine k_cond rfl ?_ | refine K_skip ?_ | refine K_exit ?_ | refine k_block ?_ | refine K_scope ?_ | refine K_label ?_ | (refine K_region (id := 18) ?_; refine mv ?_)))
          (refine KO_fn rfl rfl rfl rfl rfl ((reverse_ok S (by omega)).mono ?_); rintro _ h S) <;> (refine KO_nil ?_)
          all_goals (repeat' (first | refine K_seq ?_ | refine k_cond rfl ?_ | refine K_skip ?_ | refine K_exit ?_ | refine k_block ?_ | refine K_scope ?_ | refine K_label ?_ | (refine K_region (id := 18) ?_; refine mv ?_) | (refine K_region (id := 19) ?_; refine mv ?_; refine mv ?_; refine mv ?_; refine KO_nil ?_)))
          refine K_ret ⟨_, rfl, ?_⟩
          have hf := I.found hk
          rw [‹nmA mp k = b›, e1] at hf
          exact .inl ⟨v15, _, rfl, S.only .here, hak, hbk, hf, by rw [← e1]; omega⟩
        · obtain ⟨j, j1, j2, j3⟩ := e2.resolve_left (fun q => absurd q.2 (by assumption))
          skip
          all_goals (repeat' (first | refine K_seq ?_ | refine k_cond rfl ?_ | refine K_skip ?_ | refine K_exit ?_ | refine k_block ?_ | refine K_scope ?_ | refine K_label ?_ | (refine K_region (id := 17) ?_; refine mv ?_; refine mv ?_; (refine one 1 S ?_; clear S; intro u h S))))
          refine app (y0 := n) S rfl rfl ?_; clear S; intro v15 h S; (refine mv ?_; refine KO_nil ?_)
          all_goals (repeat' (first | refine K_seq ?_ | refine k_cond rfl ?_ | refine K_skip ?_ | refine K_exit ?_ | refine k_block ?_ | refine K_scope ?_ | refine K_label ?_ | (refine K_region (id := 16) ?_; refine mv ?_; refine mv ?_)))
          have hg := mGet_nd I.c.nd j1
          rw [← j3] at hg
          refine lk S (.there .here) (fun y hy => ?_) (fun hy => by rw [hg] at hy; cases hy)
          rw [hg] at hy; cases hy
          simp only [okV]
          (refine mv ?_; refine KO_nil ?_)
          rcases Nat.eq_zero_or_pos j with z | z
          · subst z
            rw [tpth0] at j2
            rw [I.c.f0]
            refine ⟨(v15, L ++ [n], [], []), ?_, ?_, (by repeat (first | exact Ks.le_nil _ | refine Ks.le_cons rfl ?_ | refine Ks.le_int ?_))⟩
            · show ([] : List (List UInt8)).length < T.length
              rw [j2]; simp
            · refine ⟨S, ?_, .inl ⟨rfl, rfl⟩⟩
              rw [e1, j2, j3]; simp
          · have hp := (I.c.fr j z j1).1
            rw [I.c.step z j1] at j2
            rw [hp]
            refine ⟨(v15, L ++ [n], tpth mp pa (pa j), nmA mp (pa j)), ?_, ?_, (by repeat (first | exact Ks.le_nil _ | refine Ks.le_cons rfl ?_ | refine Ks.le_int ?_))⟩
            · show (tpth mp pa (pa j)).length < T.length
              rw [j2]; simp
            · have := I.c.lt j z j1
              refine ⟨S, ?_, .inr ⟨pa j, by omega, rfl, rfl⟩⟩
              rw [e1, j2, j3]; simp
      · have J0' := I.start (ns := ns) hk
        all_goals (repeat' (first | refine K_seq ?_ | refine k_cond rfl ?_ | refine K_skip ?_ | refine K_exit ?_ | refine k_block ?_ | refine K_scope ?_ | refine K_label ?_ | (refine K_region (id := 20) ?_; refine mv ?_; (first | refine lnB S ?_ | refine lnS S rfl rfl ?_); refine mv ?_; refine KO_nil ?_)))
        refine k_loop (σ := Nat × NMap × (Nat → Nat) × Value) (fun (i, mp, pa, v14) h' => Hs h0 h' [.sl v14 9 1 eS ((mp.map (·.1)).drop k), .mp m str mp, .sl un 9 1 eS ns] ∧ i ≤ ns.length ∧ BJ r ns a mp pa k i ∧ (∀ i, i < k + 1 → nmA mp i ≠ b)) (fun (i, mp, pa, v14) => ns.length - i) (fun (i, mp, pa, v14) => [(0, .pointer (some ⟨p, 0, none⟩)), (2, str b), (12, un), (13, .map (some m)), (14, v14), (77, un), (78, .int .i64 ns.length), (79, .int .i64 i)]) (0, mp, pa, v14) (by repeat (first | exact Ks.le_nil _ | refine Ks.le_cons rfl ?_ | refine Ks.le_int ?_)) ?_ ?_
        · exact ⟨S, Nat.zero_le _, J0', nxtD hno hc⟩
        clear S I hno hml hle hdl hc J0' hk
        rintro ⟨i, mp, pa, v14⟩ h ⟨S, i1, J, hno⟩
        have hml := J.c.len H
        have hk := J.lt
        have hdl : ((mp.map (·.1)).drop k).length = mp.length - k := by simp
        all_goals (repeat' (first | refine K_seq ?_ | refine k_cond rfl ?_ | refine K_skip ?_ | refine K_exit ?_ | refine k_block ?_ | refine K_scope ?_ | refine K_label ?_ | (refine K_region (id := 21) ?_; (first | refine cT ?_ | refine cF ?_ | (refine cS ?_ ?_ <;> intro hc)) <;> (refine KO_nil ?_))))
        · have hil : i < ns.length := by omega
          obtain ⟨n, hn⟩ : ∃ n, ns.getD i default = n := ⟨_, rfl⟩
          all_goals (repeat' (first | refine K_seq ?_ | refine k_cond rfl ?_ | refine K_skip ?_ | refine K_exit ?_ | refine k_block ?_ | refine K_scope ?_ | refine K_label ?_ | (refine K_region (id := 22) ?_; (first | refine ixB S ?_ | refine ixS2 S rfl rfl ?_); (first | refine lB S rfl rfl ?_ | refine lES2 S rfl rfl ?_ | refine lEB S ?_ | refine lH S ?_); refine mv ?_; refine KO_nil ?_) | (refine K_region (id := 23) ?_; refine mv ?_; refine mv ?_)))
          simp only [Int.toNat_natCast, hn]
          refine lk S (.there .here) (fun y hy => ?_) (fun hy => ?_)
          · simp only [okV]
            (refine mv ?_; refine vl ?_; refine vl ?_; refine mv ?_; refine mv ?_; refine KO_nil ?_)
            all_goals (repeat' (first | refine K_seq ?_ | refine k_cond rfl ?_ | refine K_skip ?_ | refine K_exit ?_ | refine k_block ?_ | refine K_scope ?_ | refine K_label ?_ | (refine K_region (id := 24) ?_; refine mv ?_; refine vl ?_; refine mv ?_; (first | refine off ?_ | refine mv ?_); (first | refine off ?_ | refine mv ?_); (first | refine off ?_ | (first | refine ixB S ?_ | refine ixS2 S rfl rfl ?_)); (first | refine off ?_ | (first | refine lB S rfl rfl ?_ | refine lES2 S rfl rfl ?_ | refine lEB S ?_ | refine lH S ?_)); (first | refine off ?_ | refine mv ?_); (first | (refine off ?_; (first | refine off ?_ | (first | refine lnB S ?_ | refine lnS S rfl rfl ?_)); (first | refine off ?_ | (first | refine cT ?_ | refine cF ?_ | (refine cS ?_ ?_ <;> intro hc))) <;> (refine vl ?_; refine KO_nil ?_)) | skip))))
            all_goals (repeat' (first | refine K_seq ?_ | refine k_cond rfl ?_ | refine K_skip ?_ | refine K_exit ?_ | refine k_block ?_ | refine K_scope ?_ | refine K_label ?_ | (refine K_region (id := 27) ?_; (first | refine ad ?_ | refine vl ?_); refine mv ?_; refine KO_nil ?_)))
            refine ⟨(i + 1, mp, pa, v14), ?_, ?_, (by repeat (first | exact Ks.le_nil _ | refine Ks.le_cons rfl ?_ | refine Ks.le_int ?_))⟩
            · show ns.length - (i + 1) < ns.length - i; omega
            · have hnm : mGet mp n ≠ none := by rw [hy]; simp
              exact ⟨S, hil, J.skip (.inl (by rw [hn]; exact hnm)) (fun _ => by rw [hn]; exact mGet_mem.1 hnm), hno⟩
          · simp only [okV]
            (refine mv ?_; refine vl ?_; refine vl ?_; refine mv ?_; refine mv ?_; refine KO_nil ?_)
            skip
            all_goals (repeat' (first | refine K_seq ?_ | refine k_cond rfl ?_ | refine K_skip ?_ | refine K_exit ?_ | refine k_block ?_ | refine K_scope ?_ | refine K_label ?_ | (refine K_region (id := 24) ?_; refine mv ?_; refine vl ?_; refine mv ?_; (first | refine off ?_ | refine mv ?_); (first | refine off ?_ | refine mv ?_); (first | refine off ?_ | (first | refine ixB S ?_ | refine ixS2 S rfl rfl ?_)); (first | refine off ?_ | (first | refine lB S rfl rfl ?_ | refine lES2 S rfl rfl ?_ | refine lEB S ?_ | refine lH S ?_)); (first | refine off ?_ | refine mv ?_); (first | (refine off ?_; (first | refine off ?_ | (first | refine lnB S ?_ | refine lnS S rfl rfl ?_)); (first | refine off ?_ | (first | refine cT ?_ | refine cF ?_ | (refine cS ?_ ?_ <;> intro hc))) <;> (refine vl ?_; refine KO_nil ?_)) | skip))))
            simp only [Int.toNat_zero, drop_get0] at *
            (refine KO_fn rfl rfl rfl rfl rfl ((common_ok S.wf (B0.ext w S.ext) H (nmA mp k) n).mono ?_); rintro uc h ⟨lc, x, c1, c2⟩) <;> (replace S := S.join1 x; clear x; (first | refine off ?_ | (first | refine lnB S ?_ | refine lnS S rfl rfl ?_)); (first | refine off ?_ | (first | refine cT ?_ | refine cF ?_ | (refine cS ?_ ?_ <;> intro hc))) <;> (refine vl ?_; refine KO_nil ?_))
            all_goals (repeat' (first | refine K_seq ?_ | refine k_cond rfl ?_ | refine K_skip ?_ | refine K_exit ?_ | refine k_block ?_ | refine K_scope ?_ | refine K_label ?_ | (refine K_region (id := 24) ?_; refine mv ?_; refine vl ?_; refine mv ?_; (first | refine off ?_ | refine mv ?_); (first | refine off ?_ | refine mv ?_); (first | refine off ?_ | (first | refine ixB S ?_ | refine ixS2 S rfl rfl ?_)); (first | refine off ?_ | (first | refine lB S rfl rfl ?_ | refine lES2 S rfl rfl ?_ | refine lEB S ?_ | refine lH S ?_)); (first | refine off ?_ | refine mv ?_); (first | (refine off ?_; (first | refine off ?_ | (first | refine lnB S ?_ | refine lnS S rfl rfl ?_)); (first | refine off ?_ | (first | refine cT ?_ | refine cF ?_ | (refine cS ?_ ?_ <;> intro hc))) <;> (refine vl ?_; refine KO_nil ?_)) | skip))))
            · have hsp : spk r (nmA mp k) n := comF_spk.1 (by rw [← c1]; omega)
              all_goals (repeat' (first | refine K_seq ?_ | refine k_cond rfl ?_ | refine K_skip ?_ | refine K_exit ?_ | refine k_block ?_ | refine K_scope ?_ | refine K_label ?_ | (refine K_region (id := 25) ?_; refine mv ?_; refine mv ?_; refine mv ?_; (first | refine ixB S ?_ | refine ixS2 S rfl rfl ?_); (first | refine lB S rfl rfl ?_ | refine lES2 S rfl rfl ?_ | refine lEB S ?_ | refine lH S ?_))))
              simp only [Int.toNat_zero, drop_get0]
              refine up (x := nmA mp k) (key := n) S (.there (.there .here)) (.there (.there .here)) (fun h S => ?_) (.inl rfl)
              (refine KO_nil ?_)
              all_goals (repeat' (first | refine K_seq ?_ | refine k_cond rfl ?_ | refine K_skip ?_ | refine K_exit ?_ | refine k_block ?_ | refine K_scope ?_ | refine K_label ?_ | (refine K_region (id := 26) ?_; refine mv ?_; refine mv ?_; (refine one 1 S ?_; clear S; intro u h S))))
              refine app (y0 := n) S rfl rfl ?_; clear S; intro v14 h S; (refine mv ?_; refine KO_nil ?_)
              skip
              all_goals (repeat' (first | refine K_seq ?_ | refine k_cond rfl ?_ | refine K_skip ?_ | refine K_exit ?_ | refine k_block ?_ | refine K_scope ?_ | refine K_label ?_ | (refine K_region (id := 27) ?_; (first | refine ad ?_ | refine vl ?_); refine mv ?_; refine KO_nil ?_)))
              rw [mPut_new hy] at S
              have J2 := J.add n1 hil (by rw [hn]; exact fun q => mGet_mem.2 q hy) (by rw [hn]; exact hsp)
              rw [hn] at J2
              refine ⟨(i + 1, mp ++ [(n, nmA mp k)], paU pa mp.length k, v14), ?_, ?_, (by repeat (first | exact Ks.le_nil _ | refine Ks.le_cons rfl ?_ | refine Ks.le_int ?_))⟩
              · show ns.length - (i + 1) < ns.length - i; omega
              · refine ⟨?_, hil, J2, fun z hz => ?_⟩
                · have ed : ((mp ++ [(n, nmA mp k)]).map (·.1)).drop k = (mp.map (·.1)).drop k ++ [n] := by
                    rw [List.map_append, List.drop_append_of_le_length (by simp; omega)]; rfl
                  show Hs h0 h [.sl v14 9 1 eS (((mp ++ [(n, nmA mp k)]).map (·.1)).drop k), .mp m str (mp ++ [(n, nmA mp k)]), .sl un 9 1 eS ns]
                  rw [ed]
                  exact S.pick
                · have : nmA (mp ++ [(n, nmA mp k)]) z = nmA mp z := by unfold nmA; rw [gA1 (by omega)]
                  dsimp only
                  rw [this]; exact hno z hz
            · have hsp : ¬ spk r (nmA mp k) n := fun q => by
                have := comF_spk.2 q
                rw [← c1] at this; omega
              skip
              all_goals (repeat' (first | refine K_seq ?_ | refine k_cond rfl ?_ | refine K_skip ?_ | refine K_exit ?_ | refine k_block ?_ | refine K_scope ?_ | refine K_label ?_ | (refine K_region (id := 27) ?_; (first | refine ad ?_ | refine vl ?_); refine mv ?_; refine KO_nil ?_)))
              refine ⟨(i + 1, mp, pa, v14), ?_, ?_, (by repeat (first | exact Ks.le_nil _ | refine Ks.le_cons rfl ?_ | refine Ks.le_int ?_))⟩
              · show ns.length - (i + 1) < ns.length - i; omega
              · exact ⟨S.pick, hil, J.skip (.inr (by rw [hn]; exact hsp)) (fun q => by rw [hn] at q; exact absurd hy q), hno⟩
        · obtain rfl : i = ns.length := by omega
          exact ⟨(mp, pa, v14), ⟨S.pick, J.fin fun y hy => (n2 y).2 hy, hno⟩, ((by repeat (first | exact Ks.le_nil _ | refine Ks.le_cons rfl ?_ | refine Ks.le_int ?_)))⟩
    · clear S I hno hml hle hdl hk
      rintro ⟨mp, pa, v14⟩ h ⟨S, I, hno⟩
      have hml := I.c.len H
      have hle := I.le
      skip
      all_goals (repeat' (first | refine K_seq ?_ | refine k_cond rfl ?_ | refine K_skip ?_ | refine K_exit ?_ | refine k_block ?_ | refine K_scope ?_ | refine K_label ?_ | (refine K_region (id := 11) ?_; refine mv ?_; (refine dr S rfl rfl ?_; clear S; intro vq S); refine mv ?_; refine KO_nil ?_)))
      refine ⟨(k + 1, mp, pa, vq), ?_, ?_, (by repeat (first | exact Ks.le_nil _ | refine Ks.le_cons rfl ?_ | refine Ks.le_int ?_))⟩
      · show 65 - (k + 1) < 65 - k; omega
      · refine ⟨?_, I, hno⟩
        (try dsimp only)
        rw [show ((mp.map (·.1)).drop (k + 1)) = ((mp.map (·.1)).drop k).drop (Int.toNat 1) from by rw [List.drop_drop]; rfl]
        exact S.pick
  · have hk : k = mp.length := by omega
    subst hk
    skip
    all_goals (repeat' (first | refine K_seq ?_ | refine k_cond rfl ?_ | refine K_skip ?_ | refine K_exit ?_ | refine k_block ?_ | refine K_scope ?_ | refine K_label ?_ | (refine K_region (id := 28) ?_; refine mv ?_; refine mv ?_; refine KO_nil ?_)))
    refine K_ret ⟨_, rfl, ?_⟩
    exact .inr ⟨rfl, fun _ _ => I.lost hno, S.drop⟩
end Go.Proofs.Xx

/-
  BookChains.
-/
namespace Go.Proofs.Xx
open Go Go.Proofs
set_option linter.unusedSimpArgs false
set_option linter.unusedVariables false
set_option linter.unusedSectionVars false
set_option maxRecDepth 100000
set_option maxHeartbeats 4000000

variable [Flag]
theorem chainY_ok {h0 : AH} (w : WfH h0) {p : Nat} {r : Rl} (B : BkRd h0 p r) (H : RO r) (a b : List UInt8) (ha : gat r.us a ≠ none) (hb : gat r.us b ≠ none) (hp : ∃ Q, Pth r a Q b) : Fn Tryz.prog Xh 29 [.pointer (some ⟨p, 0, none⟩), str a, str b] h0 (fun u h' => ∃ v P, u = .tuple #[v, .bool true] ∧ Hs h0 h' [.sl v 9 1 eS P] ∧ ChainOk r a b P ∧ P.length ≤ 64) :=
  (chain_ok w B H a b).mono fun u h' q => by
    rcases q with ⟨v, P, h1, h2, -, -, h3, h4⟩ | ⟨-, h2, -⟩
    · exact ⟨v, P, h1, h2, h3, h4⟩
    · obtain ⟨Q, hq⟩ := hp
      exact absurd hq (h2 ha hb Q)
theorem chainN_ok {h0 : AH} (w : WfH h0) {p : Nat} {r : Rl} (B : BkRd h0 p r) (H : RO r) (a b : List UInt8) (hn : gat r.us a = none ∨ ¬ ∃ Q, Pth r a Q b) : Fn Tryz.prog Xh 29 [.pointer (some ⟨p, 0, none⟩), str a, str b] h0 (fun u h' => u = .tuple #[.slice none 0 0, .bool false] ∧ Hs h0 h' []) :=
  (chain_ok w B H a b).mono fun u h' q => by
    rcases q with ⟨v, P, h1, h2, h3, -, h5, -⟩ | ⟨h1, -, h3⟩
    · rcases hn with z | z
      · exact absurd z h3
      · exact absurd ⟨P, h5.pth⟩ z
    · exact ⟨h1, h3⟩
end Go.Proofs.Xx

/-
  The core of BookChains.
-/
namespace Go.Proofs.Xx
open Go Go.Proofs
set_option linter.unusedSimpArgs false
set_option linter.unusedVariables false
set_option linter.unusedSectionVars false
set_option maxRecDepth 100000

theorem AR.u8 {h : AH} {n : Nat} {r : List Value} (a : AR Tryz.prog h n 5 r) : ∃ x : Nat, r = [.int .u8 x] ∧ x < 256 := by
  obtain ⟨x, hx, hw⟩ := a.int1 (k := .u8) (by kernel_rfl)
  have : 0 ≤ x ∧ x < 256 := by
    simp [Lit.wf, IntKind.min, IntKind.max, IntKind.signed, IntKind.bits] at hw
    omega
  exact ⟨x.toNat, by rw [hx, Int.toNat_of_nonneg this.1], by omega⟩
end Go.Proofs.Xx

/-
  Ties tied and untied: plain laws.
-/
namespace Go.Proofs.Xx
open Go Go.Proofs
set_option linter.unusedSimpArgs false
set_option linter.unusedVariables false
set_option linter.unusedSectionVars false
set_option maxRecDepth 100000

theorem sMin_comm (a b : List UInt8) : sMin a b = sMin b a := by
  unfold sMin
  rcases sLt_tri a b with h | h | h
  · rw [if_neg (sLt_asymm h), if_pos h]
  · subst h; rfl
  · rw [if_pos h, if_neg (sLt_asymm h)]
theorem sMax_comm (a b : List UInt8) : sMax a b = sMax b a := by
  unfold sMax
  rcases sLt_tri a b with h | h | h
  · rw [if_pos h, if_neg (sLt_asymm h)]
  · subst h; rfl
  · rw [if_neg (sLt_asymm h), if_pos h]
theorem sMinMax {a b : List UInt8} (h : a ≠ b) : sLt (sMin a b) (sMax a b) ∧ ((sMin a b = a ∧ sMax a b = b) ∨ (sMin a b = b ∧ sMax a b = a)) := by
  rcases sLt_tri a b with q | q | q
  · rw [sMin_lt q, sMax_lt q]; exact ⟨q, .inl ⟨rfl, rfl⟩⟩
  · exact absurd q h
  · rw [sMin_comm, sMax_comm, sMin_lt q, sMax_lt q]; exact ⟨q, .inr ⟨rfl, rfl⟩⟩
/-- Every pair has its place. -/
theorem plc_ex {ts : List Ti} (hs : TS ts) (y : Ti) : ∃ i, Plc ts y i := by
  induction ts with
  | nil => exact ⟨0, Nat.le_refl _, fun j hj => absurd hj (Nat.not_lt_zero _), fun j _ hj => absurd hj (Nat.not_lt_zero _)⟩
  | cons x r ih =>
    by_cases h : bef x y
    · obtain ⟨i, i1, i2, i3⟩ := ih (List.pairwise_cons.1 hs).2
      refine ⟨i + 1, by simp; exact i1, fun j hj => ?_, fun j h1 h2 => ?_⟩
      · cases j with
        | zero => exact h
        | succ j => exact i2 j (by omega)
      · cases j with
        | zero => omega
        | succ j => exact i3 j (by omega) (by simp at h2; omega)
    · refine ⟨0, Nat.zero_le _, fun j hj => absurd hj (Nat.not_lt_zero _), fun j _ hj q => h ?_⟩
      rcases Nat.eq_zero_or_pos j with z | z
      · subst z; exact q
      · exact bef_trans (hs.lt z hj) q
theorem Plc.kind {ts : List Ti} {a b : List UInt8} {k k' : Int} {i : Nat} (h : Plc ts ⟨a, b, k⟩ i) : Plc ts ⟨a, b, k'⟩ i := ⟨h.1, h.2.1, h.2.2⟩
theorem ts_put {ts : List Ti} {a b : List UInt8} {k : Int} (hs : TS ts) (hn : ¬ tied ts a b) : ∃ i, i ≤ ts.length ∧ putT ts (tiOf a b k) = ts.take i ++ tiOf a b k :: ts.drop i ∧ TS (putT ts (tiOf a b k)) := by
  obtain ⟨i, hi⟩ := plc_ex hs ⟨sMin a b, sMax a b, 0⟩
  have e := putT_plc (t := tiOf a b k) (hi.kind (k' := k))
  refine ⟨i, hi.1, e, ?_⟩
  rw [e, TS, List.pairwise_append]
  refine ⟨List.Pairwise.sublist (List.take_sublist i ts) hs, List.pairwise_cons.2 ⟨fun y hy => ?_, List.Pairwise.sublist (List.drop_sublist i ts) hs⟩, fun x hx y hy => ?_⟩
  · obtain ⟨j, hj, rfl⟩ := mem_iff_getD.1 hy
    simp only [List.length_drop] at hj
    have ej : (ts.drop i).getD j default = ts.getD (i + j) default := by
      rw [List.getD_eq_getElem?_getD, List.getD_eq_getElem?_getD, List.getElem?_drop]
    rw [ej]
    rcases bef_tri (ts.getD (i + j) default) (tiOf a b k) with q | q | q
    · exact absurd q (hi.2.2 (i + j) (by omega) (by omega))
    · exact absurd ⟨_, mem_getD (show i + j < ts.length by omega), q⟩ hn
    · exact q
  · obtain ⟨j, hj, rfl⟩ := mem_iff_getD.1 hx
    simp only [List.length_take] at hj
    rw [getD_take (by omega)]
    have h1 := hi.2.1 j (by omega)
    rcases List.mem_cons.1 hy with rfl | hy
    · exact h1
    · obtain ⟨m, hm, rfl⟩ := mem_iff_getD.1 hy
      simp only [List.length_drop] at hm
      have ej : (ts.drop i).getD m default = ts.getD (i + m) default := by
        rw [List.getD_eq_getElem?_getD, List.getD_eq_getElem?_getD, List.getElem?_drop]
      rw [ej]
      exact hs.lt (by omega) (by omega)
theorem RO.tie {r : Rl} (H : RO r) {a b : List UInt8} {k : Int} (h : (tieF r a b k).2 = 0) : RO (tieF r a b k).1 := by
  obtain ⟨h1, h2, h3, h4, h5, h6, h7⟩ := tieF_zero h
  rw [h7]
  obtain ⟨i, hi, e, hs⟩ := ts_put (k := k) H.ts h5
  obtain ⟨m1, m2⟩ := sMinMax h2
  refine ⟨H.chk, H.nd, H.l64, hs, fun t ht => ?_, ?_⟩
  · simp only at ht
    rw [e] at ht
    have : t ∈ r.ts ∨ t = tiOf a b k := by
      rcases List.mem_append.1 ht with q | q
      · exact .inl (List.mem_of_mem_take q)
      · rcases List.mem_cons.1 q with q | q
        · exact .inr q
        · exact .inl (List.mem_of_mem_drop q)
    rcases this with q | rfl
    · exact H.tt t q
    · refine ⟨m1, h1, ?_⟩
      rcases m2 with ⟨e1, e2⟩ | ⟨e1, e2⟩
      · show Xx.gat r.us (sMin a b) ≠ none ∧ Xx.gat r.us (sMax a b) ≠ none
        rw [e1, e2]; exact ⟨h3, h4⟩
      · show Xx.gat r.us (sMin a b) ≠ none ∧ Xx.gat r.us (sMax a b) ≠ none
        rw [e1, e2]; exact ⟨h4, h3⟩
  · simp only
    rw [e]; simp; omega
end Go.Proofs.Xx

/-
  BookTies.
-/
namespace Go.Proofs.Xx
open Go Go.Proofs
set_option linter.unusedSimpArgs false
set_option linter.unusedVariables false
set_option linter.unusedSectionVars false
set_option maxRecDepth 100000
set_option maxHeartbeats 4000000

/-- The tie of a pair. -/
def tieOf (ts : List Ti) (a b : List UInt8) : Option Ti := ts.find? fun t => decide (t.a = sMin a b ∧ t.b = sMax a b)
theorem tieOf_comm (ts : List Ti) (a b : List UInt8) : tieOf ts a b = tieOf ts b a := by unfold tieOf; rw [sMin_comm a b, sMax_comm a b]
theorem tieOf_some {ts : List Ti} {a b : List UInt8} {t : Ti} (h : tieOf ts a b = some t) : t ∈ ts ∧ t.a = sMin a b ∧ t.b = sMax a b := by
  have h1 := List.find?_some h
  exact ⟨List.mem_of_find?_eq_some h, by simpa using h1⟩
theorem tieOf_none {ts : List Ti} {a b : List UInt8} (h : tieOf ts a b = none) : ¬ tied ts a b := by
  rintro ⟨t, ht, h1, h2⟩
  have := List.find?_eq_none.1 h t ht
  simp [h1, h2] at this
theorem tieOf_eq {ts : List Ti} {a b : List UInt8} {t : Ti} (hs : TS ts) (ht : t ∈ ts) (h1 : t.a = sMin a b) (h2 : t.b = sMax a b) : tieOf ts a b = some t := by
  cases h : tieOf ts a b with
  | none => exact absurd ⟨t, ht, h1, h2⟩ (tieOf_none h)
  | some u =>
    obtain ⟨hu, u1, u2⟩ := tieOf_some h
    obtain ⟨i, hi, rfl⟩ := mem_iff_getD.1 ht
    obtain ⟨j, hj, rfl⟩ := mem_iff_getD.1 hu
    rcases Nat.lt_trichotomy i j with q | q | q
    · rcases hs.lt q hj with y | y
      · rw [h1, u1] at y; exact absurd y (sLt_irr _)
      · rw [h2, u2] at y; exact absurd y.2 (sLt_irr _)
    · rw [q]
    · rcases hs.lt q hi with y | y
      · rw [h1, u1] at y; exact absurd y (sLt_irr _)
      · rw [h2, u2] at y; exact absurd y.2 (sLt_irr _)
def tkd (o : Option Ti) : Value := match o with | some t => .tuple #[.int .u8 t.k, .bool true] | none => .tuple #[.int .u8 0, .bool false]
variable [Flag]
theorem tiedF_ok {h0 : AH} (w : WfH h0) {p : Nat} {r : Rl} (B : BkRd h0 p r) (H : RO r) (a b : List UInt8) : Fn Tryz.prog Xh 36 [.pointer (some ⟨p, 0, none⟩), str a, str b] h0 (fun u h' => u = tkd (tieOf r.ts a b) ∧ Hs h0 h' []) :=
  (tied_ok w B H a b).mono fun u h' q => by
    refine ⟨?_, q.2⟩
    rcases q.1 with ⟨t, h1, h2, h3, h4⟩ | ⟨h1, h2⟩
    · rw [tieOf_eq H.ts h1 h2 h3, h4]; rfl
    · cases h : tieOf r.ts a b with
      | none => rw [h2]; rfl
      | some t => exact absurd ⟨t, tieOf_some h⟩ h1
end Go.Proofs.Xx

/-
  Ties and neighbours.
-/
namespace Go.Proofs.Xx
open Go Go.Proofs
set_option linter.unusedSimpArgs false
set_option linter.unusedVariables false
set_option linter.unusedSectionVars false

theorem tieOf_adj {r : Rl} (H : RO r) {k : Int} {a b : List UInt8} (h : adj r k a b) : ∃ t, tieOf r.ts a b = some t ∧ t.k = k := by
  obtain ⟨t, h1, h2, h3⟩ := h
  have hlt := (H.tt t h1).1
  refine ⟨t, ?_, h2⟩
  rcases h3 with ⟨rfl, rfl⟩ | ⟨rfl, rfl⟩
  · exact tieOf_eq H.ts h1 (sMin_lt hlt).symm (sMax_lt hlt).symm
  · rw [tieOf_comm]; exact tieOf_eq H.ts h1 (sMin_lt hlt).symm (sMax_lt hlt).symm
theorem adj_tieOf {r : Rl} {a b : List UInt8} {t : Ti} (h : tieOf r.ts a b = some t) : adj r t.k a b := by
  obtain ⟨h1, h2, h3⟩ := tieOf_some h
  refine ⟨t, h1, rfl, ?_⟩
  by_cases q : sLt b a
  · have e1 : sMin a b = b := if_pos q
    have e2 : sMax a b = a := if_neg (sLt_asymm q)
    exact .inr ⟨by rw [h3, e2], by rw [h2, e1]⟩
  · have e1 : sMin a b = a := if_neg q
    refine .inl ⟨by rw [h2, e1], ?_⟩
    rw [h3]; unfold sMax
    split
    · rfl
    · rename_i q2
      rcases sLe_of q with e | e
      · exact e
      · exact absurd e q2
theorem tkd_adj {r r' : Rl} (H : RO r) (H' : RO r') {a b a' b' : List UInt8} (h : ∀ k, adj r k a b ↔ adj r' k a' b') : tkd (tieOf r.ts a b) = tkd (tieOf r'.ts a' b') := by
  cases q : tieOf r.ts a b with
  | some t =>
    obtain ⟨t', h1, h2⟩ := tieOf_adj H' ((h t.k).1 (adj_tieOf q))
    rw [h1]; unfold tkd; simp only [h2]
  | none =>
    cases q' : tieOf r'.ts a' b' with
    | none => rfl
    | some t =>
      obtain ⟨t', h1, h2⟩ := tieOf_adj H ((h t.k).2 (adj_tieOf q'))
      rw [q] at h1; cases h1
variable [Flag]
end Go.Proofs.Xx

/-
  A guest with another name: plain laws.
-/
namespace Go.Proofs.Xx
open Go Go.Proofs
set_option linter.unusedSimpArgs false
set_option linter.unusedVariables false
set_option linter.unusedSectionVars false

def renN (f t n : List UInt8) : List UInt8 := if n = f then t else n
def renT (f t : List UInt8) (x : Ti) : Ti := tiOf (renN f t x.a) (renN f t x.b) x.k
def renU (us : List Gu) (i : Nat) (t : List UInt8) : List Gu := us.set i { us.getD i default with name := t }
/-- The i-th guest is now called t. -/
structure Ren (r r' : Rl) (i : Nat) (t : List UInt8) : Prop where
  us : r'.us = renU r.us i t
  pm : r'.ts.Perm (r.ts.map (renT (r.us.getD i default).name t))
  ts : TS r'.ts
theorem renN_f (f t : List UInt8) : renN f t f = t := if_pos rfl
theorem renN_o {f t n : List UInt8} (h : n ≠ f) : renN f t n = n := if_neg h
theorem renN_back {f t n : List UInt8} (h : n ≠ t) : renN t f (renN f t n) = n := by
  by_cases e : n = f
  · rw [e, renN_f, renN_f]
  · rw [renN_o e, renN_o h]
theorem renN_inj {f t n m : List UInt8} (h1 : n ≠ t) (h2 : m ≠ t) (h : renN f t n = renN f t m) : n = m := by
  rw [← renN_back (f := f) h1, h, renN_back h2]
theorem tiOf_set (a b : List UInt8) (k : Int) : ((tiOf a b k).a = a ∧ (tiOf a b k).b = b) ∨ ((tiOf a b k).a = b ∧ (tiOf a b k).b = a) := by
  unfold tiOf sMin sMax
  simp only
  by_cases h : sLt b a
  · rw [if_pos h, if_neg (sLt_asymm h)]; exact .inr ⟨rfl, rfl⟩
  · rw [if_neg h]
    rcases sLe_of h with e | e
    · subst e; rw [if_neg (sLt_irr _)]; exact .inl ⟨rfl, rfl⟩
    · rw [if_pos e]; exact .inl ⟨rfl, rfl⟩
theorem tiOf_lt {a b : List UInt8} (k : Int) (h : a ≠ b) : sLt (tiOf a b k).a (tiOf a b k).b := by
  unfold tiOf sMin sMax
  simp only
  by_cases q : sLt b a
  · rw [if_pos q, if_neg (sLt_asymm q)]; exact q
  · rw [if_neg q]
    rcases sLe_of q with e | e
    · exact absurd e h
    · rw [if_pos e]; exact e
theorem tiOf_eq {t : Ti} (h : sLt t.a t.b) {a b : List UInt8} (e : (a = t.a ∧ b = t.b) ∨ (a = t.b ∧ b = t.a)) : tiOf a b t.k = t := by
  unfold tiOf
  rcases e with ⟨rfl, rfl⟩ | ⟨rfl, rfl⟩
  · rw [sMin_lt h, sMax_lt h]
  · rw [sMin_comm, sMax_comm, sMin_lt h, sMax_lt h]
theorem TS.eq : ∀ {l m : List Ti}, TS l → TS m → l.Perm m → l = m
  | [], m, _, _, p => (List.nil_perm.1 p).symm
  | x :: l, [], _, _, p => absurd p.length_eq (by simp)
  | x :: l, y :: m, h1, h2, p => by
    have a1 := List.pairwise_cons.1 h1
    have a2 := List.pairwise_cons.1 h2
    have e : x = y := by
      rcases List.mem_cons.1 (p.mem_iff.1 (List.mem_cons_self (a := x) (l := l))) with q | q
      · exact q
      · rcases List.mem_cons.1 (p.mem_iff.2 (List.mem_cons_self (a := y) (l := m))) with g | g
        · exact g.symm
        · exact absurd (bef_trans (a1.1 y g) (a2.1 x q)) (bef_irr x)
    subst e
    rw [TS.eq a1.2 a2.2 (List.Perm.cons_inv p)]
theorem renU_get {us : List Gu} {i : Nat} {t : List UInt8} (hi : i < us.length) (k : Nat) : (renU us i t).getD k default = if k = i then { us.getD i default with name := t } else us.getD k default := getD_set _ _ hi k
theorem renU_len (us : List Gu) (i : Nat) (t : List UInt8) : (renU us i t).length = us.length := by simp [renU]
theorem gat_eq {us : List Gu} (nd : ∀ i j, i < j → j < us.length → (us.getD i default).name ≠ (us.getD j default).name) {i : Nat} (hi : i < us.length) {n : List UInt8} (hn : (us.getD i default).name = n) : gat us n = some i := by
  cases hq : gat us n with
  | none => exact absurd hn (gat_none.1 hq _ (mem_getD hi))
  | some j =>
    obtain ⟨h1, h2, h3⟩ := gat_some hq
    rcases Nat.lt_trichotomy i j with q | q | q
    · exact absurd hn (h3 i q)
    · rw [q]
    · exact absurd (h2.trans hn.symm) (nd j i q hi)
section
variable {r r' : Rl} {i : Nat} {f t : List UInt8}
theorem renU_nd (H : RO r) (hi : i < r.us.length) (ht : gat r.us t = none) : ∀ j k, j < k → k < (renU r.us i t).length → ((renU r.us i t).getD j default).name ≠ ((renU r.us i t).getD k default).name := fun j k hjk hk => by
  rw [renU_len] at hk
  rw [renU_get hi, renU_get hi]
  have hz := gat_none.1 ht
  by_cases e1 : j = i
  · rw [if_pos e1, if_neg (by omega)]
    exact fun q => hz _ (mem_getD hk) q.symm
  · rw [if_neg e1]
    by_cases e2 : k = i
    · rw [if_pos e2]
      exact hz _ (mem_getD (by omega))
    · rw [if_neg e2]; exact H.nd j k hjk hk
theorem gat_ren (H : RO r) (hi : i < r.us.length) (hf : (r.us.getD i default).name = f) (ht : gat r.us t = none) {n : List UInt8} (hn : n ≠ t) : gat (renU r.us i t) (renN f t n) = gat r.us n := by
  have nd := renU_nd H hi ht
  have hl := renU_len r.us i t
  by_cases e : n = f
  · rw [e, renN_f, ← hf, H.gat hi]
    exact gat_eq nd (by omega) (by rw [renU_get hi, if_pos rfl])
  · rw [renN_o e]
    cases hq : gat r.us n with
    | none =>
      rw [gat_none] at hq ⊢
      intro g hg
      obtain ⟨k, hk, rfl⟩ := mem_iff_getD.1 hg
      rw [renU_get hi]
      split
      · exact hn.symm
      · exact hq _ (mem_getD (by omega))
    | some j =>
      obtain ⟨h1, h2, h3⟩ := gat_some hq
      refine gat_eq nd (by omega) ?_
      rw [renU_get hi, if_neg]
      · exact h2
      · intro q
        rw [q, hf] at h2; exact e h2.symm
theorem gat_renF (H : RO r) (hi : i < r.us.length) (hf : (r.us.getD i default).name = f) (ht : gat r.us t = none) : gat (renU r.us i t) f = none := by
  have hft : f ≠ t := fun q => by
    have := H.gat hi
    rw [hf, q, ht] at this; cases this
  rw [gat_none]
  intro g hg
  obtain ⟨k, hk, rfl⟩ := mem_iff_getD.1 hg
  rw [renU_len] at hk
  rw [renU_get hi]
  split
  · exact hft.symm
  · rename_i h
    intro q
    rcases Nat.lt_trichotomy k i with z | z | z
    · exact H.nd k i z hi (q.trans hf.symm)
    · exact h z
    · exact H.nd i k z hk (hf.trans q.symm)
theorem chk_ren {g : Gu} (h : chkG g = 0) (ht : nameP t) : chkG { g with name := t } = 0 := by
  obtain ⟨h1, h2, h3, h4, h5⟩ := chkG_ok h
  have hn : NmsOk { g with name := t } := ⟨ht, h1.2⟩
  unfold chkG
  rw [if_neg (Classical.not_not.2 hn), if_neg (Classical.not_not.2 h2), if_neg (Classical.not_not.2 h3), if_neg (Classical.not_not.2 ⟨h4, h5⟩)]
theorem Ren.mem (R : Ren r r' i t) (hf : (r.us.getD i default).name = f) {x : Ti} : x ∈ r'.ts ↔ ∃ y ∈ r.ts, renT f t y = x := by
  rw [R.pm.mem_iff, List.mem_map, hf]
theorem Ren.ro (R : Ren r r' i t) (H : RO r) (hi : i < r.us.length) (hn : nameP t) (ht : gat r.us t = none) : RO r' := by
  have hl := renU_len r.us i t
  refine ⟨fun g hg => ?_, ?_, ?_, R.ts, fun x hx => ?_, ?_⟩
  · rw [R.us] at hg
    obtain ⟨k, hk, rfl⟩ := mem_iff_getD.1 hg
    rw [renU_get hi]
    split
    · exact chk_ren (H.chk _ (mem_getD hi)) hn
    · exact H.chk _ (mem_getD (by omega))
  · rw [R.us]; exact renU_nd H hi ht
  · rw [R.us, hl]; exact H.l64
  · obtain ⟨y, hy, rfl⟩ := (R.mem rfl).1 hx
    obtain ⟨y1, y2, y3, y4⟩ := H.tt y hy
    have ya : y.a ≠ t := fun q => y3 (q ▸ ht)
    have yb : y.b ≠ t := fun q => y4 (q ▸ ht)
    have g1 : gat r'.us (renN (r.us.getD i default).name t y.a) ≠ none := by rw [R.us, gat_ren H hi rfl ht ya]; exact y3
    have g2 : gat r'.us (renN (r.us.getD i default).name t y.b) ≠ none := by rw [R.us, gat_ren H hi rfl ht yb]; exact y4
    refine ⟨tiOf_lt _ fun q => sLt_ne y1 (renN_inj ya yb q), y2, ?_⟩
    unfold renT
    rcases tiOf_set (renN (r.us.getD i default).name t y.a) (renN (r.us.getD i default).name t y.b) y.k with ⟨e1, e2⟩ | ⟨e1, e2⟩
    · rw [e1, e2]; exact ⟨g1, g2⟩
    · rw [e1, e2]; exact ⟨g2, g1⟩
  · rw [R.pm.length_eq, List.length_map]; exact H.l256
theorem Ren.adj (R : Ren r r' i t) (H : RO r) (hf : (r.us.getD i default).name = f) (ht : gat r.us t = none) {k : Int} {a b : List UInt8} (ha : a ≠ t) (hb : b ≠ t) : Xx.adj r k a b ↔ Xx.adj r' k (renN f t a) (renN f t b) := by
  constructor
  · rintro ⟨x, h1, h2, h3⟩
    refine ⟨renT f t x, (R.mem hf).2 ⟨x, h1, rfl⟩, h2, ?_⟩
    unfold renT
    rcases tiOf_set (renN f t x.a) (renN f t x.b) x.k with ⟨e1, e2⟩ | ⟨e1, e2⟩
    · rw [e1, e2]
      rcases h3 with ⟨rfl, rfl⟩ | ⟨rfl, rfl⟩
      · exact .inl ⟨rfl, rfl⟩
      · exact .inr ⟨rfl, rfl⟩
    · rw [e1, e2]
      rcases h3 with ⟨rfl, rfl⟩ | ⟨rfl, rfl⟩
      · exact .inr ⟨rfl, rfl⟩
      · exact .inl ⟨rfl, rfl⟩
  · rintro ⟨x, h1, h2, h3⟩
    obtain ⟨y, hy, rfl⟩ := (R.mem hf).1 h1
    obtain ⟨y1, y2, y3, y4⟩ := H.tt y hy
    have ya : y.a ≠ t := fun q => y3 (q ▸ ht)
    have yb : y.b ≠ t := fun q => y4 (q ▸ ht)
    refine ⟨y, hy, h2, ?_⟩
    unfold renT at h3
    rcases tiOf_set (renN f t y.a) (renN f t y.b) y.k with ⟨e1, e2⟩ | ⟨e1, e2⟩
    · rw [e1, e2] at h3
      rcases h3 with ⟨g1, g2⟩ | ⟨g1, g2⟩
      · exact .inl ⟨renN_inj ya ha g1, renN_inj yb hb g2⟩
      · exact .inr ⟨renN_inj yb ha g1, renN_inj ya hb g2⟩
    · rw [e1, e2] at h3
      rcases h3 with ⟨g1, g2⟩ | ⟨g1, g2⟩
      · exact .inr ⟨renN_inj yb ha g1, renN_inj ya hb g2⟩
      · exact .inl ⟨renN_inj ya ha g1, renN_inj yb hb g2⟩
theorem Ren.spk (R : Ren r r' i t) (H : RO r) (hi : i < r.us.length) (hf : (r.us.getD i default).name = f) (ht : gat r.us t = none) {a b : List UInt8} (ha : a ≠ t) (hb : b ≠ t) : Xx.spk r a b ↔ Xx.spk r' (renN f t a) (renN f t b) := by
  have tg : ∀ k, (r'.us.getD k default).tg = (r.us.getD k default).tg := fun k => by
    rw [R.us, renU_get hi]
    split
    · rename_i e; rw [e]
    · rfl
  unfold Xx.spk
  rw [R.us, gat_ren H hi hf ht ha, gat_ren H hi hf ht hb]
  rw [← R.us]
  simp only [tg]
theorem Ren.pth (R : Ren r r' i t) (H : RO r) (hi : i < r.us.length) (hf : (r.us.getD i default).name = f) (ht : gat r.us t = none) {a b : List UInt8} {Q : List (List UInt8)} (h : Pth r a Q b) : Pth r' (renN f t a) (Q.map (renN f t)) (renN f t b) := by
  induction h with
  | one => exact .one
  | snoc h s ih =>
    rw [List.map_append]
    have hw : ∀ {n}, gat r.us n ≠ none → n ≠ t := fun q e => q (e ▸ ht)
    exact ih.snoc ((R.spk H hi hf ht (hw s.kn.1) (hw s.kn.2)).1 s)
theorem Ren.pthB (R : Ren r r' i t) (H : RO r) (hi : i < r.us.length) (hf : (r.us.getD i default).name = f) (ht : gat r.us t = none) {a b : List UInt8} {Q : List (List UInt8)} (h : Pth r' a Q b) : Pth r (renN t f a) (Q.map (renN t f)) (renN t f b) := by
  have hft := gat_renF H hi hf ht
  rw [← R.us] at hft
  induction h with
  | one => exact .one
  | snoc h s ih =>
    rename_i Q w z
    rw [List.map_append]
    have hw : ∀ {n}, gat r'.us n ≠ none → n ≠ f := fun q e => q (e ▸ hft)
    have w1 := hw s.kn.1
    have w2 := hw s.kn.2
    have hno : ∀ {n}, n ≠ f → renN t f n ≠ t := fun {n} q e => by
      by_cases z : n = t
      · rw [z, renN_f] at e
        rw [z] at q; exact q e.symm
      · rw [renN_o z] at e; exact z e
    refine ih.snoc ((R.spk H hi hf ht (hno w1) (hno w2)).2 ?_)
    rw [renN_back w1, renN_back w2]; exact s
theorem ChainOk.ren (R : Ren r r' i t) (H : RO r) (hi : i < r.us.length) (hf : (r.us.getD i default).name = f) (ht : gat r.us t = none) {b : List UInt8} (hb : b ≠ f) (hb2 : b ≠ t) {P P' : List (List UInt8)} (h : ChainOk r f b P) (h' : ChainOk r' t b P') : P.length = P'.length := by
  have h1 := R.pth H hi hf ht h.pth
  rw [renN_f, renN_o hb] at h1
  have h2 := R.pthB H hi hf ht h'.pth
  rw [renN_f, renN_o hb2] at h2
  have h3 := h'.sh _ h1
  have h4 := h.sh _ h2
  simp at h3 h4
  omega
theorem Ren.back {r'' : Rl} (R : Ren r r' i t) (H : RO r) (hi : i < r.us.length) (hf : (r.us.getD i default).name = f) (ht : gat r.us t = none) (R2 : Ren r' r'' i f) : r'' = r := by
  have hl := renU_len r.us i t
  have e1 : r''.us = r.us := by
    rw [R2.us, R.us]
    apply eq_getD (by rw [renU_len, renU_len])
    intro k hk
    rw [renU_get (by omega)]
    split
    · rename_i e
      rw [renU_get hi, if_pos rfl, e, ← hf]
    · rename_i e
      rw [renU_get hi, if_neg e]
  have hn : (r'.us.getD i default).name = t := by rw [R.us, renU_get hi, if_pos rfl]
  have e2 : r''.ts = r.ts := by
    refine TS.eq R2.ts H.ts (R2.pm.trans ?_)
    rw [hn]
    refine (R.pm.map _).trans ?_
    rw [hf, List.map_map]
    have : r.ts.map (renT t f ∘ renT f t) = r.ts := by
      conv => rhs; rw [← List.map_id r.ts]
      refine List.map_congr_left fun x hx => ?_
      obtain ⟨y1, y2, y3, y4⟩ := H.tt x hx
      have ya : x.a ≠ t := fun q => y3 (q ▸ ht)
      have yb : x.b ≠ t := fun q => y4 (q ▸ ht)
      show tiOf (renN t f (tiOf (renN f t x.a) (renN f t x.b) x.k).a) (renN t f (tiOf (renN f t x.a) (renN f t x.b) x.k).b) x.k = x
      rcases tiOf_set (renN f t x.a) (renN f t x.b) x.k with ⟨e1, e2⟩ | ⟨e1, e2⟩
      · rw [e1, e2, renN_back ya, renN_back yb]
        exact tiOf_eq y1 (.inl ⟨rfl, rfl⟩)
      · rw [e1, e2, renN_back ya, renN_back yb]
        exact tiOf_eq y1 (.inr ⟨rfl, rfl⟩)
    rw [this]
  cases r; cases r''; simp only at e1 e2; rw [e1, e2]
end
end Go.Proofs.Xx

/-
  Ties compared; lengths up to 511.
-/
namespace Go.Proofs.Xx
open Go Go.Proofs
set_option linter.unusedSimpArgs false
set_option linter.unusedVariables false
set_option linter.unusedSectionVars false
set_option maxRecDepth 100000

def lenW (n : Nat) : Nat := if n < 256 then (lenTab.getD n 0).toNat else 8 + (lenTab.getD (n / 256) 0).toNat
theorem lenW_tab : ∀ n, n < 512 → 0 < n → lenW n ≤ 9 ∧ n < 2 ^ lenW n ∧ 2 ^ lenW n ≤ 2 * n := by decide +kernel
theorem lenW_le (n : Nat) (h : n < 512) : lenW n ≤ 9 := by
  rcases Nat.eq_zero_or_pos n with q | q
  · subst q; decide
  · exact (lenW_tab n h q).1
abbrev cvT : Value := .func (.func 82) #[] #[]
theorem bef_ord : WOrd bef := ⟨bef_irr, bef_trans, fun {x y z} h1 h2 h => by
  rcases bef_tri x y with q | q | q
  · exact h2 (bef_trans h q)
  · refine h2 ?_
    rcases h with h | h
    · exact .inl (by rw [← q.1]; exact h)
    · exact .inr ⟨by rw [← q.1]; exact h.1, by rw [← q.2]; exact h.2⟩
  · exact h1 q⟩
variable [Flag]
theorem cmpT_ok {h0 : AH} (w : WfH h0) (x y : Ti) : Fn Tryz.prog Xh 82 [tiV x, tiV y] h0 (fun v h' => ∃ d, v = .int .i64 d ∧ ((d < 0 ∧ bef x y) ∨ (0 ≤ d ∧ ¬ bef x y)) ∧ Hs h0 h' []) :=
  (order_ok w x y).mono fun u h' q => by
    obtain ⟨⟨c, rfl, e1, e2⟩, S⟩ := q
    refine ⟨c, rfl, ?_, S⟩
    rcases Int.lt_or_le c 0 with z | z
    · exact .inl ⟨z, e1.1 z⟩
    · exact .inr ⟨z, fun b => by have := e1.2 b; omega⟩
theorem len64W_ok {h0 : AH} (w : WfH h0) (n : Nat) (hn : n < 512) : Fn Tryz.prog Xh 162 [.int .u64 n] h0 (fun v h' => v = .int .i64 (lenW n : Int) ∧ Hs h0 h' []) := by
  rcases Nat.lt_or_ge n 256 with q | q
  · have := len64_ok w n q
    unfold lenW; rw [if_pos q]; exact this
  unfold lenW; rw [if_neg (by omega)]
  have S := Hs.start w
  have hl := lenTab_len
  have hb : (lenTab.getD (n / 256) 0).toNat < 256 := UInt8.toNat_lt _
  refine Fn_K rfl Tryz.func162 rfl rfl ?_
  have e : (n : Int) / ((2 ^ min (Int.toNat 8) IntKind.u64.bits : Nat) : Int) = ((n / 256 : Nat) : Int) := by
    rw [show (2 ^ min (Int.toNat 8) IntKind.u64.bits : Nat) = 256 by decide]; rfl
  all_goals (repeat' (first | refine K_seq ?_ | refine k_cond rfl ?_ | refine K_skip ?_ | refine K_exit ?_ | refine k_block ?_ | refine K_scope ?_ | refine K_label ?_ | (refine K_region (id := 0) ?_; refine mv ?_; refine KO_nil ?_) | (refine K_region (id := 1) ?_; refine mv ?_; (first | refine cT ?_ | refine cF ?_ | (refine cS ?_ ?_ <;> intro hc)) <;> (refine KO_nil ?_)) | (refine K_region (id := 4) ?_; refine mv ?_; (first | refine cT ?_ | refine cF ?_ | (refine cS ?_ ?_ <;> intro hc)) <;> (refine KO_nil ?_)) | (refine K_region (id := 7) ?_; refine mv ?_; (first | refine cT ?_ | refine cF ?_ | (refine cS ?_ ?_ <;> intro hc)) <;> (refine KO_nil ?_)) | (refine K_region (id := 8) ?_; refine mv ?_; (first | refine sR1 ?_ | refine sR ?_); refine mv ?_; refine KO_nil ?_) | (refine K_region (id := 9) ?_; refine mv ?_; (first | refine ad ?_ | refine vl ?_); refine mv ?_; refine KO_nil ?_)))
  simp only [e]
  refine K_region (id := 10) ?_
  refine mv ?_; refine mv ?_; refine cU ?_
  refine ti (l := lenTab) ?_
  rw [Int.toNat_natCast]
  (first | refine cI ?_ | refine vl ?_); (first | refine ad ?_ | refine vl ?_); refine mv ?_; refine KO_nil ?_
  all_goals (repeat' (first | refine K_seq ?_ | refine k_cond rfl ?_ | refine K_skip ?_ | refine K_exit ?_ | refine k_block ?_ | refine K_scope ?_ | refine K_label ?_ | (refine K_region (id := 0) ?_; refine mv ?_; refine KO_nil ?_) | (refine K_region (id := 1) ?_; refine mv ?_; (first | refine cT ?_ | refine cF ?_ | (refine cS ?_ ?_ <;> intro hc)) <;> (refine KO_nil ?_)) | (refine K_region (id := 2) ?_; refine mv ?_; (first | refine sR1 ?_ | refine sR ?_); refine mv ?_; refine KO_nil ?_) | (refine K_region (id := 3) ?_; refine mv ?_; refine KO_nil ?_) | (refine K_region (id := 4) ?_; refine mv ?_; (first | refine cT ?_ | refine cF ?_ | (refine cS ?_ ?_ <;> intro hc)) <;> (refine KO_nil ?_)) | (refine K_region (id := 5) ?_; refine mv ?_; (first | refine sR1 ?_ | refine sR ?_); refine mv ?_; refine KO_nil ?_) | (refine K_region (id := 6) ?_; refine mv ?_; (first | refine ad ?_ | refine vl ?_); refine mv ?_; refine KO_nil ?_) | (refine K_region (id := 7) ?_; refine mv ?_; (first | refine cT ?_ | refine cF ?_ | (refine cS ?_ ?_ <;> intro hc)) <;> (refine KO_nil ?_)) | (refine K_region (id := 8) ?_; refine mv ?_; (first | refine sR1 ?_ | refine sR ?_); refine mv ?_; refine KO_nil ?_) | (refine K_region (id := 9) ?_; refine mv ?_; (first | refine ad ?_ | refine vl ?_); refine mv ?_; refine KO_nil ?_) | (refine K_region (id := 10) ?_; refine mv ?_; refine mv ?_; (first | refine cU ?_ | refine vl ?_); (first | refine ti ?_ | refine vl ?_); (first | refine cI ?_ | refine vl ?_); (first | refine ad ?_ | refine vl ?_); refine mv ?_; refine KO_nil ?_)))
  refine K_ret ⟨_, rfl, ?_⟩
  exact ⟨by show Value.int .i64 (8 + _) = _; rfl, S⟩
theorem lenW_ok {h0 : AH} (w : WfH h0) (n : Nat) (hn : n < 512) : Fn Tryz.prog Xh 126 [.int .u64 n] h0 (fun v h' => v = .int .i64 (lenW n : Int) ∧ Hs h0 h' []) := by
  have S := Hs.start w
  refine Fn_K rfl Tryz.func126 rfl rfl ?_
  all_goals (repeat' (first | refine K_seq ?_ | refine k_cond rfl ?_ | refine K_skip ?_ | refine K_exit ?_ | refine k_block ?_ | refine K_scope ?_ | refine K_label ?_ | (refine K_region (id := 0) ?_; refine mv ?_; refine KO_nil ?_) | (refine K_region (id := 2) ?_; refine mv ?_)))
  (refine KO_fn rfl rfl rfl rfl rfl ((len64W_ok S.wf n hn).mono ?_); rintro _ h ⟨rfl, x⟩) <;> (replace S := S.join0 x; clear x; refine mv ?_; refine KO_nil ?_)
  all_goals (repeat' (first | refine K_seq ?_ | refine k_cond rfl ?_ | refine K_skip ?_ | refine K_exit ?_ | refine k_block ?_ | refine K_scope ?_ | refine K_label ?_ | (refine K_region (id := 0) ?_; refine mv ?_; refine KO_nil ?_) | (refine K_region (id := 1) ?_; refine mv ?_) | (refine K_region (id := 2) ?_; refine mv ?_)))
  refine K_ret ⟨_, rfl, ?_⟩
  exact ⟨rfl, S⟩
theorem npotW_ok {h0 : AH} (w : WfH h0) (n : Nat) (hn : 0 < n ∧ n < 512) : Fn Tryz.prog Xh 189 [.int .i64 n] h0 (fun v h' => ∃ P : Int, v = .int .u64 P ∧ (n : Int) < P ∧ P ≤ 2 * n ∧ Hs h0 h' []) := by
  have S := Hs.start w
  have hk := lenW_tab n hn.2 hn.1
  refine Fn_K rfl Tryz.func189 rfl rfl ?_
  all_goals (repeat' (first | refine K_seq ?_ | refine k_cond rfl ?_ | refine K_skip ?_ | refine K_exit ?_ | refine k_block ?_ | refine K_scope ?_ | refine K_label ?_ | (refine K_region (id := 0) ?_; refine mv ?_; refine KO_nil ?_) | (refine K_region (id := 1) ?_; refine mv ?_; (first | refine cW ?_ | refine vl ?_))))
  (refine KO_fn rfl rfl rfl rfl rfl ((lenW_ok S.wf n hn.2).mono ?_); rintro _ h ⟨rfl, x⟩) <;> (replace S := S.join0 x; clear x; (first | refine sL ?_ | (refine aW ?_; intro r1 hr1 hr2)); refine mv ?_; refine KO_nil ?_)
  all_goals (repeat' (first | refine K_seq ?_ | refine k_cond rfl ?_ | refine K_skip ?_ | refine K_exit ?_ | refine k_block ?_ | refine K_scope ?_ | refine K_label ?_))
  refine K_ret ⟨_, rfl, ?_⟩
  refine ⟨_, rfl, ?_, ?_, S⟩
  · have : (n : Int) < ((2 ^ lenW n : Nat) : Int) := by exact_mod_cast hk.2.1
    simpa using this
  · have : ((2 ^ lenW n : Nat) : Int) ≤ ((2 * n : Nat) : Int) := by exact_mod_cast hk.2.2
    simpa using this
end Go.Proofs.Xx
